/-
  Sum of package fixq, walked: its words, its closure. Conditions: at most 1,000 numbers, in their range.
-/
import Derived.Test.YtjmkbpgakfeceaaFixqArith
namespace Go.Proofs.Ytjmkbpgakfeceaa
open Go Go.RowKit Go.Kw Go.Shelf
attribute [local go_sem] Oper.semAt_some
set_option linter.unusedVariables false
set_option linter.unusedSimpArgs false

theorem run_store_func {P : Program} {a : Addr} {m : Mode} (f : Fn) (r : Array Value) (b : Array Value) (w : World) : (store a (.func f r b) m).run P w = stored P w a (.func f r b) m := run_store P w a _ m rfl
attribute [local go_sem] run_store_func
theorem add64_run (x y c : Int) (hx : 0 ≤ x) (hy : 0 ≤ y) (hc0 : 0 ≤ c) (hc : c ≤ 1) (w : World) :
    (callFunc 52 #[.int .u64 x, .int .u64 y, .int .u64 c]).run Try.prog w =
      .ok (.value (.tuple #[.int .u64 ((x + y + c) % 18446744073709551616), .int .u64 ((x + y + c) / 18446744073709551616)])) w := by
  rw [run_callFunc_extern Try.func52 (by kernel_rfl) (by kernel_rfl) (by kernel_rfl) (e := add64Entry) (by kernel_rfl), run_add64 x y c hx hy hc0 hc]
  rfl

def RdI (w : World) (B : Nat) (A : Option Addr) (zs : List Int) : Prop := Rd w B A zs.length (fun i => .int .i64 (zs.getD i 0))

/-- The number that both words make. -/
def lowI (xs : List Int) : Int := xs.sum % 18446744073709551616
def highI (xs : List Int) : Int := xs.sum / 18446744073709551616 % 18446744073709551616
theorem sum_snoc (xs : List Int) (k : Nat) (x : Int) (h : xs[k]? = some x) : (xs.take (k + 1)).sum = (xs.take k).sum + x := by
  obtain ⟨hlt, rfl⟩ := List.getElem?_eq_some_iff.1 h
  rw [List.take_succ_eq_append_getElem hlt, List.sum_append]; simp
theorem low_step (S x : Int) (hx : inR x) : (S % 18446744073709551616 + x % 18446744073709551616) % 18446744073709551616 = (S + x) % 18446744073709551616 := by omega
theorem high_step (S x : Int) (hx : inR x) : (S / 18446744073709551616 % 18446744073709551616 + x / 9223372036854775808 % 18446744073709551616 + (S % 18446744073709551616 + x % 18446744073709551616) / 18446744073709551616) % 18446744073709551616 = (S + x) / 18446744073709551616 % 18446744073709551616 := by
  unfold inR at hx
  have e1 : S = 18446744073709551616 * (S / 18446744073709551616) + S % 18446744073709551616 := by omega
  have r1 : 0 ≤ S % 18446744073709551616 ∧ S % 18446744073709551616 < 18446744073709551616 := by omega
  generalize S / 18446744073709551616 = q at *
  generalize S % 18446744073709551616 = r at *
  subst e1
  by_cases h0 : 0 ≤ x
  · have h1 : x / 9223372036854775808 = 0 := by omega
    have h2 : x % 18446744073709551616 = x := by omega
    have h3 : (18446744073709551616 * q + r + x) / 18446744073709551616 = q + (r + x) / 18446744073709551616 := by omega
    rw [h1, h2, h3]; omega
  · have h1 : x / 9223372036854775808 = -1 := by omega
    have h2 : x % 18446744073709551616 = x + 18446744073709551616 := by omega
    have h3 : (18446744073709551616 * q + r + x) / 18446744073709551616 = q + (r + (x + 18446744073709551616)) / 18446744073709551616 - 1 := by omega
    rw [h1, h2, h3]; omega

theorem sum_bound (zs : List Int) (h : ∀ x ∈ zs, inR x) : -(9223372036854775808 * (zs.length : Int)) ≤ zs.sum ∧ zs.sum ≤ 9223372036854775808 * (zs.length : Int) := by
  induction zs with
  | nil => simp
  | cons x zs ih =>
    have h1 := h x (by simp)
    have h2 := ih (fun y hy => h y (by simp [hy]))
    unfold inR at h1
    rw [List.sum_cons, List.length_cons]; push_cast; omega
theorem sum_test (zs : List Int) (hl : zs.length ≤ 1000) (hr : ∀ i, i < zs.length → inR (zs.getD i 0)) :
    (inR zs.sum → (IntKind.u64.wrap (wrap64 (lowI zs) / 9223372036854775808) == highI zs) = true ∧ wrap64 (lowI zs) = zs.sum) ∧
    (¬ inR zs.sum → (IntKind.u64.wrap (wrap64 (lowI zs) / 9223372036854775808) == highI zs) = false) := by
  obtain ⟨b1, b2⟩ := sum_bound zs (fun x hx => by
    obtain ⟨i, hi, rfl⟩ := List.mem_iff_getElem.1 hx
    have := hr i hi
    rwa [List.getD_eq_getElem?_getD, List.getElem?_eq_getElem hi] at this)
  rw [IntKind.wrap_u64]
  unfold lowI highI wrap64 inR
  generalize zs.sum = S at *
  have hb : -(9223372036854775808 * 1000) ≤ S ∧ S ≤ 9223372036854775808 * 1000 := by omega
  clear b1 b2 hr hl
  have e1 : S = 18446744073709551616 * (S / 18446744073709551616) + S % 18446744073709551616 := by omega
  have r1 : 0 ≤ S % 18446744073709551616 ∧ S % 18446744073709551616 < 18446744073709551616 := by omega
  generalize S / 18446744073709551616 = q at *
  generalize S % 18446744073709551616 = r at *
  subst e1
  have hq : -5000 ≤ q ∧ q ≤ 5000 := by omega
  by_cases hr : r < 9223372036854775808
  · have h1 : ((r + 9223372036854775808) % 18446744073709551616 - 9223372036854775808) = r := by omega
    have h2 : r / 9223372036854775808 % 18446744073709551616 = 0 := by omega
    rw [h1, h2]
    refine ⟨fun h => ⟨?_, by omega⟩, fun h => ?_⟩
    · simp only [beq_iff_eq]; omega
    · simp only [beq_eq_false_iff_ne, ne_eq]; omega
  · have h1 : ((r + 9223372036854775808) % 18446744073709551616 - 9223372036854775808) = r - 18446744073709551616 := by omega
    have h2 : (r - 18446744073709551616) / 9223372036854775808 % 18446744073709551616 = 18446744073709551615 := by omega
    rw [h1, h2]
    refine ⟨fun h => ⟨?_, by omega⟩, fun h => ?_⟩
    · simp only [beq_iff_eq]; omega
    · simp only [beq_eq_false_iff_ne, ne_eq]; omega

end Go.Proofs.Ytjmkbpgakfeceaa
