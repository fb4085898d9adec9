/-
  Two lists that are one: kilowattref07.Same, walked. Conditions stand at each theorem.
-/
import Derived.Test.YtoipmhmghcngcaaDoorZoneRef3
import Derived.Test.YtoipmhmghcngcaaDoorExtPlain
namespace Go.Proofs.YtoipmhmghcngcaaDoor
open Go Go.RowKit Go.Kw Go.Kw.Cv Go.Shelf
set_option linter.unusedVariables false
set_option linter.unusedSimpArgs false

/-- A list of numbers, as it is read. -/
def RdN (w : World) (B : Nat) (A : Option Addr) (L : List Int) : Prop := Rd w B A L.length (fun i => .int .i64 (L.getD i 0))
theorem RdN.at_ {w : World} {B : Nat} {A : Option Addr} {L : List Int} (h : RdN w B A L) {k : Nat} (hk : k < L.length) :
    ∃ b off, A = some ⟨b, off, none⟩ ∧ b < B ∧ w.cell? ⟨b, off + k, none⟩ = some (.int .i64 (L.getD k 0)) := by
  rcases h with h0 | ⟨b, off, e, hb, hc⟩
  · omega
  · exact ⟨b, off, e, hb, hc k hk⟩
set_option maxRecDepth 100000 in
set_option maxHeartbeats 8000000 in
theorem refSame_true (A B : Option Addr) (c d : Nat) (L : List Int) (hl : L.length ≤ 1000000) (w : World) (hA : RdN w w.heap.size A L) (hB : RdN w w.heap.size B L) :
    Calls Tryd.prog 23 #[.slice A L.length c, .slice B L.length d] w fun e w' => e = .returned (.bool true) ∧ Below w.heap.size w w' := by
  obtain ⟨b0, hb0⟩ : ∃ b0, w.heap.size = b0 := ⟨_, rfl⟩
  have Hb0 := Lib.hid hb0
  obtain ⟨n, hn⟩ : ∃ n, L.length = n := ⟨_, rfl⟩
  have HN := Lib.hid hn
  have HA := Lib.hid hA
  have HB := Lib.hid hB
  have Hl := Lib.hid (show n ≤ 1000000 by omega)
  have hbe : ((n : Int) == n) = true := by simp
  rw [hn]
  clear hn hA hB hl
  have hst : Below b0 w w := Below.refl _ _
  go_enter Tryd.func23, Tryd.ntmps23
  go_wp2_with fail
  go_loopw [5] (fun i wr => ∃ k : Nat, k ≤ n ∧ i = .int .i64 k ∧ Below b0 w wr) (fun i _ => n - (intOf i).toNat)
  case atStart => exact ⟨0, by omega, rfl, hst⟩
  case round =>
    obtain ⟨k, hk, rfl, hbl⟩ := hrel
    clear hst
    by_cases hlt : k < n
    · have hI : (k : Int) < n := by omega
      have hI0 : (0 : Int) ≤ k := by omega
      obtain ⟨ba, oa, rfl, hba, ca⟩ := HA.out.at_ (k := k) (by rw [HN.out]; exact hlt)
      obtain ⟨bb, ob, rfl, hbb, cb⟩ := HB.out.at_ (k := k) (by rw [HN.out]; exact hlt)
      obtain ⟨v, hv⟩ : ∃ v, L.getD k 0 = v := ⟨_, rfl⟩
      rw [hv] at ca cb
      have c0 := (hbl.cell (p := ⟨ba, oa + k, none⟩) (by have := Hb0.out; show ba < b0; omega)).trans ca
      have c1 := (hbl.cell (p := ⟨bb, ob + k, none⟩) (by have := Hb0.out; show bb < b0; omega)).trans cb
      have w1 : IntKind.i64.wrap ((k : Int) + 1) = (k : Int) + 1 := i64_same _ (by have := Hl.out; omega)
      have X1 := Lib.hid (wrap64_in ((k : Int) + 1) (by have := Hl.out; omega))
      have Hk := Lib.hid (show k + 1 ≤ n from hlt)
      have HBl := Lib.hid hbl
      clear ca cb hv hk hbl hlt
      go_wp2_with fail
      go_quiet (fail)
      have x1 := X1.out
      go_wp2_with fail
      clear x1
      exact ⟨⟨k + 1, Hk.out, by push_cast; rfl, HBl.out.drewN _⟩, meas_z n k Hk.out⟩
    · obtain rfl : k = n := by omega
      have hI : ¬ ((k : Int) < k) := by omega
      have HBl := Lib.hid hbl
      clear hk hlt hbl
      go_wp2_with fail
      go_ret
      exact ⟨rfl, by first | exact HBl.out | (rw [Hb0.out]; exact HBl.out) | (rw [← Hb0.out]; exact HBl.out)⟩
end Go.Proofs.YtoipmhmghcngcaaDoor
