/-
  What the walks of spoilt and cut frames want of memory: a byte of a row of the call's own stored, a row of one row, 'append([]byte{}, ..)'. Conditions stand at each theorem.
-/
import Derived.Test.YtajpinbabgcnkaaFrameMakes
import Derived.Test.YtajpinbabgcnkaaFrameSpoilPlain
import Derived.Test.YtajpinbabgcnkaaFrameRead
namespace Go.Proofs.Ytajpinbabgcnkaa
open Go Go.RowKit Go.Kw Go.Kw.Crc Go.Kw.Fm
set_option linter.unusedVariables false
set_option linter.unusedSimpArgs false

theorem bv_spoil (c : List UInt8) (k : Nat) (v : UInt8) (hk : k < c.length) :
    (bv c).set k (.int .u8 (bits .xor .u8 (bAt c k) (v.toNat : Int))) = bv (spoil c k v) := by
  have e2 : bits .xor .u8 (bAt c k) (v.toNat : Int) = (((c.getD k 0 ^^^ v).toNat : Nat) : Int) := by
    rw [UInt8.toNat_xor]; unfold bAt
    exact u8_xor_nat _ _ (UInt8.toNat_lt _) (UInt8.toNat_lt _)
  rw [e2]; unfold bv spoil; rw [List.map_set]
theorem own_ge' {w : World} {base e size g n cap : Nat} {xs : List Value} (h : w.ownsRow base e size (.slice (some ⟨g, 0, none⟩) n cap) n xs) : base ≤ g := by
  rcases h.2 with ⟨h', _⟩ | ⟨g', cap', cur, h', hb, _⟩
  · simp at h'
  · simp only [Value.slice.injEq, Option.some.injEq, Addr.mk.injEq, and_true, true_and] at h'
    obtain ⟨rfl, rfl⟩ := h'
    exact hb
theorem cell_at' {w : World} {base g c N : Nat} {e : TypeId} {d : List UInt8} (o : w.ownsRow base e 1 (.slice (some ⟨g, 0, none⟩) N c) N (bv d)) (k : Nat) (hN : N = d.length) (hk : k < N) : w.cell? ⟨g, k, none⟩ = some (.int .u8 (bAt d k)) := by
  subst hN
  rw [o.cellAt k (by omega)]; unfold bv
  rw [List.getElem?_map, List.getElem?_eq_getElem hk]; simp [bAt, List.getD, hk]
/-- A new row of one row of bytes. -/
theorem RdL.lit (w : World) (A : Option Addr) (m : List UInt8) (c : Nat) (hR : RdB w w.heap.size A m) (hz : A = none → m.length = 0) (hc : m.length ≤ c) (hc2 : c ≤ 9223372036854775807) :
    RdL (w.alloc (.cells #[.slice A m.length c] 23)) (fun _ => True) (some ⟨w.heap.size, 0, none⟩) [m] := by
  have hg := blk_new w #[.slice A m.length c] 23
  refine ⟨fun _ => (A, c), .inr ⟨w.heap.size, 0, rfl, trivial, by simp, fun i hi => ?_⟩, fun k hk => ?_⟩
  · simp only [List.length_cons, List.length_nil] at hi
    match i, hi with
    | 0, _ => exact blk_cell hg 0 rfl
  · obtain rfl : k = 0 := by simpa using hk
    exact ⟨(RdY.of (S := fun _ => True) hR (fun _ _ => trivial)).go (bstep w _), hz, hc, hc2⟩
/-- 'append([]byte{}, l...)' -/
theorem append_new (w : World) (A : Option Addr) (n c : Nat) (l : List UInt8) (hn : n = l.length) (hl : l.length ≤ 1000000) (hR : RdB w w.heap.size A l) (hz : A = none → l.length = 0) :
    ∃ A' c' w', (Builtin.append_ #[23, 23] 23 #[.slice (some ⟨w.heap.size, 0, none⟩) 0 0, .slice A n c]).run Try.prog (w.alloc (.cells #[] 5)) = .ok (.slice A' n c') w' ∧ w'.ownsRow w.heap.size 5 1 (.slice A' n c') n (bv l) ∧ Below w.heap.size w w' := by
  subst hn
  have ho := World.ownsRow_made (size := 1) (e := 5) w #[] 0 (Nat.le_refl _) (by decide) rfl
  obtain ⟨A', c', w', h1, h2, h3, -⟩ := append_bytes (P := Try.prog) (t := 23) eb (w.alloc (.cells #[] 5)) w.heap.size (l := []) ho l.length c (hR.go (bstep w _)) rfl (by rw [List.length_nil]; omega) (by simp) hz
  rw [List.nil_append] at h1 h2
  exact ⟨A', c', w', h1, h2, (bstep w _).trans h3⟩
theorem put_bad (B : Option Addr) (m d : Nat) (b : List UInt8) (hm : m = b.length) (hb : mayR b = false) (hl : b.length ≤ 100000) (w : World) (hR : RdB w w.heap.size B b) (hzB : B = none → b.length = 0) :
    Calls Try.prog 11 #[.slice none 0 0, .slice B m d] w fun e w' => e = .returned (.tuple #[.slice none 0 0, .int .i64 130]) ∧ Below w.heap.size w w' := by
  refine (put_n none B 0 m 0 d [] b rfl hm (by decide) hl w (.inl rfl) hR (fun _ => rfl) hzB).mono ?_
  rintro e w' ⟨hp, hb2⟩
  unfold PutPost at hp
  rw [hb, if_neg (by decide)] at hp
  exact ⟨hp, hb2⟩
theorem put_good (B : Option Addr) (m d : Nat) (b : List UInt8) (hm : m = b.length) (hb : mayR b = true) (N : Nat) (hN : N = 6 + m) (w : World) (hR : RdB w w.heap.size B b) (hzB : B = none → b.length = 0) :
    Calls Try.prog 11 #[.slice none 0 0, .slice B m d] w fun e w' => (∃ A' c', e = .returned (.tuple #[.slice A' N c', .int .i64 0]) ∧ w'.ownsRow w.heap.size 5 1 (.slice A' N c') N (bv (frm b))) ∧ Below w.heap.size w w' := by
  have hbl := (mayR_iff b).1 hb
  refine (put_n none B 0 m 0 d [] b rfl hm (by decide) (by omega) w (.inl rfl) hR (fun _ => rfl) hzB).mono ?_
  rintro e w' ⟨hp, hb2⟩
  unfold PutPost at hp
  rw [hb, if_pos rfl, List.nil_append, frm_length, ← hm, ← hN] at hp
  exact ⟨hp, hb2⟩
theorem read_bad (A : Option Addr) (n c : Nat) (l : List UInt8) (hn : n = l.length) (hl : l.length ≤ 1000000) (hc : n ≤ c) (hc2 : c ≤ 9223372036854775807) (hw : whyOf l ≠ 0) (w : World) (hR : RdB w w.heap.size A l) :
    Calls Try.prog 17 #[.slice A n c] w fun e w' => e = .returned (.tuple #[.slice none 0 0, .int .i64 0, .int .i64 130]) ∧ Below w.heap.size w w' := by
  refine (frameRead_calls A n c l hn hl hc hc2 w hR).mono ?_
  rintro e w' ⟨hp, hb⟩
  unfold ReadPost at hp
  rw [if_neg hw] at hp
  exact ⟨hp, hb⟩

end Go.Proofs.Ytajpinbabgcnkaa
