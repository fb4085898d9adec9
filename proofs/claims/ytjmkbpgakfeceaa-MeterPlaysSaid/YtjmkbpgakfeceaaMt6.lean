/-
  A meter: what Sample does, walked. Conditions stand at each theorem. (Printed by gen_mt6.py.)
-/
import Derived.Test.YtjmkbpgakfeceaaMt5
namespace Go.Proofs.Ytjmkbpgakfeceaa
open Go Go.RowKit Go.Kw Go.Kw.Mt
set_option linter.unusedVariables false
set_option linter.unusedSimpArgs false

/-- The closure's boxes. -/
def Box3 (b0 b1 b2 b : Nat) (t : Int) (v : Nat) (W : World) : Prop := Boxed W b0 35 (.pointer (some ⟨b, 0, none⟩)) ∧ Boxed W b1 2 (.int .i64 t) ∧ Boxed W b2 23 (.int .u32 (v : Int))
theorem Box3.kept {b0 b1 b2 b : Nat} {t : Int} {v : Nat} {W W' : World} {S : Nat → Prop} (h : Box3 b0 b1 b2 b t v W) (hk : Kept S W W') (h0 : S b0) (h1 : S b1) (h2 : S b2) : Box3 b0 b1 b2 b t v W' := ⟨heap_kept hk h.1 h0, heap_kept hk h.2.1 h1, heap_kept hk h.2.2 h2⟩
theorem Box3.cells {b0 b1 b2 b : Nat} {t : Int} {v : Nat} {W : World} (h : Box3 b0 b1 b2 b t v W) : W.cell? ⟨b0, 0, none⟩ = some (.pointer (some ⟨b, 0, none⟩)) ∧ W.cell? ⟨b1, 0, none⟩ = some (.int .i64 t) ∧ W.cell? ⟨b2, 0, none⟩ = some (.int .u32 (v : Int)) := ⟨h.1.cell, h.2.1.cell, h.2.2.cell⟩

set_option maxHeartbeats 8000000 in
/-- A first sample. -/
theorem smp_first (w : World) (b : Nat) (nr : Int) (s : Stp) (m : M) (hs : MayS s) (hB : MtB w b nr s m) (hbg : m.bg = false) (t : Int) (v : Nat) (ht : 0 ≤ t ∧ t < 253402300800) (b0 b1 b2 : Nat) (hx : Box3 b0 b1 b2 b t v w) :
    Calls Try.prog 32 #[.pointer (some ⟨b0, 0, none⟩), .pointer (some ⟨b1, 0, none⟩), .pointer (some ⟨b2, 0, none⟩)] w fun e w' => e = .returned (.tuple #[.slice none 0 0, .int .i64 0]) ∧ MtB w' b nr s (beginM s t v) ∧ Kept (fun x => x ≠ b) w w' := by
  obtain ⟨d0, d1, d2⟩ := hx.cells
  have e6 := hB.cells.2.2.2.2.2.2.1
  rw [hbg] at e6
  have HBg := Lib.hid (fun w0 (h : MtB w0 b nr s m) => mbegin_calls w0 b nr s m hs h t v ht)
  have H0 := Lib.hid hB
  clear hs hB hbg ht hx
  go_enter Try.func32, Try.ntmps32
  go_wp2_with fail
  refine (HBg.out _ H0.out).mono ?_
  rintro e w1 ⟨⟨u, rfl⟩, hm, hk⟩
  have H1 := Lib.hid (And.intro hm hk)
  clear hm hk
  go_wp2_with fail
  go_ret2
  exact ⟨rfl, H1.out.1, H1.out.2⟩

end Go.Proofs.Ytjmkbpgakfeceaa
