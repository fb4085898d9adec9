/-
  A device of sectors, whole: its box and its two rows ('DevO'), what a call leaves ('DevP'), and how these abide. Conditions stand at each theorem.
-/
import Derived.Test.YtpleaicpkpjkjaaBlk8
namespace Go.Proofs.Ytpleaicpkpjkjaa
open Go Go.RowKit Go.Kw
set_option linter.unusedVariables false
set_option linter.unusedSimpArgs false

/-- A device at d: its box, its sectors' row at sb, its cache's row V, all at or above B. -/
structure DevO (W : World) (B d sb sc : Nat) (V : Value) (D : Dv) : Prop where
  ok : DvOk D
  box : ∃ CA cc, V = .slice CA D.C.length cc ∧ DevH W d (some ⟨sb, 0, none⟩) D.S.length sc CA D.C.length cc D.p D.dn D.k
  saf : W.ownsRow B 69 128 (.slice (some ⟨sb, 0, none⟩) D.S.length sc) D.S.length (secC D.S)
  cac : W.ownsRow B 71 129 V D.C.length (cacC D.C)
  ds : d ≠ sb
  dv : V.ownBlock ≠ some d
  sv : V.ownBlock ≠ some sb
  bd : B ≤ d
/-- The blocks that are none of a device's. -/
def Ft (d sb : Nat) (V : Value) (b : Nat) : Prop := b ≠ d ∧ b ≠ sb ∧ V.ownBlock ≠ some b
/-- A device behind calls since w0. -/
def DevP (w0 : World) (B d sb sc : Nat) (V0 : Value) (D : Dv) (w : World) : Prop :=
  ∃ V, DevO w B d sb sc V D ∧ Kept (Ft d sb V0) w0 w ∧ (V.ownBlock = V0.ownBlock ∨ V.ownBlock = none ∨ ∃ g, V.ownBlock = some g ∧ w0.heap.size ≤ g)
theorem own_keptV {w w' : World} {S : Nat → Prop} {base : Nat} {e : TypeId} {size : Nat} {v : Value} {n : Nat} {xs : List Value} (h : w.ownsRow base e size v n xs) (hk : Kept S w w') (hs : ∀ g, v.ownBlock = some g → S g) : w'.ownsRow base e size v n xs := by
  refine ⟨h.1, ?_⟩
  rcases h.2 with h | ⟨g, cap, cur, hv, hg, hh, r⟩
  · exact .inl h
  · exact .inr ⟨g, cap, cur, hv, hg, (hk.block g (Array.getElem?_eq_some_iff.1 hh).1 (hs g (by subst hv; simp [Value.ownBlock]))).trans hh, r⟩
section
variable {w w' w0 : World} {B d sb sc : Nat} {V V0 : Value} {D : Dv}
theorem DevO.lt (h : DevO w B d sb sc V D) : d < w.heap.size ∧ sb < w.heap.size ∧ (∀ g, V.ownBlock = some g → g < w.heap.size) := by
  obtain ⟨CA, cc, _, hd⟩ := h.box
  exact ⟨hd.lt, (h.saf.lt sb (by simp [Value.ownBlock])).2, fun g hg => (h.cac.lt g hg).2⟩
theorem DevO.le (h : DevO w B d sb sc V D) : B ≤ d ∧ B ≤ sb ∧ (∀ g, V.ownBlock = some g → B ≤ g) :=
  ⟨h.bd, (h.saf.lt sb (by simp [Value.ownBlock])).1, fun g hg => (h.cac.lt g hg).1⟩
theorem DevO.kept {S : Nat → Prop} (h : DevO w B d sb sc V D) (hk : Kept S w w') (h1 : S d) (h2 : S sb) (h3 : ∀ g, V.ownBlock = some g → S g) : DevO w' B d sb sc V D := by
  obtain ⟨CA, cc, e, hd⟩ := h.box
  exact ⟨h.ok, ⟨CA, cc, e, heap_kept hk hd h1⟩, own_keptV h.saf hk (fun g hg => by simp [Value.ownBlock] at hg; exact hg ▸ h2), own_keptV h.cac hk h3, h.ds, h.dv, h.sv, h.bd⟩
theorem DevO.go (h : DevO w B d sb sc V D) (hb : Below w.heap.size w w') : DevO w' B d sb sc V D := h.kept (hb.keptS (fun _ => True)) trivial trivial (fun _ _ => trivial)
theorem DevO.below (h : DevO w B d sb sc V D) {b : Nat} (hb : b < B) : Ft d sb V b := by
  obtain ⟨h1, h2, h3⟩ := h.le
  exact ⟨by omega, by omega, fun e => by have := h3 _ e; omega⟩
theorem DevO.new (h : DevO w B d sb sc V D) {b : Nat} (hb : w.heap.size ≤ b) : Ft d sb V b := by
  obtain ⟨h1, h2, h3⟩ := h.lt
  exact ⟨by omega, by omega, fun e => by have := h3 _ e; omega⟩
theorem DevP.refl (h : DevO w B d sb sc V D) : DevP w B d sb sc V D w := ⟨V, h, Kept.refl _ _, .inl rfl⟩
theorem DevP.next (h : DevP w0 B d sb sc V0 D w) (hb : Below w.heap.size w w') : DevP w0 B d sb sc V0 D w' := by
  obtain ⟨V, hd, hk, hv⟩ := h
  exact ⟨V, hd.go hb, hk.next hb, hv⟩
/-- What is Ft at the beginning is Ft behind, if it is old. -/
theorem ft_on {V1 : Value} {b n : Nat} (hv : V1.ownBlock = V0.ownBlock ∨ V1.ownBlock = none ∨ ∃ g, V1.ownBlock = some g ∧ n ≤ g) (hb : b < n) (h : Ft d sb V0 b) : Ft d sb V1 b := by
  refine ⟨h.1, h.2.1, fun e => ?_⟩
  rcases hv with hv | hv | ⟨g, hv, hg⟩
  · exact h.2.2 (hv ▸ e)
  · rw [hv] at e; cases e
  · rw [hv] at e; injection e with e; omega
theorem DevP.trans {V1 : Value} {D' : Dv} (hv : V1.ownBlock = V0.ownBlock ∨ V1.ownBlock = none ∨ ∃ g, V1.ownBlock = some g ∧ w0.heap.size ≤ g) (hk : Kept (Ft d sb V0) w0 w) (h : DevP w B d sb sc V1 D' w') : DevP w0 B d sb sc V0 D' w' := by
  obtain ⟨V2, hd, hk2, hv2⟩ := h
  refine ⟨V2, hd, ⟨hk2.os.trans hk.os, hk2.tape.trans hk.tape, hk2.output.trans hk.output, Nat.le_trans hk.size hk2.size, fun k hlt hf => (hk2.block k (Nat.lt_of_lt_of_le hlt hk.size) (ft_on hv hlt hf)).trans (hk.block k hlt hf)⟩, ?_⟩
  rcases hv2 with e | e | ⟨g, e, hg⟩
  · rw [e]; exact hv
  · exact .inr (.inl e)
  · exact .inr (.inr ⟨g, e, Nat.le_trans hk.size hg⟩)
/-- Calls one behind the other. -/
theorem DevP.then {D' : Dv} (h : DevP w0 B d sb sc V0 D w) (hn : ∀ V, DevO w B d sb sc V D → DevP w B d sb sc V D' w') : DevP w0 B d sb sc V0 D' w' := by
  obtain ⟨V1, hd, hk, hv⟩ := h
  exact DevP.trans hv hk (hn V1 hd)
theorem DevP.belowB {D' : Dv} (h : DevP w0 B d sb sc V0 D w) (h0 : DevO w0 B d sb sc V0 D') (hB : B ≤ w0.heap.size) : Below B w0 w := by
  obtain ⟨V1, hd, hk, hv⟩ := h
  exact hk.below hB (fun k hkB => h0.below hkB)
/-- A write more, seen from the device. -/
theorem dev_put {w4 w5 : World} {D' : Dv} (hD : DevO w B d sb sc V D) (hb : Below w.heap.size w w4) (h5 : Kept (fun b => b ≠ d) w4 w5) (x : Nat × List UInt8) (hok : DvOk D') (hS : D'.S = D.S) (hC : D'.C = D.C ++ [x])
    (hP : PutB w5 B d (some ⟨sb, 0, none⟩) D.S.length sc V (D.C ++ [x]) D'.p D'.dn D'.k w') : DevP w B d sb sc V D' w' := by
  obtain ⟨CA, cc, hd, ho, hk, hv⟩ := hP
  have hD4 := hD.go hb
  have hsz : w.heap.size ≤ w5.heap.size := Nat.le_trans hb.size h5.size
  refine ⟨.slice CA D'.C.length cc, ⟨hok, ⟨CA, cc, rfl, by rw [hS, hC]; exact hd⟩, ?_, ?_, hD.ds, ?_, ?_, hD.bd⟩, ?_, ?_⟩
  · rw [hS]
    have h1 := own_keptV hD4.saf h5 (fun g hg => by simp [Value.ownBlock] at hg; exact fun e => hD.ds (e ▸ hg.symm))
    exact own_keptV h1 hk (fun g hg => by simp [Value.ownBlock] at hg; subst hg; exact ⟨fun e => hD.ds e.symm, hD.sv⟩)
  · rw [hC]; exact ho
  · rw [hC]
    rcases hv with hv | ⟨g, hv, hg⟩
    · rw [hv]; exact hD.dv
    · rw [hv]; intro e; injection e with e; have := hD.lt.1; omega
  · rw [hC]
    rcases hv with hv | ⟨g, hv, hg⟩
    · rw [hv]; exact hD.sv
    · rw [hv]; intro e; injection e with e; have := hD.lt.2.1; omega
  · have h1 : Kept (Ft d sb V) w w5 := (hb.keptS (Ft d sb V)).trans (h5.mono (fun k _ hk => hk.1))
    exact h1.trans (hk.mono (fun k _ hk => ⟨hk.1, hk.2.2⟩))
  · rw [hC]
    rcases hv with hv | ⟨g, hv, hg⟩
    · exact .inl hv
    · exact .inr (.inr ⟨g, hv, Nat.le_trans hsz hg⟩)
/-- The box's small fields turned. -/
theorem DevP.small {D' : Dv} (h : DevP w0 B d sb sc V0 D w) (hle : d < w0.heap.size ∨ True) (hok : DvOk D') (hS : D'.S = D.S) (hC : D'.C = D.C) (hk : Kept (fun b => b ≠ d) w w')
    (hd : ∀ A c CA cc, DevH w d A D.S.length c CA D.C.length cc D.p D.dn D.k → DevH w' d A D.S.length c CA D.C.length cc D'.p D'.dn D'.k) : DevP w0 B d sb sc V0 D' w' := by
  obtain ⟨V, ho, hk0, hv⟩ := h
  obtain ⟨CA, cc, e, hb⟩ := ho.box
  refine ⟨V, ⟨hok, ⟨CA, cc, by rw [hC]; exact e, by rw [hS, hC]; exact hd _ _ _ _ hb⟩, ?_, ?_, ho.ds, ho.dv, ho.sv, ho.bd⟩, hk0.trans (hk.mono (fun k _ hk => hk.1)), hv⟩
  · rw [hS]; exact own_keptV ho.saf hk (fun g hg => by simp [Value.ownBlock] at hg; exact fun e => ho.ds (e ▸ hg.symm))
  · rw [hC]; exact own_keptV ho.cac hk (fun g hg e => ho.dv (e ▸ hg))
theorem but_cells (w : World) (d i : Nat) (v : Value) : Kept (fun b => b ≠ d) w (w.setCell ⟨d, i, none⟩ v) := (Kept.refl _ w).setCell (fun e => e rfl) v
end
end Go.Proofs.Ytpleaicpkpjkjaa
