/-
  Lists of entries in memory; two that are the same (Same), walked. Conditions stand at each theorem. (Printed by gen_mt10.py.)
-/
import Derived.Test.YtjmkbpgakfeceaaMt9
import Derived.Laws.StructEq
import Derived.Deep.MidRow
import Derived.Deep.DrawnRows
namespace Go.Proofs.Ytjmkbpgakfeceaa
open Go Go.RowKit Go.Kw Go.Kw.Mt
set_option linter.unusedVariables false
set_option linter.unusedSimpArgs false

theorem eqF_step {P : Program} {d : Nat} {xs ys : Array Value} {f : Field} {fs : List Field} {w : World} {a b : Value} (hn : f.name ≠ "_") (pa : (part f.type xs f.offset).run P w = .ok a w) (pb : (part f.type ys f.offset).run P w = .ok b w) (q : (Op.equalIn d f.type a b).run P w = .ok true w) :
    (Op.eqFields d xs ys (f :: fs)).run P w = (Op.eqFields d xs ys fs).run P w := by
  simp only [Op.eqFields, hn, ne_eq, not_false_eq_true, if_true, Sem.run_bind, pa, pb, q, Result.andThen_ok, Bool.not_true, Bool.false_eq_true, if_false]
def zHash : Array Value := #[.int .u8 0, .int .u8 0, .int .u8 0, .int .u8 0, .int .u8 0, .int .u8 0, .int .u8 0, .int .u8 0, .int .u8 0, .int .u8 0, .int .u8 0, .int .u8 0, .int .u8 0, .int .u8 0, .int .u8 0, .int .u8 0, .int .u8 0, .int .u8 0, .int .u8 0, .int .u8 0, .int .u8 0, .int .u8 0, .int .u8 0, .int .u8 0, .int .u8 0, .int .u8 0, .int .u8 0, .int .u8 0, .int .u8 0, .int .u8 0, .int .u8 0, .int .u8 0]
theorem zHash_get (i : Nat) (hi : i < 32) : zHash[i * 1]? = some (.int .u8 0) := by
  have h : zHash = Array.replicate 32 (.int .u8 0) := rfl
  rw [h, Nat.mul_one]
  simp [hi]
theorem plain_u8 : Try.prog.plainKey 5 = true := by kernel_rfl
theorem eq_items (d : Nat) (w : World) : ∀ is : List Nat, (∀ i ∈ is, i < 32) → (Op.eqItems (d + 1) 5 1 zHash zHash is).run Try.prog w = .ok true w
  | [], _ => by simp [Op.eqItems]
  | i :: is, h => by
    have p := run_part_plain (P := Try.prog) w plain_u8 (zHash_get i (h i (by simp)))
    have q := run_equalIn_int w d 5 .u8 .u8 0 0 Try.underlying5
    rw [beq_self_eq_true] at q
    have ih := eq_items d w is (fun j hj => h j (by simp [hj]))
    simp only [Op.eqItems, Sem.run_bind, p, Result.andThen_ok, q, Bool.not_true, Bool.false_eq_true, if_false]
    exact ih
set_option maxRecDepth 100000 in
theorem eq_hash (d : Nat) (w : World) : (Op.equalIn (d + 1 + 1) 43 (.agg zHash) (.agg zHash)).run Try.prog w = .ok true w := by
  obtain ⟨i0, hi0⟩ : ∃ i, Try.prog.info? 5 = some i := ⟨_, rfl⟩
  have hc : Try.prog.cellsOf 5 = 1 := by kernel_rfl
  rw [run_equalIn_array w (d + 1) _ _ Try.underlying43 hi0, hc]
  exact eq_items d w _ (fun i hi => by simpa using hi)
theorem part_hash (nr : Int) (x : En) (w : World) : (part 43 (enC nr x) 10).run Try.prog w = .ok (.agg zHash) w := by
  unfold zHash enC
  kernel_rfl
set_option maxRecDepth 100000 in
set_option maxHeartbeats 4000000 in
theorem eq_en (nr : Int) (x : En) (w : World) : (Op.equalIn 10000 45 (.agg (enC nr x)) (.agg (enC nr x))).run Try.prog w = .ok true w := by
  have hS : Try.prog.underlying 45 = some (.struct (Try.prog.fieldsOf 45)) := by kernel_rfl
  have hp : Try.prog.stoodInHeld 45 = false := by kernel_rfl
  rw [show (10000 : Nat) = 9999 + 1 from rfl, run_equalIn_agg _ 9999 45 _ _ hS hp]
  simp only [Program.fieldsOf, Try.underlying45]
  have k0 : Try.prog.plainKey 3 = true := by kernel_rfl
  have k1 : Try.prog.plainKey 2 = true := by kernel_rfl
  have k2 : Try.prog.plainKey 23 = true := by kernel_rfl
  have k3 : Try.prog.plainKey 22 = true := by kernel_rfl
  have p0 := run_part_plain (P := Try.prog) w k0 (show (enC nr x)[0]? = some (.int .i64 (x.kind : Int)) from rfl)
  have p1 := run_part_plain (P := Try.prog) w k0 (show (enC nr x)[1]? = some (.int .i64 nr) from rfl)
  have p2 := run_part_plain (P := Try.prog) w k1 (show (enC nr x)[2]? = some (.int .i64 x.start) from rfl)
  have p3 := run_part_plain (P := Try.prog) w k1 (show (enC nr x)[3]? = some (.int .i64 x.en) from rfl)
  have p4 := run_part_plain (P := Try.prog) w k0 (show (enC nr x)[4]? = some (.int .i64 0) from rfl)
  have p5 := run_part_plain (P := Try.prog) w k1 (show (enC nr x)[5]? = some (.int .i64 0) from rfl)
  have p6 := run_part_plain (P := Try.prog) w k1 (show (enC nr x)[6]? = some (.int .i64 0) from rfl)
  have p7 := run_part_plain (P := Try.prog) w k0 (show (enC nr x)[7]? = some (.int .i64 (x.f : Int)) from rfl)
  have p8 := run_part_plain (P := Try.prog) w k2 (show (enC nr x)[8]? = some (.int .u32 (x.cnt : Int)) from rfl)
  have p9 := run_part_plain (P := Try.prog) w k3 (show (enC nr x)[9]? = some (.int .u64 0) from rfl)
  have p10 := part_hash nr x w
  have qint : ∀ x : Int, (Op.equalIn 9999 3 (.int .i64 x) (.int .i64 x)).run Try.prog w = .ok true w := fun x => by
    have h := run_equalIn_int w 9998 3 .i64 .i64 x x Try.underlying3
    rw [beq_self_eq_true] at h
    exact h
  have qint64 : ∀ x : Int, (Op.equalIn 9999 2 (.int .i64 x) (.int .i64 x)).run Try.prog w = .ok true w := fun x => by
    have h := run_equalIn_int w 9998 2 .i64 .i64 x x Try.underlying2
    rw [beq_self_eq_true] at h
    exact h
  have quint32 : ∀ x : Int, (Op.equalIn 9999 23 (.int .u32 x) (.int .u32 x)).run Try.prog w = .ok true w := fun x => by
    have h := run_equalIn_int w 9998 23 .u32 .u32 x x Try.underlying23
    rw [beq_self_eq_true] at h
    exact h
  have quint64 : ∀ x : Int, (Op.equalIn 9999 22 (.int .u64 x) (.int .u64 x)).run Try.prog w = .ok true w := fun x => by
    have h := run_equalIn_int w 9998 22 .u64 .u64 x x Try.underlying22
    rw [beq_self_eq_true] at h
    exact h
  have qh : (Op.equalIn 9999 43 (.agg zHash) (.agg zHash)).run Try.prog w = .ok true w := eq_hash 9997 w
  generalize enC nr x = en at *
  refine (eqF_step (by decide) p0 p0 (qint _)).trans ?_
  refine (eqF_step (by decide) p1 p1 (qint _)).trans ?_
  refine (eqF_step (by decide) p2 p2 (qint64 _)).trans ?_
  refine (eqF_step (by decide) p3 p3 (qint64 _)).trans ?_
  refine (eqF_step (by decide) p4 p4 (qint _)).trans ?_
  refine (eqF_step (by decide) p5 p5 (qint64 _)).trans ?_
  refine (eqF_step (by decide) p6 p6 (qint64 _)).trans ?_
  refine (eqF_step (by decide) p7 p7 (qint _)).trans ?_
  refine (eqF_step (by decide) p8 p8 (quint32 _)).trans ?_
  refine (eqF_step (by decide) p9 p9 (quint64 _)).trans ?_
  refine (eqF_step (by decide) p10 p10 qh).trans ?_
  simp [Op.eqFields]
theorem cell_same {w w' : World} {b o : Nat} (h : w'.heap[b]? = w.heap[b]?) : w'.cell? ⟨b, o, none⟩ = w.cell? ⟨b, o, none⟩ := by simp [World.cell?, h]
/-- A list of entries that is read, in blocks below B. -/
def RowE (w : World) (B : Nat) (A : Option Addr) (nr : Int) (L : List En) : Prop :=
  L = [] ∨ ∃ b o, A = some ⟨b, o, none⟩ ∧ b < B ∧ ∀ (i : Nat) (x : En), L[i]? = some x → w.rangeAt b (o + i * 42) (enC nr x).toList
theorem RowE.kept {S : Nat → Prop} {w w' : World} {B : Nat} {A : Option Addr} {nr : Int} {L : List En} (h : RowE w B A nr L) (hk : Kept S w w') (hB : B ≤ w.heap.size) (hs : ∀ b o, A = some ⟨b, o, none⟩ → S b) : RowE w' B A nr L := by
  rcases h with h | ⟨b, o, hA, hb, h⟩
  · exact .inl h
  · refine .inr ⟨b, o, hA, hb, fun i x hx j v hv => ?_⟩
    rw [cell_same (hk.block b (by omega) (hs b o hA))]
    exact h i x hx j v hv
theorem RowE.go {w w' : World} {B : Nat} {A : Option Addr} {nr : Int} {L : List En} (h : RowE w B A nr L) (hk : Below B w w') : RowE w' B A nr L := by
  rcases h with h | ⟨b, o, hA, hb, h⟩
  · exact .inl h
  · refine .inr ⟨b, o, hA, hb, fun i x hx j v hv => ?_⟩
    rw [cell_same (hk.block b hb)]
    exact h i x hx j v hv
theorem RowE.at_ {w : World} {B : Nat} {A : Option Addr} {nr : Int} {L : List En} (h : RowE w B A nr L) {i : Nat} {x : En} (hx : L[i]? = some x) : ∃ b o, A = some ⟨b, o, none⟩ ∧ b < B ∧ w.rangeAt b (o + i * 42) (enC nr x).toList := by
  rcases h with rfl | ⟨b, o, hA, hb, h⟩
  · simp at hx
  · exact ⟨b, o, hA, hb, h i x hx⟩
theorem ensC_get (nr : Int) (L : List En) (i : Nat) (x : En) (hx : L[i]? = some x) (j : Nat) (v : Value) (hv : (enC nr x).toList[j]? = some v) : (ensC nr L)[i * 42 + j]? = some v := by
  have hj : j < 42 := by
    have := (List.getElem?_eq_some_iff.1 hv).1
    rw [Array.length_toList, enC_size] at this
    exact this
  induction L generalizing i with
  | nil => simp at hx
  | cons y r ih =>
    have hs : (enC nr y).toList.length = 42 := by rw [Array.length_toList, enC_size]
    show ((enC nr y).toList ++ ensC nr r)[i * 42 + j]? = some v
    cases i with
    | zero =>
      have e : y = x := by simpa using hx
      subst e
      rw [Nat.zero_mul, Nat.zero_add, List.getElem?_append_left (by omega)]
      exact hv
    | succ i =>
      rw [List.getElem?_append_right (by omega), hs, show (i + 1) * 42 + j - 42 = i * 42 + j by omega]
      exact ih i (by simpa using hx)
theorem own_rowE {w : World} {B : Nat} {A : Option Addr} {k c : Nat} {nr : Int} {L : List En} (h : w.ownsRow B 45 42 (.slice A k c) k (ensC nr L)) (hk : k = L.length) : RowE w w.heap.size A nr L := by
  rcases h.2 with ⟨h1, h2⟩ | ⟨g, cap, cur, hv, hg, hh, h1, h2, h3, h4⟩
  · left
    rw [h2] at hk
    exact List.length_eq_zero_iff.1 hk.symm
  · right
    have hA : A = some ⟨g, 0, none⟩ := by injection hv
    refine ⟨g, 0, hA, (Array.getElem?_eq_some_iff.1 hh).1, fun i x hx j v hv => ?_⟩
    have hjj := ensC_get nr L i x hx j v hv
    rw [← h4, List.getElem?_take] at hjj
    split at hjj
    · have := blk_cell hh (0 + i * 42 + j) (v := v) (by rw [Nat.zero_add]; rw [Array.getElem?_toList] at hjj; exact hjj)
      exact this
    · cases hjj

set_option maxRecDepth 100000 in
set_option maxHeartbeats 16000000 in
/-- Two lists that are the same. -/
theorem same_yes (w : World) (A A' : Option Addr) (c c' : Nat) (nr : Int) (L : List En) (hL : L.length < 4611686018427387904) (h1 : RowE w w.heap.size A nr L) (h2 : RowE w w.heap.size A' nr L) :
    Calls Try.prog 28 #[.slice A L.length c, .slice A' L.length c'] w fun e w' => e = .returned (.bool true) ∧ Below w.heap.size w w' := by
  have H := Lib.hid (And.intro h1 h2)
  obtain ⟨n, hn⟩ : ∃ n, L.length = n := ⟨_, rfl⟩
  rw [hn] at hL ⊢
  have HL := Lib.hid (And.intro hL hn)
  clear h1 h2 hL hn
  go_enter Try.func28, Try.ntmps28
  go_wp2_with fail
  go_loopw [5] (fun iv wr => ∃ k : Nat, k ≤ n ∧ iv = .int .i64 k ∧ Below w.heap.size w wr) (fun iv _ => n - (intOf iv).toNat)
  case atStart => exact ⟨0, by omega, rfl, Below.refl _ _⟩
  case round =>
    obtain ⟨k, hk, rfl, hb⟩ := hrel
    by_cases hlt : k < n
    · have hI : (k : Int) < (n : Int) := by omega
      have hk0 : (0 : Int) ≤ (k : Int) := by omega
      obtain ⟨x, hx⟩ : ∃ x, L[k]? = some x := ⟨_, List.getElem?_eq_getElem (by rw [HL.out.2]; exact hlt)⟩
      obtain ⟨g1, o1, rfl, hg1, r1⟩ := (H.out.1.go hb).at_ hx
      obtain ⟨g2, o2, rfl, hg2, r2⟩ := (H.out.2.go hb).at_ hx
      obtain ⟨en, hen⟩ : ∃ en, enC nr x = en := ⟨_, rfl⟩
      have HEN := Lib.hid (And.intro (show en.size = 42 by rw [← hen]; exact enC_size _ _) (show ∀ W : World, (Op.equalIn 10000 45 (.agg en) (.agg en)).run Try.prog W = .ok true W by rw [← hen]; exact eq_en nr x))
      rw [hen] at r1 r2
      have HR := Lib.hid (show wr.drew.rangeAt g1 (o1 + k * 42) en.toList ∧ wr.drew.rangeAt g2 (o2 + k * 42) en.toList from ⟨r1, r2⟩)
      have HI := Lib.hid (show (Try.prog.info? 45).map (·.size) = some en.toList.length by rw [Array.length_toList, HEN.out.1]; exact eEnS)
      have X1 := Lib.hid (wrap64_at ((k : Int) + 1) (by have := HL.out.1; omega))
      have Hk := Lib.hid (And.intro hlt hb)
      clear hen hx r1 r2 hg1 hg2 hb hlt hk
      go_upto_region 6 with fail
      refine wp_region_held_drew (S := (fun Y => Y.rangeAt g1 (o1 + k * 42) en.toList ∧ Y.rangeAt g2 (o2 + k * 42) en.toList)) (by kernel_rfl) HR.out (fun hHeld => ?_)
      refine wpAnyH_take (i := 0) (v := ?_) rfl (by kernel_rfl) (by kernel_rfl) (by kernel_rfl) (fun _ _ _ h => h) (Or.inl ⟨by kernel_rfl, ?_⟩) (by assumption) ?_
      rotate_left
      · intro w hSw; (try dsimp only at hSw); go_simp; try with_reducible rfl
      simp only [Act.put, List.getElem_toArray, List.getElem_cons_succ, List.getElem_cons_zero, List.setIfInBounds_toArray, List.set_cons_zero, List.set_cons_succ]
      refine wpAnyH_take (i := 1) (v := ?_) rfl (by kernel_rfl) (by kernel_rfl) (by kernel_rfl) (fun _ _ _ h => h) (Or.inl ⟨by kernel_rfl, ?_⟩) (by assumption) ?_
      rotate_left
      · intro w hSw; (try dsimp only at hSw); go_simp; try with_reducible rfl
      simp only [Act.put, List.getElem_toArray, List.getElem_cons_succ, List.getElem_cons_zero, List.setIfInBounds_toArray, List.set_cons_zero, List.set_cons_succ]
      refine wpAnyH_take (i := 2) (v := ?_) rfl (by kernel_rfl) (by kernel_rfl) (by kernel_rfl) (fun _ _ _ h => h) (Or.inl ⟨by kernel_rfl, ?_⟩) (by assumption) ?_
      rotate_left
      · intro w hSw; (try dsimp only at hSw); go_simp; try with_reducible rfl
      simp only [Act.put, List.getElem_toArray, List.getElem_cons_succ, List.getElem_cons_zero, List.setIfInBounds_toArray, List.set_cons_zero, List.set_cons_succ]
      refine wpAnyH_take (i := 3) (v := .agg en) rfl (by kernel_rfl) (by kernel_rfl) (by kernel_rfl) (fun _ _ _ h => h) (yieldsIf_load_mid (by kernel_rfl) 45 (.tmp 19) rfl g1 (o1 + k * 42) rfl en.toList _ (fun _ h => h.1) Try.underlying45 (by rfl) HI.out) (by assumption) ?_
      simp only [Act.put, List.getElem_toArray, List.getElem_cons_succ, List.getElem_cons_zero, List.setIfInBounds_toArray, List.set_cons_zero, List.set_cons_succ]
      refine wpAnyH_take (i := 4) (v := ?_) rfl (by kernel_rfl) (by kernel_rfl) (by kernel_rfl) (fun _ _ _ h => h) (Or.inl ⟨by kernel_rfl, ?_⟩) (by assumption) ?_
      rotate_left
      · intro w hSw; (try dsimp only at hSw); go_simp; try with_reducible rfl
      simp only [Act.put, List.getElem_toArray, List.getElem_cons_succ, List.getElem_cons_zero, List.setIfInBounds_toArray, List.set_cons_zero, List.set_cons_succ]
      refine wpAnyH_take (i := 5) (v := ?_) rfl (by kernel_rfl) (by kernel_rfl) (by kernel_rfl) (fun _ _ _ h => h) (Or.inl ⟨by kernel_rfl, ?_⟩) (by assumption) ?_
      rotate_left
      · intro w hSw; (try dsimp only at hSw); go_simp; try with_reducible rfl
      simp only [Act.put, List.getElem_toArray, List.getElem_cons_succ, List.getElem_cons_zero, List.setIfInBounds_toArray, List.set_cons_zero, List.set_cons_succ]
      refine wpAnyH_take (i := 6) (v := ?_) rfl (by kernel_rfl) (by kernel_rfl) (by kernel_rfl) (fun _ _ _ h => h) (Or.inl ⟨by kernel_rfl, ?_⟩) (by assumption) ?_
      rotate_left
      · intro w hSw; (try dsimp only at hSw); go_simp; try with_reducible rfl
      simp only [Act.put, List.getElem_toArray, List.getElem_cons_succ, List.getElem_cons_zero, List.setIfInBounds_toArray, List.set_cons_zero, List.set_cons_succ]
      refine wpAnyH_take (i := 7) (v := .agg en) rfl (by kernel_rfl) (by kernel_rfl) (by kernel_rfl) (fun _ _ _ h => h) (yieldsIf_load_mid (by kernel_rfl) 45 (.tmp 23) rfl g2 (o2 + k * 42) rfl en.toList _ (fun _ h => h.2) Try.underlying45 (by rfl) HI.out) (by assumption) ?_
      simp only [Act.put, List.getElem_toArray, List.getElem_cons_succ, List.getElem_cons_zero, List.setIfInBounds_toArray, List.set_cons_zero, List.set_cons_succ]
      refine wpAnyH_take (i := 8) (v := .bool false) rfl (by kernel_rfl) (by kernel_rfl) (by kernel_rfl) (fun _ _ _ h => h) (Or.inl ⟨by kernel_rfl, ?_⟩) (by assumption) ?_
      · intro w hSw; (try dsimp only at hSw)
        have hEq := HEN.out.2; go_simp
      simp only [Act.put, List.getElem_toArray, List.getElem_cons_succ, List.getElem_cons_zero, List.setIfInBounds_toArray, List.set_cons_zero, List.set_cons_succ]
      refine wpAnyH_done (by kernel_rfl) ?_ _
      clear hHeld
      go_wp2_with fail
      rw [X1.out]
      exact ⟨⟨k + 1, Hk.out.1, by push_cast; rfl, Hk.out.2.drew⟩, by have := Hk.out.1; simp [intOf]; omega⟩
    · obtain rfl : k = n := by omega
      have HP := Lib.hid hb
      clear hb hlt hk
      go_wp2_with fail
      go_ret
      exact ⟨rfl, HP.out⟩
end Go.Proofs.Ytjmkbpgakfeceaa
