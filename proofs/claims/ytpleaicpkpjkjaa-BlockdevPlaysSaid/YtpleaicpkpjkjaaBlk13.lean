/-
  A device of sectors: Cached, and Plan at a device that is whole, walked. Conditions stand at each theorem.
-/
import Derived.Test.YtpleaicpkpjkjaaBlk12
namespace Go.Proofs.Ytpleaicpkpjkjaa
open Go Go.RowKit Go.Kw
set_option linter.unusedVariables false
set_option linter.unusedSimpArgs false

theorem eN : Elem Try.prog 47 3 (.int .i64 0) 1 8 := ⟨Try.underlying47, by kernel_rfl, rfl, by decide⟩
/-- The cells of a row of numbers. -/
def nv (l : List Nat) : List Value := l.map (fun (x : Nat) => .int .i64 (x : Int))
theorem nv_length (l : List Nat) : (nv l).length = l.length := by simp [nv]
theorem nv_append (a b : List Nat) : nv (a ++ b) = nv a ++ nv b := by simp [nv]
theorem append_nat (w : World) (base : Nat) {A : Option Addr} {n c : Nat} {l : List Nat} (hown : w.ownsRow base 3 1 (.slice A n c) n (nv l)) (x : Nat) (h63 : n ≤ 1000000000) (hbase : base ≤ w.heap.size) :
    ∃ A' c' w', (Builtin.append_ #[47, 47] 47 #[.slice A n c, .slice (some ⟨w.heap.size, 0, none⟩) 1 1]).run Try.prog (w.alloc (.cells #[.int .i64 (x : Int)] 3)) = .ok (.slice A' (n + 1) c') w' ∧ w'.ownsRow base 3 1 (.slice A' (n + 1) c') (n + 1) (nv (l ++ [x])) ∧ Below base w w' := by
  have ho := hown.alloc (.cells #[.int .i64 (x : Int)] 3)
  have hr : Rd (w.alloc (.cells #[.int .i64 (x : Int)] 3)) (w.heap.size + 1) (some ⟨w.heap.size, 0, none⟩) (1 * 1) (fun i => .int .i64 (([x].getD i 0 : Nat) : Int)) := by
    refine .inr ⟨w.heap.size, 0, rfl, by omega, fun i hi => ?_⟩
    obtain rfl : i = 0 := by omega
    rw [Nat.zero_add, World.cell?_alloc_mark]; rfl
  obtain ⟨v', w', hrun, o, g, i, b⟩ := run_append (P := Try.prog) (w.alloc (.cells #[.int .i64 (x : Int)] 3)) base 47 eN ho 1 1 hr (fun i _ => rfl) (by unfold maxLen; omega) (by omega) (by simp; omega) (by simp)
  rw [show vals (1 * 1) (fun i => Value.int .i64 (([x].getD i 0 : Nat) : Int)) = nv [x] from rfl, ← nv_append] at o
  obtain ⟨A', c', rfl, -⟩ := own_form o
  exact ⟨A', c', w', hrun, o, ((Below.refl base w).alloc hbase _).trans (below_append ho (by simp; omega) g)⟩
def CachB (w : World) (C : List (Nat × List UInt8)) (e : Ending) (w' : World) : Prop :=
  ∃ A' c', e = .returned (.slice A' C.length c') ∧ w'.ownsRow w.heap.size 3 1 (.slice A' C.length c') C.length (nv (C.map (·.1))) ∧ Below w.heap.size w w'
theorem dCached_none (w : World) (pv : Value) (hN : Calls Try.prog 35 #[pv] w fun e w' => e = .returned (.bool true) ∧ Below w.heap.size w w') :
    Calls Try.prog 20 #[pv] w fun e w' => e = .returned (.slice none 0 0) ∧ Below w.heap.size w w' := by
  have HN := Lib.hid hN
  clear hN
  go_enter Try.func20, Try.ntmps20
  go_wp2_with fail
  refine HN.out.mono ?_
  rintro e w2 ⟨rfl, hb⟩
  have HB := Lib.hid hb
  clear hb
  go_wp2_with fail
  go_ret
  exact ⟨rfl, HB.out⟩
theorem take_fst (C : List (Nat × List UInt8)) (i : Nat) (h : i < C.length) : (C.take i).map (·.1) ++ [(C.getD i default).1] = (C.take (i + 1)).map (·.1) := by
  rw [List.take_succ_eq_append_getElem h, List.map_append]
  simp [h]
set_option maxHeartbeats 8000000 in
theorem dCached_calls (w : World) (B d sb sc : Nat) (V : Value) (D : Dv) (hD : DevO w B d sb sc V D) :
    Calls Try.prog 20 #[.pointer (some ⟨d, 0, none⟩)] w (CachB w D.C) := by
  obtain ⟨CA, cc, eV, hd⟩ := hD.box
  have hN := dnone_calls w d _ _ _ _ _ _ _ _ _ hd
  rw [decide_eq_false (by have := hD.ok.n; omega)] at hN
  have HN := Lib.hid hN
  have HD := Lib.hid hD
  clear hN hD hd
  subst eV
  obtain ⟨C, hC0⟩ : ∃ C, D.C = C := ⟨_, rfl⟩
  rw [hC0]
  have HC := Lib.hid (show ∀ x ∈ C, x.2.length = 128 from fun x hx => (HD.out.ok.c x (by rw [hC0]; exact hx)).2)
  have Hm := Lib.hid (show C.length ≤ 256 by have := HD.out.ok.m; rwa [hC0] at this)
  go_enter Try.func20, Try.ntmps20
  go_wp2_with fail
  refine HN.out.mono ?_
  rintro e w2 ⟨rfl, hb⟩
  have HB := Lib.hid hb
  have hD2 := HD.out.go hb
  have hcac := hD2.cac
  rw [hC0] at hcac
  have HCC := Lib.hid hcac
  obtain ⟨CA', cc', e', hd⟩ := hD2.box
  injection e' with e1 e2 e3
  subst e1 e3
  obtain ⟨c0, c1, c2, c3, c4⟩ := hd.cells
  rw [hC0] at c1
  clear hb hD2 hcac hd e2
  go_wp2_with fail
  clear c0 c1 c2 c3 c4
  go_loopw [3, 5, 14] (fun s _ iv wr => ∃ i : Nat, i ≤ C.length ∧ iv = .int .i64 i ∧ (∃ A' c', s = .slice A' i c' ∧ wr.ownsRow w2.heap.size 3 1 (.slice A' i c') i (nv ((C.take i).map (·.1)))) ∧ Below w2.heap.size w2 wr) (fun _ _ iv _ => C.length - (intOf iv).toNat)
  case atStart => exact ⟨0, by omega, rfl, ⟨none, 0, rfl, World.ownsRow_nil _ _ _ _⟩, Below.refl _ _⟩
  case round =>
    obtain ⟨i, hi, rfl, ⟨A', c', rfl, ho⟩, hb⟩ := hrel
    by_cases hlt : i < C.length
    · have hI : (i : Int) < (C.length : Int) := by omega
      have hi0 : (0 : Int) ≤ (i : Int) := by omega
      have hcac := own_below HCC.out hb
      obtain ⟨A0, cap0, e0', -, -, hA0, hA1⟩ := own_form hcac
      obtain ⟨cb, rfl⟩ : ∃ cb, CA = some ⟨cb, 0, none⟩ := by
        injection e0' with e0' e1' e2'
        subst e0'
        rcases CA with _ | a
        · exact absurd (hA0 rfl).1 (by omega)
        · obtain ⟨g, rfl, -⟩ := hA1 a rfl; exact ⟨g, rfl⟩
      obtain ⟨x, hx⟩ : ∃ x, C.getD i default = x := ⟨_, rfl⟩
      have hrg := cac_range hcac HC.out i hlt
      have hxl := HC.out _ (getD_mem' hlt)
      rw [hx] at hrg hxl
      have HR := Lib.hid hrg
      have HI := Lib.hid (show (Try.prog.info? 71).map (·.size) = some (cW x).length by rw [cW_len hxl]; kernel_rfl)
      obtain ⟨Z, hZ, hz⟩ := zero_write
      have HI2 := Lib.hid (show (Try.prog.info? 71).map (·.size) = some (cW x).toArray.size by rw [List.size_toArray]; exact HI.out)
      have HO := Lib.hid (show Z.size = (cW x).toArray.size by rw [hZ, List.size_toArray, cW_len hxl])
      have H1 := Lib.hid (show (cW x).toArray.all (·.oneCell') = true from all_oneCell_toArray (cW_all x))
      have HZ := Lib.hid (blk_new wr Z 71)
      obtain ⟨W1, hW1⟩ : ∃ W1, wr.alloc (.cells (cW x).toArray 71) = W1 := ⟨_, rfl⟩
      obtain ⟨z, hzz⟩ : ∃ z, wr.heap.size = z := ⟨_, rfl⟩
      have hst : Below wr.heap.size wr W1 := hW1 ▸ bstep wr _
      have hzb : W1.heap[z]? = some (.cells (cW x).toArray 71 (0, 0)) := by rw [← hzz, ← hW1]; exact blk_new wr _ _
      obtain ⟨n, b⟩ := x
      have q0 : W1.cell? ⟨z, 0, none⟩ = some (.int .i64 (n : Int)) := blk_cell hzb 0 (by simp [cW])
      obtain ⟨A2, c2, w3, hrun, o3, hb3⟩ := append_nat W1 w2.heap.size (own_below ho hst) n (by have := Hm.out; omega) (Nat.le_trans hb.size hst.size)
      have hb4 : Below w2.heap.size w2 w3 := hb.trans ((hst.mono hb.size).trans hb3)
      have HE := Lib.hid (show i + 1 ≤ C.length ∧ i < C.length ∧ w3.ownsRow w2.heap.size 3 1 (.slice A2 (i + 1) c2) (i + 1) (nv ((C.take (i + 1)).map (·.1))) ∧ Below w2.heap.size w2 w3 from ⟨hlt, hlt, by rw [← take_fst C i hlt, hx]; exact o3, hb4⟩)
      have X1 := Lib.hid (wrap64_in' ((i : Int) + 1) (by have := Hm.out; omega))
      have HW := Lib.hid (And.intro hW1 hzz)
      clear hx hxl hi hlt hb hcac hrg e0' hA0 hA1 hZ hst hzb ho o3 hb3 hb4 hW1 hzz
      go_wp2_with (first | (refine' wpList_load_mid rfl _ _ rfl _ _ rfl _ _ HR.out Try.underlying71 (by rfl) HI.out ?_) | (refine' wpList_store_row rfl _ _ _ rfl _ _ rfl rfl _ _ HZ.out HI2.out HO.out H1.out ?_; rw [World.setRow_alloc_new, HW.out.1, HW.out.2]) | (at_builtin; refine wpList_append_run hrun rfl rfl rfl rfl rfl ?_; clear hrun))
      rw [X1.out]
      exact ⟨⟨i + 1, HE.out.1, by push_cast; rfl, ⟨A2, c2, rfl, HE.out.2.2.1⟩, HE.out.2.2.2⟩, by have := HE.out.2.1; simp [intOf]; omega⟩
    · obtain rfl : i = C.length := by omega
      have HP := Lib.hid (show CachB w C (.returned (.slice A' C.length c')) wr from ⟨A', c', rfl, by rw [List.take_length] at ho; exact own_mono ho HB.out.size, bnext HB.out hb⟩)
      clear hlt hi ho hb
      go_wp2_with fail
      go_ret
      exact HP.out
theorem dPlan_dev (w : World) (B d sb sc : Nat) (V : Value) (D : Dv) (hD : DevO w B d sb sc V D) (i : Int) (hi : i < 9223372036854775808) : Calls Try.prog 18 #[.pointer (some ⟨d, 0, none⟩), .int .i64 i] w fun e w' => e = .returned (.int .i64 (planV D i).1) ∧ DevP w B d sb sc V (planV D i).2 w' := by
  obtain ⟨CA, cc, e, hd⟩ := hD.box
  have h0 := hD.ok.n
  have hE : planE D.S.length D.dn i = (planV D i).1 ∧ (planV D i).2 = { D with p := planP D.S.length D.dn D.p i } := by
    have hu : upE D.S.length D.dn 0 = if D.dn = true then 120 else 0 := by unfold upE; rw [if_neg (by omega), if_pos (show (0 : Int) ≤ 0 ∧ (0 : Int) < (D.S.length : Int) from ⟨by omega, by omega⟩)]
    unfold planP planE planV
    rw [hu]
    cases hdn : D.dn
    · by_cases h : i < 0 <;> simp [h] <;> (try (cases D; simp_all))
    · simp; cases D; simp_all
  refine (dPlan_calls w d _ _ _ _ _ _ _ _ _ i hd).mono ?_
  rintro e' w' ⟨rfl, h, hk⟩
  rw [hE.1]
  refine ⟨rfl, ?_⟩
  have hok := plan_ok hD.ok i hi
  rw [hE.2] at hok ⊢
  exact ⟨V, ⟨hok, ⟨CA, cc, e, h⟩, own_keptV hD.saf hk (fun g hg => by simp [Value.ownBlock] at hg; exact fun e => hD.ds (e ▸ hg.symm)), own_keptV hD.cac hk (fun g hg e => hD.dv (e ▸ hg)), hD.ds, hD.dv, hD.sv, hD.bd⟩, hk.mono (fun k _ h => h.1), .inl rfl⟩
end Go.Proofs.Ytpleaicpkpjkjaa
