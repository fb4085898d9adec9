/-
  Stream of the document, walked. Conditions: at most 10,000 bytes.
-/
import Derived.Test.YtmfngkhpaadehaaMbapFrames
import Derived.Test.YtmfngkhpaadehaaMbapRead2
namespace Go.Proofs.Ytmfngkhpaadehaa
open Go Go.RowKit Go.Kw Go.Kw.Mb
set_option linter.unusedVariables false
set_option linter.unusedSimpArgs false

def StreamPost (w' : World) (base : Nat) (e : Ending) (l : List UInt8) : Prop :=
  ∃ A' c', e = .returned (.tuple #[.slice A' (stream l).1.length c', .int .i64 ((stream l).2.1.length : Nat), .int .i64 (if (stream l).2.2 then 210 else 0)]) ∧ OwF w' base (fun b => b < base) (.slice A' (stream l).1.length c') (stream l).1
theorem streamPost_end {w' : World} {base : Nat} {l : List UInt8} {A' : Option Addr} {c' n : Nat} {fs : List Fr} {x y : Int} (ho : OwF w' base (fun b => b < base) (.slice A' n c') fs) (hn : n = fs.length) (h1 : fs = (stream l).1) (h2 : x = ((stream l).2.1.length : Nat)) (h3 : y = if (stream l).2.2 then 210 else 0) :
    StreamPost w' base (.returned (.tuple #[.slice A' n c', .int .i64 x, .int .i64 y])) l := by
  subst hn h1 h2 h3; exact ⟨A', c', rfl, ho⟩

/-- 'append' as a step of a drawn region, its run known. -/
theorem step_append_run {P : Program} {ops : Array Oper} {o : Oper} {a : Act} {w : World} {K : Act → World → Prop} {Q : Exit → Act → World → Prop} {E : Prop}
    (hg : o.guard = none) (d x : Operand) (dT sT ty : TypeId) (hop : o.op = Op.call { callee := Callee.builtin Builtin.append, args := #[d, x], argTypes := #[dT, sT] }) (hty : o.type = ty)
    (v u : Value) (hd : a.eval d = v) (hx : a.eval x = u) {v' : Value} {w' : World} (hr : (Builtin.append_ #[dT, sT] ty #[v, u]).run P w = .ok v' w') (hK : K (a.put o.dst v') w') :
    if Region.wanted o (yielded ops a.tmps) = true then Oper.wp P o a w K Q else E := by
  subst hty
  have hw : Region.wanted o (yielded ops a.tmps) = true := by simp [Region.wanted, hg]
  rw [if_pos hw]
  unfold Oper.wp
  simp [execOp, hop, resolve, invoke, builtin, hd, hx, hr, Result.andThen]
  exact hK

set_option maxRecDepth 100000 in
set_option maxHeartbeats 2000000 in
theorem refStream_calls (A : Option Addr) (c : Nat) (l : List UInt8) (hl : l.length ≤ 10000) (w : World) (hR : RdB w w.heap.size A l) (hc : l.length ≤ c) (hc2 : c ≤ 9223372036854775807) :
    Calls Try.prog 13 #[.slice A l.length c] w fun e w' => StreamPost w' w.heap.size e l ∧ Below w.heap.size w w' := by
  obtain ⟨b, off, hA, hcs⟩ : ∃ b off, (0 < l.length → A = some ⟨b, off, none⟩ ∧ b < w.heap.size) ∧ ∀ i, i < l.length → w.cell? ⟨b, off + i, none⟩ = some (.int .u8 (bAt l i)) := by
    rcases hR with h | ⟨b, off, h1, h2, h3⟩
    · exact ⟨0, 0, fun h' => by omega, fun i hi => by omega⟩
    · exact ⟨b, off, fun _ => ⟨h1, h2⟩, h3⟩
  have HA := Lib.hid hA
  have HC := Lib.hid hcs
  obtain ⟨fs, hfs⟩ : ∃ fs, (stream l).1 = fs := ⟨_, rfl⟩
  have Hfs := Lib.hid hfs
  clear hA hcs hR hfs
  go_enter Try.func13, Try.ntmps13
  go_wp2
  go_loopw [5, 6, 7] (fun v a i wr => ∃ k at_ : Nat, k ≤ fs.length ∧ i = .int .i64 k ∧ a = .int .i64 at_ ∧ restAt l k = l.drop at_ ∧ at_ ≤ l.length ∧ 8 * k ≤ at_ ∧ OwF wr w.heap.size (fun b => b < w.heap.size) v (fs.take k) ∧ Below w.heap.size w wr)
    (fun _ _ i _ => fs.length + 1 - (intOf i).toNat)
  case atStart => exact ⟨0, 0, Nat.zero_le _, rfl, rfl, rfl, Nat.zero_le _, Nat.zero_le _, OwF.nil _ _ _, Below.refl _ _⟩
  case round =>
    obtain ⟨k, at_, hk, rfl, rfl, hrest, hat, h8, ho, hb⟩ := hrel
    obtain ⟨A1, c1, rfl, hn1, hm1, hz1, hf1⟩ := ho.form
    obtain ⟨L, hL⟩ : ∃ L, L = (restAt l k).length := ⟨_, rfl⟩
    have hLn : L + at_ = l.length := by rw [hL, hrest, List.length_drop]; omega
    have hleft : (l.length : Int) - (at_ : Int) = (L : Int) := by omega
    have hkl : (k : Int) ≤ (l.length : Int) := by omega
    have hlen : (fs.take k).length = k := by simp; omega
    have HA1 : Hid (∀ x, (Value.slice A1 (fs.take k).length c1).ownBlock = some x → w.heap.size ≤ x) := fun x hx => by
      cases A1 with
      | none => simp [Value.ownBlock] at hx
      | some a => obtain ⟨g, rfl, h1, -⟩ := hf1 a rfl; simp [Value.ownBlock] at hx; omega
    have HL := Lib.hid hL
    have Hleft := Lib.hid hleft
    have Hlen := Lib.hid hlen
    have HLn := Lib.hid hLn
    have Hrest := Lib.hid hrest
    have HG : Hid (∀ i, i < L → wr.cell? ⟨b, off + (at_ + i), none⟩ = some (.int .u8 (bAt (restAt l k) i))) := fun i hi => by
      have := HC.out (at_ + i) (by omega)
      rw [← bAt_drop, ← hrest] at this
      rw [← this]
      exact hb.cell (p := ⟨b, off + (at_ + i), none⟩) (HA.out (by omega)).2
    by_cases hlt : k < fs.length
    · obtain ⟨g1, g2, g3⟩ := restAt_lt l k (by rw [Hfs.out]; exact hlt)
      rw [Hfs.out] at g3
      have hfl := flen_ge g1 g2
      have hno := (brk_no _).1 g1
      rw [← hL] at hfl hno
      obtain ⟨r, hr⟩ : ∃ r, restAt l k = r := ⟨_, rfl⟩
      rw [hr] at HG hfl hno g3 g1 g2 HL Hrest
      have Hr := Lib.hid hr
      obtain ⟨Z, hZ⟩ : ∃ Z : Nat, sz r = (Z : Int) := ⟨(sz r).toNat, by have := sz_lo r; omega⟩
      have hZF : flen r = 6 + Z := by unfold flen; rw [hZ]; simp
      have hZ2 := hno.2.2 (by omega)
      have hsz : bAt r 4 * 256 + bAt r 5 = (Z : Int) := hZ
      obtain ⟨rfl, hbl⟩ := HA.out (by omega)
      have j2 : wr.cell? ⟨b, off + (at_ + 2), none⟩ = some (.int .u8 0) := by rw [HG.out 2 (by omega), hno.1 (by omega)]
      have j3 : wr.cell? ⟨b, off + (at_ + 3), none⟩ = some (.int .u8 0) := by rw [HG.out 3 (by omega), hno.2.1 (by omega)]
      have j4 := HG.out 4 (by omega)
      have j5 := HG.out 5 (by omega)
      have n1 : (8 : Int) ≤ (L : Int) := by omega
      have n2 : (2 : Int) ≤ (Z : Int) := by omega
      have n3 : (Z : Int) ≤ 254 := by omega
      have n4 : (6 : Int) + (Z : Int) ≤ (L : Int) := by omega
      have n5 : (at_ : Int) + (L : Int) = (l.length : Int) := by omega
      have n6 : (l.length : Int) ≤ (c : Int) := by omega
      have n7 : (l.length : Int) ≤ 10000 := by omega
      have a4 := bAt_lo r 4
      have b4 := bAt_hi r 4
      have a5 := bAt_lo r 5
      have b5 := bAt_hi r 5
      have Hsz := Lib.hid hsz
      have HZF := Lib.hid hZF
      have Hg3 := Lib.hid g3
      clear hno hfl hZ hZF hZ2 hsz hr g1 g2 g3 hrest hL hlen hLn
      go_wp2_with fail
      go_quiet (fail)
      rw [Hsz.out]
      have hb3 := hb.drewN nq
      have ho3 : OwF (wr.drewN nq) w.heap.size (fun b => b < w.heap.size) (.slice A1 (fs.take k).length c1) (fs.take k) := ho.go ((Below.refl _ _).drewN nq)
      clear j2 j3 j4 j5 a4 b4 a5 b5 HG hb ho
      generalize wr.drewN nq = W3 at *
      have HK : Hid (∀ W, Below w.heap.size w W → W.cell? ⟨b, off + at_, none⟩ = some (.int .u8 (bAt r 0)) ∧ W.cell? ⟨b, off + (at_ + 1), none⟩ = some (.int .u8 (bAt r 1)) ∧ W.cell? ⟨b, off + (at_ + 6), none⟩ = some (.int .u8 (bAt r 6))) := fun W hbW => by
        have hr : r = l.drop at_ := Hrest.out
        refine ⟨?_, ?_, ?_⟩
        · rw [hr, bAt_drop]; exact (hbW.cell (p := ⟨b, off + at_, none⟩) hbl).trans (HC.out at_ (by omega))
        · rw [hr, bAt_drop]; exact (hbW.cell (p := ⟨b, off + (at_ + 1), none⟩) hbl).trans (HC.out (at_ + 1) (by omega))
        · rw [hr, bAt_drop]; exact (hbW.cell (p := ⟨b, off + (at_ + 6), none⟩) hbl).trans (HC.out (at_ + 6) (by omega))
      have hpd : (fr r).2.2 = (l.drop (at_ + 7)).take (Z - 1) := by
        show (r.drop 7).take (flen r - 7) = _
        rw [HZF.out, Hrest.out, List.drop_drop, show 6 + Z - 7 = Z - 1 by omega]
      have hrd : RdY W3.drew (fun b => b < w.heap.size) (some ⟨b, off + (at_ + 7), none⟩) (fr r).2.2 := by
        rw [hpd]
        refine RdY.take (RdY.drop (.inr ⟨b, off, rfl, hbl, Nat.lt_of_lt_of_le hbl hb3.drew.size, fun i hi => (hb3.drew.cell (p := ⟨b, off + i, none⟩) hbl).trans (HC.out i hi)⟩) _) _
      have hpl : (fr r).2.2.length = Z - 1 := by rw [hpd]; simp; omega
      obtain ⟨A2, c2, w4, hrun, ho4, hg4, hr4, -⟩ := OwF.push (w := W3.drew) (c := c - (at_ + 7)) (A := some ⟨b, off + (at_ + 7), none⟩) (ho3.go ((Below.refl _ _).drew)) (fr r) (hrd.mono fun x hx => ⟨hx, fun e => by have := HA1.out x e.symm; omega⟩) (by simp) (by rw [hpl]; omega) (by omega) hb3.drew.size (by rw [Hlen.out]; omega)
      rw [hpl, Hlen.out] at hrun
      rw [Hlen.out] at ho4
      have hb4 : Below w.heap.size w w4 := (hb3.drew.alloc hb3.drew.size _).grown hg4 (by have := hb3.size; simp; omega) hr4
      have e1 : (fr r).1 = bAt r 0 * 256 + bAt r 1 := rfl
      have e2 : (fr r).2.1 = bAt r 6 := rfl
      rw [e1, e2] at hrun
      have a0 := bAt_lo r 0
      have b0 := bAt_hi r 0
      have a1 := bAt_lo r 1
      have b1 := bAt_hi r 1
      have a6 := bAt_lo r 6
      have b6 := bAt_hi r 6
      have w0 : IntKind.i64.wrap (bAt r 0) = bAt r 0 := IntWalk.i64_in _ (by omega)
      have w1 : IntKind.i64.wrap (bAt r 1) = bAt r 1 := IntWalk.i64_in _ (by omega)
      have w01 : IntKind.i64.wrap (bAt r 0 * 256) = bAt r 0 * 256 := IntWalk.i64_in _ (by omega)
      have w02 : IntKind.i64.wrap (bAt r 0 * 256 + bAt r 1) = bAt r 0 * 256 + bAt r 1 := IntWalk.i64_in _ (by omega)
      have w6 : IntKind.i64.wrap (bAt r 6) = bAt r 6 := IntWalk.i64_in _ (by omega)
      have w10 : IntKind.i64.wrap ((at_ : Int) + 1) = (at_ : Int) + 1 := IntWalk.i64_in _ (by omega)
      have w11 : IntKind.i64.wrap ((at_ : Int) + 6) = (at_ : Int) + 6 := IntWalk.i64_in _ (by omega)
      have w12 : IntKind.i64.wrap ((at_ : Int) + 7) = (at_ : Int) + 7 := IntWalk.i64_in _ (by omega)
      have w13 : IntKind.i64.wrap ((at_ : Int) + 6 + (Z : Int)) = (at_ : Int) + 6 + (Z : Int) := IntWalk.i64_in _ (by omega)
      have p0 : (at_ : Int) < (l.length : Int) := by omega
      have p1 : (at_ : Int) + 1 < (l.length : Int) := by omega
      have p6 : (at_ : Int) + 6 < (l.length : Int) := by omega
      have p7 : (at_ : Int) + 7 ≤ (at_ : Int) + 6 + (Z : Int) := by omega
      have p8 : (at_ : Int) + 6 + (Z : Int) ≤ (c : Int) := by omega
      have z1 : (0 : Int) ≤ (at_ : Int) + 1 := by omega
      have z6 : (0 : Int) ≤ (at_ : Int) + 6 := by omega
      have z7 : (0 : Int) ≤ (at_ : Int) + 7 := by omega
      have z8 : (0 : Int) ≤ (at_ : Int) + 6 + (Z : Int) := by omega
      have t1 : ((at_ : Int) + 1).toNat = at_ + 1 := by omega
      have t6 : ((at_ : Int) + 6).toNat = at_ + 6 := by omega
      have t7 : ((at_ : Int) + 7).toNat = at_ + 7 := by omega
      have t8 : ((at_ : Int) + 6 + (Z : Int)).toNat = at_ + 6 + Z := by omega
      have t10 : ¬ c = at_ + 7 := by omega
      have t9 : at_ + 6 + Z - (at_ + 7) = Z - 1 := by omega
      have Hrun := Lib.hid (show (Builtin.append_ #[26, 26] 26 #[.slice A1 k c1, .slice (some ⟨W3.heap.size, 0, none⟩) 1 1]).run Try.prog (W3.alloc (.cells #[.int .i64 (bAt r 0 * 256 + bAt r 1), .int .i64 (bAt r 6), .slice (some ⟨b, off + (at_ + 7), none⟩) (Z - 1) (c - (at_ + 7))] 24)).drew = .ok (.slice A2 (k + 1) c2) w4 from hrun)
      clear hrun hrd hpd hpl e1 e2 ho3 hg4 hr4
      go_wp2_with fail
      trace_state
      go_region_held3 (fun W => W.cell? ⟨b, off + at_, none⟩ = some (.int .u8 (bAt r 0)) ∧ W.cell? ⟨b, off + (at_ + 1), none⟩ = some (.int .u8 (bAt r 1)) ∧ W.cell? ⟨b, off + (at_ + 6), none⟩ = some (.int .u8 (bAt r 6)))
        (first | exact HK.out _ hb3.drew | exact HK.out _ (hb3.alloc hb3.size _).drew | exact HK.out _ hb4)
        ((refine step_append_run (by rfl) _ _ _ _ _ (by rfl) (by rfl) _ _ (by rfl) (by rfl) Hrun.out ?_))
      go_wp2_with fail
      go_roundw
      case rel =>
        refine ⟨k + 1, at_ + 6 + Z, by omega, by go_num, by go_num, ?_, by have := HLn.out; omega, by have := Hsz.out; omega, ?_, hb4⟩
        · show (restAt l k).drop (flen (restAt l k)) = _
          rw [Hr.out, HZF.out, Hrest.out, List.drop_drop]; congr 1; omega
        · rw [List.take_succ_eq_append_getElem hlt]
          have := Hg3.out
          rw [List.getElem?_eq_getElem hlt] at this
          injection this with this
          rw [this]; exact ho4
      case measure => simp [intOf]; omega
    · obtain rfl : k = fs.length := by omega
      have hend := restAt_end l
      rw [Hfs.out] at hend
      have hft : fs.take fs.length = fs := List.take_length
      rw [hft] at ho
      obtain ⟨r, hr⟩ : ∃ r, restAt l fs.length = r := ⟨_, rfl⟩
      rw [hr] at HG hend HL
      have a4 := bAt_lo r 4
      have b4 := bAt_hi r 4
      have a5 := bAt_lo r 5
      have b5 := bAt_hi r 5
      have n5 : (at_ : Int) + (L : Int) = (l.length : Int) := by omega
      have n6 : (l.length : Int) ≤ (c : Int) := by omega
      have n7 : (l.length : Int) ≤ 10000 := by omega
      have Hft := Lib.hid hft
      have Hho := Lib.hid ho
      have HE := Lib.hid hend
      have hend2 : Hid (∀ x y : Int, (brk r = true → x = 0 ∧ y = 210) → (brk r = false → x = L ∧ y = 0) → x = ((stream l).2.1.length : Nat) ∧ y = if (stream l).2.2 then 210 else 0) := fun x y h1 h2 => by
        rcases HE.out with ⟨g1, g2⟩ | ⟨g1, -, g2⟩
        · obtain ⟨rfl, rfl⟩ := h1 g1; rw [g2]; simp
        · obtain ⟨rfl, rfl⟩ := h2 g1; rw [g2]; simp [HL.out]
      have hcl : Hid (∀ (x y : Int), (brk r = true → x = 0 ∧ y = 210) → (brk r = false → x = L ∧ y = 0) → StreamPost wr w.heap.size (.returned (.tuple #[.slice A1 fs.length c1, .int .i64 x, .int .i64 y])) l) := fun x y h1 h2 => by
        exact streamPost_end Hho.out rfl Hfs.out.symm (hend2.out x y h1 h2).1 (hend2.out x y h1 h2).2
      clear hend hft hr ho hL hrest hLn hlen hn1 hz1 hf1
      have HLr : Hid (r.length = L) := HL.out.symm
      by_cases h2 : 2 < L
      · obtain ⟨rfl, hbl⟩ := HA.out (by omega)
        have j2 := HG.out 2 h2
        have q2 : (2 : Int) < (L : Int) := by omega
        by_cases z2 : bAt r 2 = 0
        · rw [z2] at j2
          have Hz2 := Lib.hid z2
          clear z2
          by_cases h3 : 3 < L
          · have j3 := HG.out 3 h3
            have q3 : (3 : Int) < (L : Int) := by omega
            by_cases z3 : bAt r 3 = 0
            · rw [z3] at j3
              have Hz3 := Lib.hid z3
              clear z3
              by_cases h6 : 6 ≤ L
              · have j4 := HG.out 4 (by omega)
                have j5 := HG.out 5 (by omega)
                have q6 : (6 : Int) ≤ (L : Int) := by omega
                have s0 := sz_lo r
                have s1 := sz_hi r
                have hsz : bAt r 4 * 256 + bAt r 5 = sz r := rfl
                have Hsz := Lib.hid hsz
                by_cases z6 : 2 ≤ sz r ∧ sz r ≤ 254
                · obtain ⟨y1, y2⟩ := z6
                  have Hbk : Hid (brk r = false) := (brk_no r).2 ⟨fun _ => Hz2.out, fun _ => Hz3.out, fun _ => ⟨y1, y2⟩⟩
                  have y3 : (L : Int) < 6 + sz r := by
                    rcases HE.out with ⟨g1, g2⟩ | ⟨g1, g2, -⟩
                    · rw [Hbk.out] at g1; cases g1
                    · have := (whl_no r).1 g2; have := HLr.out; omega
                  clear hsz
                  go_wp2_with fail
                  go_quiet (fail)
                  rw [Hsz.out]
                  have hb9 := hb.drewN nq
                  have hcl9 : Hid (∀ (x y : Int), (brk r = true → x = 0 ∧ y = 210) → (brk r = false → x = L ∧ y = 0) → StreamPost (wr.drewN nq) w.heap.size (.returned (.tuple #[.slice A1 fs.length c1, .int .i64 x, .int .i64 y])) l) := fun x y h1 h2 => by
                    obtain ⟨A', c', e1, o1⟩ := hcl.out x y h1 h2
                    exact ⟨A', c', e1, o1.go ((Below.refl _ _).drewN nq)⟩
                  clear hcl hb j2 j3 j4 j5 a4 b4 a5 b5
                  generalize wr.drewN nq = W3 at *
                  go_wp2
                  all_goals (go_ret3; exact ⟨hcl9.out _ 0 (fun h => by rw [Hbk.out] at h; cases h) (fun _ => ⟨rfl, rfl⟩), hb9⟩)
                · have Hbk : Hid (brk r = true) := (brk_iff r).2 (.inr (.inr ⟨by have := HLr.out; omega, by omega⟩))
                  have Hz6 := Lib.hid z6
                  clear hsz z6
                  go_wp2_with fail
                  go_quiet (fail)
                  rw [Hsz.out]
                  have hb9 := hb.drewN nq
                  have hcl9 : Hid (∀ (x y : Int), (brk r = true → x = 0 ∧ y = 210) → (brk r = false → x = L ∧ y = 0) → StreamPost (wr.drewN nq) w.heap.size (.returned (.tuple #[.slice A1 fs.length c1, .int .i64 x, .int .i64 y])) l) := fun x y h1 h2 => by
                    obtain ⟨A', c', e1, o1⟩ := hcl.out x y h1 h2
                    exact ⟨A', c', e1, o1.go ((Below.refl _ _).drewN nq)⟩
                  clear hcl hb j2 j3 j4 j5 a4 b4 a5 b5
                  generalize wr.drewN nq = W3 at *
                  go_wp2_with fail
                  all_goals first
                    | (go_ret3; exact ⟨hcl9.out 0 210 (fun _ => ⟨rfl, rfl⟩) (fun h => by rw [Hbk.out] at h; cases h), hb9⟩)
                    | (exfalso; have := Hz6.out; omega)
              · have Hbk : Hid (brk r = false) := (brk_no r).2 ⟨fun _ => Hz2.out, fun _ => Hz3.out, fun _ => by have := HLr.out; omega⟩
                have q6 : (L : Int) < 6 := by omega
                go_wp2
                all_goals (go_ret3; exact ⟨hcl.out _ 0 (fun h => by rw [Hbk.out] at h; cases h) (fun _ => ⟨rfl, rfl⟩), hb⟩)
            · have Hbk : Hid (brk r = true) := (brk_iff r).2 (.inr (.inl ⟨by have := HLr.out; omega, z3⟩))
              have k3 : (bAt r 3 == 0) = false := by simpa using z3
              have k4 : (bAt r 3 != 0) = true := by simpa using z3
              clear z3
              go_wp2
              all_goals (go_ret3; exact ⟨hcl.out 0 210 (fun _ => ⟨rfl, rfl⟩) (fun h => by rw [Hbk.out] at h; cases h), hb⟩)
          · have Hbk : Hid (brk r = false) := (brk_no r).2 ⟨fun _ => Hz2.out, fun _ => by have := HLr.out; omega, fun _ => by have := HLr.out; omega⟩
            have q3 : (L : Int) ≤ 3 := by omega
            go_wp2
            all_goals (go_ret3; exact ⟨hcl.out _ 0 (fun h => by rw [Hbk.out] at h; cases h) (fun _ => ⟨rfl, rfl⟩), hb⟩)
        · have Hbk : Hid (brk r = true) := (brk_iff r).2 (.inl ⟨by have := HLr.out; omega, z2⟩)
          have k3 : (bAt r 2 == 0) = false := by simpa using z2
          have k4 : (bAt r 2 != 0) = true := by simpa using z2
          clear z2
          go_wp2
          all_goals (go_ret3; exact ⟨hcl.out 0 210 (fun _ => ⟨rfl, rfl⟩) (fun h => by rw [Hbk.out] at h; cases h), hb⟩)
      · have Hbk : Hid (brk r = false) := (brk_no r).2 ⟨fun _ => by have := HLr.out; omega, fun _ => by have := HLr.out; omega, fun _ => by have := HLr.out; omega⟩
        have q2 : (L : Int) ≤ 2 := by omega
        go_wp2
        all_goals (go_ret3; exact ⟨hcl.out _ 0 (fun h => by rw [Hbk.out] at h; cases h) (fun _ => ⟨rfl, rfl⟩), hb⟩)
end Go.Proofs.Ytmfngkhpaadehaa
