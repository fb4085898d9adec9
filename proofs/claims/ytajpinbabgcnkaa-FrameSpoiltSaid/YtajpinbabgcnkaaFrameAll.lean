/-
  Whole lists of records: All, its reference, Great, Same. Conditions stand at each theorem.
-/
import Derived.Test.YtajpinbabgcnkaaFrameRef
namespace Go.Proofs.Ytajpinbabgcnkaa
open Go Go.RowKit Go.Kw Go.Kw.Crc Go.Kw.Fm
set_option linter.unusedVariables false
set_option linter.unusedSimpArgs false

theorem own_caps {w : World} {base : Nat} {e : TypeId} {size : Nat} {A : Option Addr} {n c k : Nat} {xs : List Value} (h : w.ownsRow base e size (.slice A n c) k xs) : n ≤ c ∧ c ≤ 9223372036854775807 ∧ (A = none → n = 0) ∧ (∀ a, A = some a → ∃ g, a = ⟨g, 0, none⟩ ∧ base ≤ g ∧ g < w.heap.size) := by
  obtain ⟨A', c', e', h1, h2, h3, h4⟩ := own_form h
  injection e' with e1 e2 e3
  subst e1 e2 e3
  exact ⟨h1, by unfold maxLen at h2; omega, fun h => (h3 h).1, h4⟩
theorem RdL.cells {w : World} {S : Nat → Prop} {A : Option Addr} {fs : List (List UInt8)} (h : RdL w S A fs) {k : Nat} (hk : k < fs.length) :
    ∃ b off B c, A = some ⟨b, off, none⟩ ∧ b < w.heap.size ∧ w.cell? ⟨b, off + k, none⟩ = some (.slice B (lrd fs k).length c) ∧
      RdY w S B (lrd fs k) ∧ (B = none → (lrd fs k).length = 0) ∧ (lrd fs k).length ≤ c ∧ c ≤ 9223372036854775807 := by
  obtain ⟨ps, h1, h2⟩ := h
  rcases h1 with h1 | ⟨b, off, rfl, hs, hb, hc⟩
  · omega
  · exact ⟨b, off, (ps k).1, (ps k).2, rfl, hb, hc k (by omega), (h2 k hk).1, (h2 k hk).2⟩
theorem put_n (A B : Option Addr) (n m c d : Nat) (o b : List UInt8) (hn : n = o.length) (hm : m = b.length) (ho : o.length ≤ 100000) (hl : b.length ≤ 100000) (w : World) (hO : RdB w w.heap.size A o) (hR : RdB w w.heap.size B b) (hzA : A = none → o.length = 0) (hzB : B = none → b.length = 0) :
    Calls Try.prog 11 #[.slice A n c, .slice B m d] w fun e w' => PutPost w w' e o b ∧ Below w.heap.size w w' := by
  subst hn hm; exact put_calls A B c d o b ho hl w hO hR hzA hzB

def frms (ls : List (List UInt8)) (k : Nat) : List UInt8 := (ls.take k).flatMap frm
theorem frms_succ (ls : List (List UInt8)) (k : Nat) (h : k < ls.length) : frms ls (k + 1) = frms ls k ++ frm (lrd ls k) := by
  unfold frms
  have := lrd_get h
  rw [List.getElem?_eq_getElem h] at this
  injection this with this
  rw [List.take_succ_eq_append_getElem h, List.flatMap_append, this]; simp
theorem frms_all (ls : List (List UInt8)) : frms ls ls.length = ls.flatMap frm := by unfold frms; rw [List.take_length]
theorem frms_le (ls : List (List UInt8)) (k : Nat) : (frms ls k).length ≤ (ls.flatMap frm).length := by
  unfold frms
  conv => rhs; rw [← List.take_append_drop k ls, List.flatMap_append, List.length_append]
  omega
theorem row_le (ls : List (List UInt8)) (k : Nat) (h : k < ls.length) : 6 + (lrd ls k).length ≤ (ls.flatMap frm).length := by
  have h1 := frms_le ls (k + 1)
  rw [frms_succ ls k h, List.length_append, frm_length] at h1
  omega
theorem count_le (ls : List (List UInt8)) : 6 * ls.length ≤ (ls.flatMap frm).length := by
  induction ls with
  | nil => simp
  | cons b ls ih => rw [List.flatMap_cons, List.length_append, frm_length, List.length_cons]; omega
theorem all_may {ls : List (List UInt8)} (h : ∀ j, j < ls.length → mayR (lrd ls j) = true) : ls.all mayR = true := by
  rw [List.all_eq_true]
  intro x hx
  obtain ⟨i, hi, rfl⟩ := List.getElem_of_mem hx
  have := lrd_get hi
  rw [List.getElem?_eq_getElem hi] at this
  injection this with this
  rw [this]; exact h i hi
theorem not_all_may {ls : List (List UInt8)} {j : Nat} (hj : j < ls.length) (h : mayR (lrd ls j) = false) : ls.all mayR = false := by
  cases hx : ls.all mayR with
  | false => rfl
  | true =>
    rw [List.all_eq_true] at hx
    have := lrd_get hj
    have := hx _ (List.mem_of_getElem? this)
    rw [h] at this; cases this
/-- All -/
def AllPost (w' : World) (base : Nat) (e : Ending) (ls : List (List UInt8)) : Prop :=
  if ls.all mayR then ∃ A' c' n, e = .returned (.tuple #[.slice A' n c', .int .i64 0]) ∧ n = (ls.flatMap frm).length ∧ w'.ownsRow base 5 1 (.slice A' n c') n (bv (ls.flatMap frm)) else e = .returned (.tuple #[.slice none 0 0, .int .i64 130])
theorem frameAll_calls (A : Option Addr) (n c : Nat) (ls : List (List UInt8)) (hn : n = ls.length) (hl : (ls.flatMap frm).length ≤ 100000) (w : World) {S : Nat → Prop} (hF : RdL w S A ls) :
    Calls Try.prog 9 #[.slice A n c] w fun e w' => AllPost w' w.heap.size e ls ∧ Below w.heap.size w w' := by
  have hcnt := count_le ls
  have HF := Lib.hid hF
  have Hn := Lib.hid hn
  have hn2 : n ≤ 20000 := by omega
  clear hF hcnt hn
  go_enter Try.func9, Try.ntmps9
  go_wp2_with fail
  go_loopw [4, 11] (fun o i wr => ∃ k : Nat, k ≤ n ∧ i = .int .i64 k ∧ Hid (∀ j, j < k → mayR (lrd ls j) = true) ∧ (∃ A1 c1 m, o = .slice A1 m c1 ∧ Hid (m = (frms ls k).length) ∧ Hid (wr.ownsRow w.heap.size 5 1 (.slice A1 m c1) m (bv (frms ls k)))) ∧ Below w.heap.size w wr) (fun _ i _ => n - (intOf i).toNat)
  case atStart => exact ⟨0, Nat.zero_le _, rfl, fun j hj => by omega, ⟨none, 0, 0, rfl, rfl, World.ownsRow_nil _ _ _ _⟩, Below.refl _ _⟩
  case round =>
    obtain ⟨k, hk, rfl, hmay, ⟨A1, c1, m, rfl, hm, how⟩, hb⟩ := hrel
    by_cases hlt : k < n
    · have hltl : k < ls.length := by have := Hn.out; omega
      obtain ⟨b1, o1, B1, C1, rfl, hb1, x0, x1, x2, x3, x4⟩ := (HF.out.go hb).cells hltl
      have hkI : (k : Int) < (n : Int) := by omega
      have hro := row_le ls k hltl
      have hle := frms_le ls k
      have hsu := frms_succ ls k hltl
      obtain ⟨b, hbq⟩ : ∃ b, lrd ls k = b := ⟨_, rfl⟩
      have Hbq := Lib.hid hbq
      rw [hbq] at x0 x1 x2 x3 hro hsu
      obtain ⟨z, hz⟩ : ∃ z, b.length = z := ⟨_, rfl⟩
      have HP := Lib.hid (put_n A1 B1 m z c1 C1 (frms ls k) b hm.out hz.symm (by omega) (by omega) wr (rdB_own how.out).1 x1.rd (fun h => by have := (own_caps how.out).2.2.1 h; have := hm.out; omega) x2)
      rw [hz] at x0 x3
      have Hsu := Lib.hid hsu
      have hcap := (own_caps how.out).1
      have hcap2 := (own_caps how.out).2.1
      have Hhb := Lib.hid hb
      clear hsu x1 x2 hro hle hz hbq how
      cases hmb : mayR b with
      | true =>
        go_wp2_with fail
        refine HP.out.mono ?_
        rintro e w2 ⟨hp, hb2⟩
        unfold PutPost at hp
        rw [hmb, if_pos rfl] at hp
        obtain ⟨A2, c2, rfl, o2⟩ := hp
        rw [← Hsu.out] at o2 ⊢
        have HO := Lib.hid (own_mono o2 Hhb.out.size)
        have HB := Lib.hid (Hhb.out.trans (hb2.mono Hhb.out.size))
        have HM : Hid (mayR (lrd ls k) = true) := by rw [Hbq.out]; exact hmb
        clear HP o2 hb2 hmb hb
        go_wp2_with fail
        refine ⟨⟨k + 1, by omega, rfl, fun j hj => ?_, ⟨A2, c2, _, rfl, rfl, HO.out⟩, HB.out⟩, by simp [intOf]; omega⟩
        by_cases hj2 : j = k
        · subst hj2; exact HM.out
        · exact hmay.out j (by omega)
      | false =>
        go_wp2_with fail
        refine HP.out.mono ?_
        rintro e w2 ⟨hp, hb2⟩
        unfold PutPost at hp
        rw [hmb, if_neg (by decide)] at hp
        subst hp
        have hfin : AllPost w2 w.heap.size (.returned (.tuple #[.slice none 0 0, .int .i64 130])) ls := by
          unfold AllPost; rw [not_all_may hltl (by rw [Hbq.out]; exact hmb), if_neg (by decide)]
        have hbf := Hhb.out.trans (hb2.mono Hhb.out.size)
        go_wp2_with fail
        go_ret2
        exact ⟨hfin, hbf⟩
    · obtain rfl : n = k := by omega
      have hfin : AllPost wr w.heap.size (.returned (.tuple #[.slice A1 m c1, .int .i64 0])) ls := by
        have hn := Hn.out
        unfold AllPost
        rw [all_may (fun j hj => hmay.out j (by omega)), if_pos rfl]
        have e1 : frms ls n = ls.flatMap frm := by rw [hn, frms_all]
        exact ⟨A1, c1, m, rfl, by rw [← e1]; exact hm.out, by rw [← e1]; exact how.out⟩
      clear how
      go_wp2_with fail
      go_ret2
      exact ⟨hfin, hb⟩
/-- the document's All -/
def RefAllPost (w' : World) (base : Nat) (e : Ending) (ls : List (List UInt8)) : Prop :=
  if ls.all mayR then ∃ A' c' n, e = .returned (.tuple #[.slice A' n c', .int .i64 0]) ∧ n = (ls.flatMap frm).length ∧ w'.ownsRow base 5 1 (.slice A' n c') n (bv (ls.flatMap frm)) else e = .returned (.tuple #[.slice none 0 0, .int .i64 130])
theorem refAll_calls (A : Option Addr) (n c : Nat) (ls : List (List UInt8)) (hn : n = ls.length) (hl : (ls.flatMap frm).length ≤ 100000) (w : World) {S : Nat → Prop} (hF : RdL w S A ls) :
    Calls Try.prog 10 #[.slice A n c] w fun e w' => RefAllPost w' w.heap.size e ls ∧ Below w.heap.size w w' := by
  have hcnt := count_le ls
  have HF := Lib.hid hF
  have Hn := Lib.hid hn
  have hn2 : n ≤ 20000 := by omega
  clear hF hcnt hn
  go_enter Try.func10, Try.ntmps10
  go_wp2_with fail
  go_loopw [4, 5] (fun o i wr => ∃ k : Nat, k ≤ n ∧ i = .int .i64 k ∧ Hid (∀ j, j < k → mayR (lrd ls j) = true) ∧ (∃ A1 c1 m, o = .slice A1 m c1 ∧ Hid (m = (frms ls k).length) ∧ Hid (wr.ownsRow w.heap.size 5 1 (.slice A1 m c1) m (bv (frms ls k)))) ∧ Below w.heap.size w wr) (fun _ i _ => n - (intOf i).toNat)
  case atStart => exact ⟨0, Nat.zero_le _, rfl, fun j hj => by omega, ⟨none, 0, 0, rfl, rfl, World.ownsRow_nil _ _ _ _⟩, Below.refl _ _⟩
  case round =>
    obtain ⟨k, hk, rfl, hmay, ⟨A1, c1, m, rfl, hm, how⟩, hb⟩ := hrel
    by_cases hlt : k < n
    · have hltl : k < ls.length := by have := Hn.out; omega
      obtain ⟨b1, o1, B1, C1, rfl, hb1, x0, x1, x2, x3, x4⟩ := (HF.out.go hb).cells hltl
      have hkI : (k : Int) < (n : Int) := by omega
      have hro := row_le ls k hltl
      have hle := frms_le ls k
      have hle2 := frms_le ls (k + 1)
      have hsu := frms_succ ls k hltl
      obtain ⟨b, hbq⟩ : ∃ b, lrd ls k = b := ⟨_, rfl⟩
      have Hbq := Lib.hid hbq
      rw [hbq] at x0 x1 x2 x3 hro hsu
      obtain ⟨z, hz⟩ : ∃ z, b.length = z := ⟨_, rfl⟩
      rw [hz] at x0 x3
      have hcap := (own_caps how.out).1
      have hcap2 := (own_caps how.out).2.1
      have Hhb := Lib.hid hb
      have Hz := Lib.hid hz
      have Hx1 := Lib.hid x1
      have Hx2 := Lib.hid x2
      have Hsu := Lib.hid hsu
      have Hle2 := Lib.hid (Nat.le_trans hle2 hl)
      have Hle := Lib.hid (Nat.le_trans hle hl)
      clear hsu hro hle hle2 hz hbq x1 x2
      cases hmb : mayR b with
      | true =>
        have hmm := (mayR_iff b).1 hmb
        have z1 : ((z : Int) == 0) = false := beq_eq_false_iff_ne.2 (by have := Hz.out; omega)
        have z2 : ¬ (4096 : Int) < (z : Int) := by have := Hz.out; omega
        have HR := Lib.hid (refFrame_calls B1 z C1 b Hz.out.symm hmm.2 wr Hx1.out.rd Hx2.out)
        have Hmb := Lib.hid hmb
        clear hmm hb hmb
        go_wp2_with fail
        refine HR.out.mono ?_
        rintro e w2 ⟨A2, c2, rfl, o2, z2, hb2⟩
        obtain ⟨A3, c3, w3, hrun, o3, hb3, -⟩ := append_bytes (P := Try.prog) eb w2 w.heap.size (own_below how.out hb2) (frm b).length c2 (rdB_own o2).1 rfl (by have h1 := Hle2.out; rw [Hsu.out, List.length_append] at h1; omega) (by have := Hhb.out.size; have := hb2.size; omega) z2
        rw [← Hsu.out] at hrun o3
        have HO := Lib.hid o3
        have HB := Lib.hid ((Hhb.out.trans (hb2.mono Hhb.out.size)).trans hb3)
        have HM : Hid (mayR (lrd ls k) = true) := by rw [Hbq.out]; exact Hmb.out
        obtain ⟨q, hq⟩ : ∃ q, frm b = q := ⟨_, rfl⟩
        rw [hq] at hrun ⊢
        clear HR o2 hb2 z2 o3 hb3 how hq
        go_wp2_with (at_builtin; refine wpList_append_run hrun rfl rfl rfl rfl rfl ?_; clear hrun)
        refine ⟨⟨k + 1, by omega, rfl, fun j hj => ?_, ⟨A3, c3, _, rfl, rfl, HO.out⟩, HB.out⟩, by simp [intOf]; omega⟩
        by_cases hj2 : j = k
        · subst hj2; exact HM.out
        · exact hmay.out j (by omega)
      | false =>
        have hfin : RefAllPost wr w.heap.size (.returned (.tuple #[.slice none 0 0, .int .i64 130])) ls := by
          unfold RefAllPost; rw [not_all_may hltl (by rw [Hbq.out]; exact hmb), if_neg (by decide)]
        have hmm : z = 0 ∨ 4096 < z := by
          have := Hz.out
          unfold mayR at hmb
          simp at hmb
          omega
        have Hmm := Lib.hid hmm
        clear hmb hmm
        go_wp2_with fail
        all_goals first
          | (go_ret2; exact ⟨hfin, hb⟩)
          | (exfalso; have := Hmm.out; omega)
    · obtain rfl : n = k := by omega
      have hfin : RefAllPost wr w.heap.size (.returned (.tuple #[.slice A1 m c1, .int .i64 0])) ls := by
        have hn := Hn.out
        unfold RefAllPost
        rw [all_may (fun j hj => hmay.out j (by omega)), if_pos rfl]
        have e1 : frms ls n = ls.flatMap frm := by rw [hn, frms_all]
        exact ⟨A1, c1, m, rfl, by rw [← e1]; exact hm.out, by rw [← e1]; exact how.out⟩
      clear how
      go_wp2_with fail
      go_ret2
      exact ⟨hfin, hb⟩
end Go.Proofs.Ytajpinbabgcnkaa
