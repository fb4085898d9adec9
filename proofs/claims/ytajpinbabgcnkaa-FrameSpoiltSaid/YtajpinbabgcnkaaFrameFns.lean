/-
  The functions of the chapter of frames that go through no list: may, Size, sum, Put, first, Read. Conditions stand at each theorem.
-/
import Derived.Test.YtajpinbabgcnkaaLists
import Derived.Test.YtajpinbabgcnkaaCrcLaws1
import Derived.Test.YtajpinbabgcnkaaFramePlain
namespace Go.Proofs.Ytajpinbabgcnkaa
open Go Go.RowKit Go.Kw Go.Kw.Crc Go.Kw.Fm
set_option linter.unusedVariables false
set_option linter.unusedSimpArgs false

theorem may_calls (A : Option Addr) (n c : Nat) (w : World) : Calls Try.prog 20 #[.slice A n c] w fun e w' => e = .returned (.bool (decide (1 ≤ n) && decide (n ≤ 4096))) ∧ w = w' := by
  by_cases h1 : 1 ≤ n
  · by_cases h2 : n ≤ 4096
    · have k1 : (1 : Int) ≤ (n : Int) := by omega
      have k2 : (n : Int) ≤ 4096 := by omega
      go_enter Try.func20, Try.ntmps20
      go_wp2_with fail
      go_ret
      simp [h1, h2]
    · have k1 : (1 : Int) ≤ (n : Int) := by omega
      have k2 : ¬ (n : Int) ≤ 4096 := by omega
      go_enter Try.func20, Try.ntmps20
      go_wp2_with fail
      go_ret
      simp [h1, h2]
  · have k1 : n = 0 := by omega
    go_enter Try.func20, Try.ntmps20
    go_wp2_with fail
    go_ret
    simp [k1]
theorem size_calls (A : Option Addr) (n c : Nat) (hn : n ≤ 1000000) (w : World) : Calls Try.prog 12 #[.slice A n c] w fun e w' => e = .returned (.int .i64 (if 1 ≤ n ∧ n ≤ 4096 then 6 + (n : Int) else 0)) ∧ w = w' := by
  obtain ⟨r, hr⟩ : ∃ r : Int, (if 1 ≤ n ∧ n ≤ 4096 then 6 + (n : Int) else 0) = r := ⟨_, rfl⟩
  rw [hr]
  have Hr := Lib.hid hr
  clear hr
  go_enter Try.func12, Try.ntmps12
  go_wp2_with fail
  refine (may_calls A n c w).mono ?_
  rintro e w' ⟨rfl, rfl⟩
  by_cases h : 1 ≤ n ∧ n ≤ 4096
  · have hb : (decide (1 ≤ n) && decide (n ≤ 4096)) = true := by simp [h.1, h.2]
    rw [hb]
    have hv := Hr.out
    rw [if_pos h] at hv
    subst hv
    go_wp2_with fail
    go_ret
    exact ⟨rfl, rfl⟩
  · have hb : (decide (1 ≤ n) && decide (n ≤ 4096)) = false := by
      cases hx : (decide (1 ≤ n) && decide (n ≤ 4096)) with
      | false => rfl
      | true => simp at hx; exact absurd hx h
    rw [hb]
    have hv := Hr.out
    rw [if_neg h] at hv
    subst hv
    go_wp2_with fail
    go_ret
    exact ⟨rfl, rfl⟩
theorem hd_cells (n : Nat) (hn : n ≤ 4096) : (#[Value.int .u8 ((n : Int) / 256), Value.int .u8 ((n : Int) % 256)]).toList = bv (hd n) := by
  simp only [bv, hd, List.map_cons, List.map_nil, toNat_ofNat]
  congr 2
  · congr 1; omega
theorem frameSum_calls (n : Nat) (hn : n ≤ 4096) (A : Option Addr) (m c : Nat) (b : List UInt8) (hm : m = b.length) (hl : b.length ≤ 1000000) (w : World) (hR : RdB w w.heap.size A b) :
    Calls Try.prog 21 #[.int .i64 n, .slice A m c] w fun e w' => e = .returned (.int .u32 (sum32 (sum32 0 (hd n)) b)) ∧ Below w.heap.size w w' := by
  subst hm
  have hb1 := bstep w (.cells #[Value.int .u8 ((n : Int) / 256), Value.int .u8 ((n : Int) % 256)] 5)
  have hr1 := rdB_new w #[Value.int .u8 ((n : Int) / 256), Value.int .u8 ((n : Int) % 256)] 5 (0, 0) (hd n) (hd_cells n hn)
  have HS := Lib.hid (sumOf32_any (some ⟨w.heap.size, 0, none⟩) 2 (hd n) (by rw [hd_length]; decide) (w.alloc (.cells #[Value.int .u8 ((n : Int) / 256), Value.int .u8 ((n : Int) % 256)] 5)) (by simpa using hr1))
  go_enter Try.func21, Try.ntmps21
  go_wp2_with fail
  refine HS.out.mono ?_
  rintro e w1 ⟨rfl, hb2⟩
  have hb := bnext hb1 hb2
  have HM := Lib.hid (more32_any A c b hl w1 ((hR.below hb).more hb.size) (sum32 0 (hd n)) (sum32_lt 0 (by decide) _))
  go_wp2_with fail
  refine HM.out.mono ?_
  rintro e w2 ⟨rfl, hb3⟩
  go_wp2_with fail
  go_ret
  exact ⟨rfl, bnext hb hb3⟩
theorem be_cells (n s : Nat) (hn : n ≤ 4096) (hs : s < 4294967296) : (#[Value.int .u8 ((n : Int) / 256), Value.int .u8 ((n : Int) % 256), Value.int .u8 ((s : Int) / 16777216), Value.int .u8 ((s : Int) / 65536 % 256), Value.int .u8 ((s : Int) / 256 % 256), Value.int .u8 ((s : Int) % 256)]).toList = bv (hd n ++ be4 s) := by
  simp only [bv, hd, be4, List.cons_append, List.nil_append, List.map_cons, List.map_nil, toNat_ofNat]
  rw [show ((n / 256 % 256 : Nat) : Int) = (n : Int) / 256 by omega, show ((s / 16777216 % 256 : Nat) : Int) = (s : Int) / 16777216 by omega]
  simp
/-- Put -/
def PutPost (w w' : World) (e : Ending) (o b : List UInt8) : Prop :=
  if mayR b then ∃ A' c', e = .returned (.tuple #[.slice A' (o ++ frm b).length c', .int .i64 0]) ∧ w'.ownsRow w.heap.size 5 1 (.slice A' (o ++ frm b).length c') (o ++ frm b).length (bv (o ++ frm b)) else e = .returned (.tuple #[.slice none 0 0, .int .i64 130])
theorem put_calls (A B : Option Addr) (c d : Nat) (o b : List UInt8) (ho : o.length ≤ 100000) (hl : b.length ≤ 100000) (w : World) (hO : RdB w w.heap.size A o) (hR : RdB w w.heap.size B b) (hzA : A = none → o.length = 0) (hzB : B = none → b.length = 0) :
    Calls Try.prog 11 #[.slice A o.length c, .slice B b.length d] w fun e w' => PutPost w w' e o b ∧ Below w.heap.size w w' := by
  cases hm : mayR b with
  | true =>
    have hb := (mayR_iff b).1 hm
    have hbb : (decide (1 ≤ b.length) && decide (b.length ≤ 4096)) = true := by simp [hb.1, hb.2]
    go_enter Try.func11, Try.ntmps11
    go_wp2_with fail
    refine (may_calls B b.length d w).mono ?_
    rintro e w' ⟨rfl, rfl⟩
    rw [hbb]
    go_wp2_with fail
    refine (frameSum_calls b.length hb.2 B b.length d b rfl (by omega) w hR).mono ?_
    rintro e w1 ⟨rfl, hb1⟩
    have hs := fsum_lt b
    obtain ⟨s, hsv⟩ : ∃ s, sum32 (sum32 0 (hd b.length)) b = s := ⟨_, rfl⟩
    rw [hsv]
    rw [show fsum b = s from hsv] at hs
    obtain ⟨cs, hcs⟩ : ∃ cs : Array Value, (#[Value.int .u8 ((b.length : Int) / 256), Value.int .u8 ((b.length : Int) % 256), Value.int .u8 ((s : Int) / 16777216), Value.int .u8 ((s : Int) / 65536 % 256), Value.int .u8 ((s : Int) / 256 % 256), Value.int .u8 ((s : Int) % 256)]) = cs := ⟨_, rfl⟩
    have hb2 := bstep w1 (.cells cs 5)
    have hr2 := rdB_new w1 cs 5 (0, 0) (hd b.length ++ be4 s) (by rw [← hcs]; exact be_cells b.length s hb.2 hs)
    have hb3 := bstep (w1.alloc (.cells cs 5)) (.cells #[.slice A o.length c, .slice (some ⟨w1.heap.size, 0, none⟩) 6 6, .slice B b.length d] 23)
    have kk := blk_new (w1.alloc (.cells cs 5)) #[.slice A o.length c, .slice (some ⟨w1.heap.size, 0, none⟩) 6 6, .slice B b.length d] 23
    obtain ⟨W3, hW3⟩ : ∃ W3, (w1.alloc (.cells cs 5)).alloc (.cells #[.slice A o.length c, .slice (some ⟨w1.heap.size, 0, none⟩) 6 6, .slice B b.length d] 23) = W3 := ⟨_, rfl⟩
    rw [hW3] at hb3 kk
    have hs3 : W3.heap.size = w1.heap.size + 2 := by rw [← hW3]; simp
    rw [World.size_alloc] at kk
    have hbw3 := bnext (bnext hb1 hb2) hb3
    have hal : allB (fun i => if i = 0 then o else if i = 1 then hd b.length ++ be4 s else b) 3 = o ++ frm b := by
      unfold allB frm fsum
      rw [hsv]
      simp [List.range_succ]
    obtain ⟨r, hr⟩ : ∃ r, o ++ frm b = r := ⟨_, rfl⟩
    have hrl : r.length ≤ 1000000 := by rw [← hr, List.length_append, frm_length]; omega
    have Hr := Lib.hid hr
    rw [hr] at hal
    have HC := Lib.hid (concat_calls (some ⟨w1.heap.size + 1, 0, none⟩) 3 3 (fun i => if i = 0 then (A, c) else if i = 1 then (some ⟨w1.heap.size, 0, none⟩, 6) else (B, d)) (fun i => if i = 0 then o else if i = 1 then hd b.length ++ be4 s else b) (by omega)
      (by rw [hal]; exact hrl) W3
      (.inr ⟨w1.heap.size + 1, 0, rfl, by omega, fun i hi => by match i, hi with | 0, _ => exact blk_cell kk 0 rfl | 1, _ => exact blk_cell kk 1 rfl | 2, _ => exact blk_cell kk 2 rfl⟩)
      (fun k hk => by
        match k, hk with
        | 0, _ => exact ⟨(hO.below hbw3).more hbw3.size, hzA⟩
        | 1, _ => exact ⟨(hr2.below (by simpa using hb3)).more (by omega), by simp⟩
        | 2, _ => exact ⟨(hR.below hbw3).more hbw3.size, hzB⟩))
    rw [hal] at HC
    clear hr2 kk hal hsv hr
    go_wp2_with fail
    refine HC.out.mono ?_
    rintro e w4 ⟨A4, c4, rfl, o4, hb4⟩
    have hfin : PutPost w w4 (.returned (.tuple #[.slice A4 r.length c4, .int .i64 0])) o b := by
      unfold PutPost; rw [hm, if_pos rfl, Hr.out]
      exact ⟨A4, c4, rfl, own_mono o4 hbw3.size⟩
    have hbw4 := bnext hbw3 hb4
    clear HC hW3 hcs hs3 hb2 hb3
    go_wp2_with fail
    go_ret2
    exact ⟨hfin, hbw4⟩
  | false =>
    have hbb : (decide (1 ≤ b.length) && decide (b.length ≤ 4096)) = false := hm
    have hfin : PutPost w w (.returned (.tuple #[.slice none 0 0, .int .i64 130])) o b := by
      unfold PutPost; rw [hm, if_neg (by decide)]
    go_enter Try.func11, Try.ntmps11
    go_wp2_with fail
    refine (may_calls B b.length d w).mono ?_
    rintro e w' ⟨rfl, rfl⟩
    rw [hbb]
    go_wp2_with fail
    go_ret2
    exact ⟨hfin, Below.refl _ _⟩
end Go.Proofs.Ytajpinbabgcnkaa
