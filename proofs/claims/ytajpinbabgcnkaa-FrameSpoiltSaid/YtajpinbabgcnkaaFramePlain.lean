/-
  The plain law of the chapter of frames: a record's frame, what bytes say, no program in sight.
-/
import Derived.Test.YtajpinbabgcnkaaBase
import Derived.Test.YtajpinbabgcnkaaCrcPlain
import Derived.Test.YtajpinbabgcnkaaCrcBurstPlain
namespace Go.Kw.Fm
open Go Go.RowKit Go.Kw Go.Kw.Crc
set_option linter.unusedVariables false
set_option linter.unusedSimpArgs false

def hd (n : Nat) : List UInt8 := [UInt8.ofNat (n / 256), UInt8.ofNat n]
def be4 (s : Nat) : List UInt8 := [UInt8.ofNat (s / 16777216), UInt8.ofNat (s / 65536), UInt8.ofNat (s / 256), UInt8.ofNat s]
def fsum (b : List UInt8) : Nat := sum32 (sum32 0 (hd b.length)) b
/-- A record's frame. -/
def frm (b : List UInt8) : List UInt8 := hd b.length ++ (be4 (fsum b) ++ b)
def mayR (b : List UInt8) : Bool := decide (1 ≤ b.length) && decide (b.length ≤ 4096)
def byt (l : List UInt8) (i : Nat) : Nat := (l.getD i 0).toNat
def nOf (l : List UInt8) : Nat := byt l 0 * 256 + byt l 1
def sOf (l : List UInt8) : Nat := byt l 2 * 16777216 + byt l 3 * 65536 + byt l 4 * 256 + byt l 5
def recOf (l : List UInt8) : List UInt8 := (l.drop 6).take (nOf l)
/-- Why bytes begin with no frame (0: they do). -/
def whyOf (l : List UInt8) : Nat :=
  if l.length < 2 then 1 else if nOf l < 1 ∨ 4096 < nOf l then 2 else if l.length < 6 + nOf l then 1 else if fsum (recOf l) = sOf l then 0 else 3

theorem byt_lt (l : List UInt8) (i : Nat) : byt l i < 256 := by unfold byt; exact (l.getD i 0).toNat_lt
theorem mayR_iff (b : List UInt8) : mayR b = true ↔ 1 ≤ b.length ∧ b.length ≤ 4096 := by unfold mayR; simp
theorem hd_length (n : Nat) : (hd n).length = 2 := rfl
theorem be4_length (n : Nat) : (be4 n).length = 4 := rfl
theorem frm_length (b : List UInt8) : (frm b).length = 6 + b.length := by unfold frm; simp [hd_length, be4_length]; omega
theorem sum32_append (n : Nat) (a b : List UInt8) : sum32 (sum32 n a) b = sum32 n (a ++ b) := by
  unfold sum32
  rw [crcB_append, Nat.xor_assoc, Nat.xor_self, Nat.xor_zero]
theorem fsum_eq (b : List UInt8) : fsum b = sum32 0 (hd b.length ++ b) := sum32_append _ _ _
theorem sum32_lt (n : Nat) (hn : n < 4294967296) (l : List UInt8) : sum32 n l < 4294967296 := by
  unfold sum32
  exact Nat.xor_lt_two_pow (n := 32) (crcB_lt (k := 32) (by decide) (by decide) l (Nat.xor_lt_two_pow (n := 32) hn (by decide))) (by decide)
theorem fsum_lt (b : List UInt8) : fsum b < 4294967296 := sum32_lt _ (sum32_lt 0 (by decide) _) _
theorem whyOf_zero (l : List UInt8) : whyOf l = 0 ↔ 2 ≤ l.length ∧ 1 ≤ nOf l ∧ nOf l ≤ 4096 ∧ 6 + nOf l ≤ l.length ∧ fsum (recOf l) = sOf l := by
  unfold whyOf
  split
  · constructor
    · intro h; cases h
    · intro h; omega
  split
  · constructor
    · intro h; cases h
    · intro h; omega
  split
  · constructor
    · intro h; cases h
    · intro h; omega
  split
  · rename_i h; constructor
    · intro _; exact ⟨by omega, by omega, by omega, by omega, h⟩
    · intro _; rfl
  · rename_i h; constructor
    · intro h; cases h
    · intro h2; exact absurd h2.2.2.2.2 h
theorem recOf_length {l : List UInt8} (h : whyOf l = 0) : (recOf l).length = nOf l := by
  have := (whyOf_zero l).1 h
  unfold recOf; simp; omega
theorem recOf_may {l : List UInt8} (h : whyOf l = 0) : mayR (recOf l) = true := by
  have := (whyOf_zero l).1 h
  rw [mayR_iff, recOf_length h]; omega
theorem getD_toNat (l : List UInt8) (i : Nat) : UInt8.ofNat (byt l i) = l.getD i 0 := by unfold byt; simp
theorem six (l : List UInt8) (h : 6 ≤ l.length) : l = [l.getD 0 0, l.getD 1 0, l.getD 2 0, l.getD 3 0, l.getD 4 0, l.getD 5 0] ++ l.drop 6 := by
  match l, h with
  | a :: b :: c :: d :: e :: f :: r, _ => rfl
theorem ofNat_mod (a b : Nat) (h : a % 256 = b) : UInt8.ofNat a = UInt8.ofNat b := by
  apply UInt8.toNat_inj.1
  simp [UInt8.toNat_ofNat']; omega
theorem frm_recOf {l : List UInt8} (h : whyOf l = 0) : frm (recOf l) = l.take (6 + nOf l) := by
  have hh := (whyOf_zero l).1 h
  have h0 := byt_lt l 0
  have h1 := byt_lt l 1
  have h2 := byt_lt l 2
  have h3 := byt_lt l 3
  have h4 := byt_lt l 4
  have h5 := byt_lt l 5
  unfold frm
  rw [recOf_length h, hh.2.2.2.2]
  have et : ∀ n : Nat, l.take (6 + n) = [l.getD 0 0, l.getD 1 0, l.getD 2 0, l.getD 3 0, l.getD 4 0, l.getD 5 0] ++ (l.drop 6).take n := fun n => by
    conv => lhs; rw [six l (by omega)]
    rw [List.take_append, show ([l.getD 0 0, l.getD 1 0, l.getD 2 0, l.getD 3 0, l.getD 4 0, l.getD 5 0] : List UInt8).length = 6 from rfl, List.take_of_length_le (by simp),
      show 6 + n - 6 = n by omega]
  rw [et]
  have e0 : UInt8.ofNat (nOf l / 256) = l.getD 0 0 := by rw [← getD_toNat l 0]; exact ofNat_mod _ _ (by unfold nOf; omega)
  have e1 : UInt8.ofNat (nOf l) = l.getD 1 0 := by rw [← getD_toNat l 1]; exact ofNat_mod _ _ (by unfold nOf; omega)
  have e2 : UInt8.ofNat (sOf l / 16777216) = l.getD 2 0 := by rw [← getD_toNat l 2]; exact ofNat_mod _ _ (by unfold sOf; omega)
  have e3 : UInt8.ofNat (sOf l / 65536) = l.getD 3 0 := by rw [← getD_toNat l 3]; exact ofNat_mod _ _ (by unfold sOf; omega)
  have e4 : UInt8.ofNat (sOf l / 256) = l.getD 4 0 := by rw [← getD_toNat l 4]; exact ofNat_mod _ _ (by unfold sOf; omega)
  have e5 : UInt8.ofNat (sOf l) = l.getD 5 0 := by rw [← getD_toNat l 5]; exact ofNat_mod _ _ (by unfold sOf; omega)
  unfold hd be4 recOf
  rw [e0, e1, e2, e3, e4, e5]
  rfl
theorem toNat_ofNat (a : Nat) : (UInt8.ofNat a).toNat = a % 256 := by simp [UInt8.toNat_ofNat']
/-- Bytes that begin with the length of b and four bytes, and b. -/
theorem read_any (n s : Nat) (hn : n ≤ 4096) (hs : s < 4294967296) (b t : List UInt8) : nOf (hd n ++ (be4 s ++ b) ++ t) = n ∧ sOf (hd n ++ (be4 s ++ b) ++ t) = s ∧ (b.length = n → recOf (hd n ++ (be4 s ++ b) ++ t) = b) := by
  have hn' : nOf (hd n ++ (be4 s ++ b) ++ t) = n := by
    show (UInt8.ofNat (n / 256)).toNat * 256 + (UInt8.ofNat n).toNat = n
    rw [toNat_ofNat, toNat_ofNat]; omega
  refine ⟨hn', ?_, fun hb => ?_⟩
  · show (UInt8.ofNat (s / 16777216)).toNat * 16777216 + (UInt8.ofNat (s / 65536)).toNat * 65536 + (UInt8.ofNat (s / 256)).toNat * 256 + (UInt8.ofNat s).toNat = s
    rw [toNat_ofNat, toNat_ofNat, toNat_ofNat, toNat_ofNat]; omega
  · unfold recOf
    rw [hn']
    show (b ++ t).take n = b
    rw [List.take_append, List.take_of_length_le (by omega), hb, Nat.sub_self, List.take_zero, List.append_nil]
theorem frm_read (b t : List UInt8) (h : mayR b = true) : whyOf (frm b ++ t) = 0 ∧ recOf (frm b ++ t) = b ∧ nOf (frm b ++ t) = b.length := by
  have hb := (mayR_iff b).1 h
  obtain ⟨h1, h2, h3⟩ := read_any b.length (fsum b) hb.2 (fsum_lt b) b t
  have h4 := h3 rfl
  refine ⟨?_, h4, h1⟩
  rw [whyOf_zero]
  unfold frm
  rw [h1, h2, h4]
  refine ⟨?_, by omega, by omega, ?_, rfl⟩ <;> simp [hd_length, be4_length] <;> omega

/-- The records that bytes say, and what is left. -/
def scan (l : List UInt8) : List (List UInt8) × List UInt8 :=
  if h : whyOf l = 0 then (recOf l :: (scan (l.drop (6 + nOf l))).1, (scan (l.drop (6 + nOf l))).2) else ([], l)
termination_by l.length
decreasing_by all_goals (have := (whyOf_zero l).1 h; rw [List.length_drop]; omega)
theorem scan_some {l : List UInt8} (h : whyOf l = 0) : scan l = (recOf l :: (scan (l.drop (6 + nOf l))).1, (scan (l.drop (6 + nOf l))).2) := by
  rw [scan, dif_pos h]
theorem scan_none {l : List UInt8} (h : whyOf l ≠ 0) : scan l = ([], l) := by rw [scan, dif_neg h]
theorem scan_frm (b t : List UInt8) (h : mayR b = true) : scan (frm b ++ t) = (b :: (scan t).1, (scan t).2) := by
  obtain ⟨h1, h2, h3⟩ := frm_read b t h
  have e : (frm b ++ t).drop (6 + b.length) = t := by rw [← frm_length, List.drop_append_of_le_length (Nat.le_refl _), List.drop_length, List.nil_append]
  rw [scan_some h1, h2, h3, e]
theorem scan_frames : ∀ (ls : List (List UInt8)) (t : List UInt8), (∀ b ∈ ls, mayR b = true) → scan (ls.flatMap frm ++ t) = (ls ++ (scan t).1, (scan t).2)
  | [], t, _ => rfl
  | b :: ls, t, h => by
    rw [List.flatMap_cons, List.append_assoc, scan_frm b _ (h b (by simp)), scan_frames ls t (fun x hx => h x (by simp [hx]))]; rfl
theorem scan_nil : scan [] = ([], []) := scan_none (by decide)
theorem scan_frames' (ls : List (List UInt8)) (h : ∀ b ∈ ls, mayR b = true) : scan (ls.flatMap frm) = (ls, []) := by
  have := scan_frames ls [] h
  rwa [List.append_nil, scan_nil, List.append_nil] at this
theorem scan_back : ∀ (n : Nat) (l : List UInt8), l.length ≤ n → (scan l).1.flatMap frm ++ (scan l).2 = l ∧ (∀ b ∈ (scan l).1, mayR b = true)
  | n, l, hn => by
    by_cases h : whyOf l = 0
    · have hh := (whyOf_zero l).1 h
      match n, hn with
      | 0, hn => omega
      | n + 1, hn =>
        obtain ⟨g1, g2⟩ := scan_back n (l.drop (6 + nOf l)) (by rw [List.length_drop]; omega)
        rw [scan_some h]
        refine ⟨?_, fun b hb => ?_⟩
        · rw [List.flatMap_cons, List.append_assoc, g1, frm_recOf h, List.take_append_drop]
        · rcases List.mem_cons.1 hb with rfl | hb
          · exact recOf_may h
          · exact g2 b hb
    · rw [scan_none h]; exact ⟨rfl, by simp⟩
theorem sizes (ls : List (List UInt8)) : (ls.flatMap frm).length = (ls.map fun b => 6 + b.length).sum := by
  induction ls with
  | nil => rfl
  | cons b ls ih => rw [List.flatMap_cons, List.length_append, frm_length, ih]; simp
theorem scan_part (b : List UInt8) (h : mayR b = true) (n : Nat) (hn : n < 6 + b.length) : scan ((frm b).take n) = ([], (frm b).take n) := by
  refine scan_none fun h0 => ?_
  have hb := (mayR_iff b).1 h
  have hh := (whyOf_zero _).1 h0
  rw [List.length_take, frm_length] at hh
  have h1 := (read_any b.length (fsum b) hb.2 (fsum_lt b) b []).1
  rw [List.append_nil] at h1
  have h2 : nOf ((frm b).take n) = b.length := by
    rw [← h1]
    unfold nOf byt
    rw [List.getD_eq_getElem?_getD, List.getD_eq_getElem?_getD, List.getD_eq_getElem?_getD, List.getD_eq_getElem?_getD, List.getElem?_take_of_lt (by omega), List.getElem?_take_of_lt (by omega)]
    rfl
  omega
/-- Frames that are cut. -/
theorem scan_cut (ls : List (List UInt8)) (h : ∀ b ∈ ls, mayR b = true) (n k : Nat) (hk : k ≤ ls.length) (h1 : ((ls.take k).flatMap frm).length ≤ n) (h2 : k < ls.length → n < ((ls.take k).flatMap frm).length + (6 + (ls.getD k []).length)) (hn : n ≤ (ls.flatMap frm).length) :
    scan ((ls.flatMap frm).take n) = (ls.take k, ((ls.drop k).flatMap frm).take (n - ((ls.take k).flatMap frm).length)) := by
  have e : (ls.flatMap frm) = (ls.take k).flatMap frm ++ (ls.drop k).flatMap frm := by rw [← List.flatMap_append, List.take_append_drop]
  have ht : ∀ b ∈ ls.take k, mayR b = true := fun b hb => h b (List.mem_of_mem_take hb)
  conv => lhs; rw [e]
  rw [List.take_append, List.take_of_length_le h1, scan_frames _ _ ht]
  suffices hs : scan (((ls.drop k).flatMap frm).take (n - ((ls.take k).flatMap frm).length)) = ([], ((ls.drop k).flatMap frm).take (n - ((ls.take k).flatMap frm).length)) by rw [hs]; simp
  by_cases hkl : k < ls.length
  · rw [List.drop_eq_getElem_cons hkl, List.flatMap_cons]
    have hg : ls.getD k [] = ls[k] := by rw [List.getD_eq_getElem?_getD, List.getElem?_eq_getElem hkl]; rfl
    have h3 := h2 hkl
    rw [hg] at h3
    rw [List.take_append, frm_length, show n - ((ls.take k).flatMap frm).length - (6 + ls[k].length) = 0 by omega, List.take_zero, List.append_nil]
    exact scan_part _ (h _ (List.getElem_mem hkl)) _ (by omega)
  · rw [List.drop_eq_nil_of_le (by omega)]; simp [scan_nil]
end Go.Kw.Fm
