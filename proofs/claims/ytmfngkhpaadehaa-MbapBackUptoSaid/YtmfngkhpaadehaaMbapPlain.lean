/-
  Streams of frames, plainly: lists of bytes alone. No program in sight. Conditions stand at each theorem.
-/
import Derived.Test.YtmfngkhpaadehaaBase
namespace Go.Kw.Mb
open Go Go.RowKit Go.Kw

/-- A frame: its two numbers, its bytes. -/
abbrev Fr := Int × Int × List UInt8
def sz (l : List UInt8) : Int := bAt l 4 * 256 + bAt l 5
theorem sz_lo (l : List UInt8) : 0 ≤ sz l := by unfold sz; have := bAt_lo l 4; have := bAt_lo l 5; omega
theorem sz_hi (l : List UInt8) : sz l ≤ 65535 := by unfold sz; have := bAt_hi l 4; have := bAt_hi l 5; omega
def brk (l : List UInt8) : Bool :=
  (decide (2 < l.length) && decide (bAt l 2 ≠ 0)) || (decide (3 < l.length) && decide (bAt l 3 ≠ 0)) || (decide (6 ≤ l.length) && (decide (sz l < 2) || decide (254 < sz l)))
def whl (l : List UInt8) : Bool := decide (6 ≤ l.length) && decide (6 + sz l ≤ l.length)
def flen (l : List UInt8) : Nat := 6 + (sz l).toNat
def fr (l : List UInt8) : Fr := (bAt l 0 * 256 + bAt l 1, bAt l 6, (l.drop 7).take (flen l - 7))

theorem brk_iff (l : List UInt8) : brk l = true ↔ (2 < l.length ∧ bAt l 2 ≠ 0) ∨ (3 < l.length ∧ bAt l 3 ≠ 0) ∨ (6 ≤ l.length ∧ (sz l < 2 ∨ 254 < sz l)) := by
  unfold brk; simp [or_assoc]
theorem brk_no (l : List UInt8) : brk l = false ↔ (2 < l.length → bAt l 2 = 0) ∧ (3 < l.length → bAt l 3 = 0) ∧ (6 ≤ l.length → 2 ≤ sz l ∧ sz l ≤ 254) := by
  rw [← Bool.not_eq_true, brk_iff]
  constructor
  · intro h
    refine ⟨fun a => ?_, fun a => ?_, fun a => ?_⟩
    · exact Classical.byContradiction fun b => h (.inl ⟨a, b⟩)
    · exact Classical.byContradiction fun b => h (.inr (.inl ⟨a, b⟩))
    · exact Classical.byContradiction fun b => h (.inr (.inr ⟨a, by omega⟩))
  · rintro ⟨h1, h2, h3⟩ (⟨a, b⟩ | ⟨a, b⟩ | ⟨a, b⟩)
    · exact b (h1 a)
    · exact b (h2 a)
    · have := h3 a; omega
theorem whl_iff (l : List UInt8) : whl l = true ↔ 6 ≤ l.length ∧ 6 + sz l ≤ l.length := by unfold whl; simp
theorem whl_no (l : List UInt8) : whl l = false ↔ l.length < 6 ∨ (l.length : Int) < 6 + sz l := by
  rw [← Bool.not_eq_true, whl_iff]; omega
theorem flen_ge {l : List UInt8} (hb : brk l = false) (hw : whl l = true) : 8 ≤ flen l ∧ flen l ≤ l.length ∧ flen l ≤ 260 := by
  have h1 := (whl_iff l).1 hw
  have h2 := ((brk_no l).1 hb).2.2 h1.1
  unfold flen; omega

/-- What is gathered of bytes: frames, what is left, is it broken. -/
def gath : Nat → List UInt8 → List Fr × List UInt8 × Bool
  | 0, l => ([], l, false)
  | n + 1, l => if brk l then ([], [], true) else if whl l then (fr l :: (gath n (l.drop (flen l))).1, (gath n (l.drop (flen l))).2) else ([], l, false)
theorem gath_fuel : ∀ (n m : Nat) (l : List UInt8), l.length < n → l.length < m → gath n l = gath m l
  | 0, _, l, h, _ => by omega
  | n + 1, 0, l, _, h => by omega
  | n + 1, m + 1, l, h1, h2 => by
    unfold gath
    cases hb : brk l with
    | true => simp
    | false =>
      cases hw : whl l with
      | false => simp
      | true =>
        have := flen_ge hb hw
        simp only [Bool.false_eq_true, if_false, if_true]
        rw [gath_fuel n m (l.drop (flen l)) (by rw [List.length_drop]; omega) (by rw [List.length_drop]; omega)]
def stream (l : List UInt8) : List Fr × List UInt8 × Bool := gath (l.length + 1) l
theorem stream_broken {l : List UInt8} (h : brk l = true) : stream l = ([], [], true) := by unfold stream gath; rw [if_pos h]
theorem stream_short {l : List UInt8} (h : brk l = false) (hw : whl l = false) : stream l = ([], l, false) := by unfold stream gath; rw [if_neg (by simp [h]), if_neg (by simp [hw])]
theorem stream_whole {l : List UInt8} (h : brk l = false) (hw : whl l = true) : stream l = (fr l :: (stream (l.drop (flen l))).1, (stream (l.drop (flen l))).2) := by
  have := flen_ge h hw
  conv => lhs; unfold stream gath
  rw [if_neg (by simp [h]), if_pos hw]
  rw [gath_fuel l.length ((l.drop (flen l)).length + 1) (l.drop (flen l)) (by rw [List.length_drop]; omega) (by omega)]
  rfl

theorem bAt_append {a b : List UInt8} {i : Nat} (h : i < a.length) : bAt (a ++ b) i = bAt a i := by
  unfold bAt; rw [List.getD_eq_getElem?_getD, List.getD_eq_getElem?_getD, List.getElem?_append_left h]
theorem sz_append {a b : List UInt8} (h : 6 ≤ a.length) : sz (a ++ b) = sz a := by unfold sz; rw [bAt_append (by omega), bAt_append (by omega)]
theorem brk_append {a : List UInt8} (b : List UInt8) (h : brk a = true) : brk (a ++ b) = true := by
  rw [brk_iff] at h ⊢
  rw [List.length_append]
  rcases h with ⟨h1, h2⟩ | ⟨h1, h2⟩ | ⟨h1, h2⟩
  · exact .inl ⟨by omega, by rw [bAt_append (by omega)]; exact h2⟩
  · exact .inr (.inl ⟨by omega, by rw [bAt_append (by omega)]; exact h2⟩)
  · exact .inr (.inr ⟨by omega, by rw [sz_append h1]; exact h2⟩)
theorem whl_append {a : List UInt8} (b : List UInt8) (hb : brk a = false) (hw : whl a = true) :
    brk (a ++ b) = false ∧ whl (a ++ b) = true ∧ flen (a ++ b) = flen a ∧ fr (a ++ b) = fr a ∧ (a ++ b).drop (flen (a ++ b)) = a.drop (flen a) ++ b := by
  have hl := flen_ge hb hw
  have hw1 := (whl_iff a).1 hw
  have hn := (brk_no a).1 hb
  have hs : sz (a ++ b) = sz a := sz_append hw1.1
  have hf : flen (a ++ b) = flen a := by unfold flen; rw [hs]
  refine ⟨?_, ?_, hf, ?_, ?_⟩
  · rw [brk_no, List.length_append]
    refine ⟨fun _ => ?_, fun _ => ?_, fun _ => ?_⟩
    · rw [bAt_append (by omega)]; exact hn.1 (by omega)
    · rw [bAt_append (by omega)]; exact hn.2.1 (by omega)
    · rw [hs]; exact hn.2.2 (by omega)
  · rw [whl_iff, List.length_append, hs]; omega
  · unfold fr
    rw [hf, bAt_append (by omega), bAt_append (by omega), bAt_append (by omega)]
    congr 2
    rw [List.drop_append_of_le_length (by omega), List.take_append_of_le_length (by rw [List.length_drop]; omega)]
  · rw [hf, List.drop_append_of_le_length (by omega)]

/-- A stream in two pieces. -/
theorem stream_append : ∀ (n : Nat) (a b : List UInt8), a.length ≤ n → stream (a ++ b) =
    if (stream a).2.2 then ((stream a).1, [], true) else ((stream a).1 ++ (stream ((stream a).2.1 ++ b)).1, (stream ((stream a).2.1 ++ b)).2)
  | n, a, b, hn => by
    cases hb : brk a with
    | true => rw [stream_broken hb, stream_broken (brk_append b hb)]; simp
    | false =>
      cases hw : whl a with
      | false => rw [stream_short hb hw]; simp
      | true =>
        obtain ⟨h1, h2, h3, h4, h5⟩ := whl_append b hb hw
        have hl := flen_ge hb hw
        rw [stream_whole h1 h2, stream_whole hb hw, h4, h5]
        match n, hn with
        | 0, hn => exact absurd hn (by omega)
        | n + 1, hn =>
          rw [stream_append n (a.drop (flen a)) b (by rw [List.length_drop]; omega)]
          by_cases hx : (stream (a.drop (flen a))).2.2 = true
          · rw [if_pos hx, if_pos hx]
          · rw [if_neg hx, if_neg hx]; simp

/-- The bytes that are left when k frames are taken. -/
def restAt (l : List UInt8) : Nat → List UInt8
  | 0 => l
  | k + 1 => (restAt l k).drop (flen (restAt l k))
theorem restAt_spec (l : List UInt8) : ∀ k, k ≤ (stream l).1.length → (stream l).1.drop k = (stream (restAt l k)).1 ∧ (stream l).2 = (stream (restAt l k)).2
  | 0, _ => ⟨rfl, rfl⟩
  | k + 1, h => by
    obtain ⟨h1, h2⟩ := restAt_spec l k (by omega)
    have hlen : 0 < (stream (restAt l k)).1.length := by rw [← h1, List.length_drop]; omega
    cases hb : brk (restAt l k) with
    | true => rw [stream_broken hb] at hlen; simp at hlen
    | false =>
      cases hw : whl (restAt l k) with
      | false => rw [stream_short hb hw] at hlen; simp at hlen
      | true =>
        rw [stream_whole hb hw] at h1 h2
        refine ⟨?_, h2⟩
        show (stream l).1.drop (k + 1) = (stream ((restAt l k).drop (flen (restAt l k)))).1
        have : (stream l).1.drop (k + 1) = ((stream l).1.drop k).drop 1 := by rw [List.drop_drop]
        rw [this, h1]; rfl
theorem restAt_lt (l : List UInt8) (k : Nat) (h : k < (stream l).1.length) :
    brk (restAt l k) = false ∧ whl (restAt l k) = true ∧ (stream l).1[k]? = some (fr (restAt l k)) := by
  obtain ⟨h1, h2⟩ := restAt_spec l k (by omega)
  have hlen : 0 < (stream (restAt l k)).1.length := by rw [← h1, List.length_drop]; omega
  cases hb : brk (restAt l k) with
  | true => rw [stream_broken hb] at hlen; simp at hlen
  | false =>
    cases hw : whl (restAt l k) with
    | false => rw [stream_short hb hw] at hlen; simp at hlen
    | true =>
      refine ⟨rfl, rfl, ?_⟩
      rw [stream_whole hb hw] at h1
      have : ((stream l).1.drop k)[0]? = some (fr (restAt l k)) := by rw [h1]; rfl
      rwa [List.getElem?_drop, Nat.add_zero] at this
theorem restAt_end (l : List UInt8) : (brk (restAt l (stream l).1.length) = true ∧ (stream l).2 = ([], true)) ∨
    (brk (restAt l (stream l).1.length) = false ∧ whl (restAt l (stream l).1.length) = false ∧ (stream l).2 = (restAt l (stream l).1.length, false)) := by
  obtain ⟨h1, h2⟩ := restAt_spec l _ (Nat.le_refl _)
  rw [List.drop_length] at h1
  cases hb : brk (restAt l (stream l).1.length) with
  | true => refine .inl ⟨rfl, ?_⟩; rw [h2, stream_broken hb]
  | false =>
    cases hw : whl (restAt l (stream l).1.length) with
    | true => rw [stream_whole hb hw] at h1; simp at h1
    | false => refine .inr ⟨rfl, rfl, ?_⟩; rw [h2, stream_short hb hw]
theorem restAt_at (l : List UInt8) : ∀ k, k ≤ (stream l).1.length → ∃ at_, restAt l k = l.drop at_ ∧ at_ ≤ l.length ∧ 8 * k ≤ at_
  | 0, _ => ⟨0, rfl, by omega, by omega⟩
  | k + 1, h => by
    obtain ⟨a, h1, h2, h3⟩ := restAt_at l k (by omega)
    obtain ⟨hb, hw, -⟩ := restAt_lt l k (by omega)
    have := flen_ge hb hw
    refine ⟨a + flen (restAt l k), ?_, ?_, by omega⟩
    · show (restAt l k).drop (flen (restAt l k)) = _
      conv => lhs; rw [h1]
      rw [List.drop_drop, h1]
    · rw [h1, List.length_drop] at this; rw [h1]; omega
theorem bAt_drop (l : List UInt8) (a i : Nat) : bAt (l.drop a) i = bAt l (a + i) := by
  unfold bAt; rw [List.getD_eq_getElem?_getD, List.getD_eq_getElem?_getD, List.getElem?_drop]

/-- A frame's bytes. -/
def bytesOf (f : Fr) : List UInt8 :=
  [UInt8.ofNat (f.1 / 256).toNat, UInt8.ofNat (f.1 % 256).toNat, 0, 0, UInt8.ofNat ((f.2.2.length + 1) / 256), UInt8.ofNat ((f.2.2.length + 1) % 256), UInt8.ofNat f.2.1.toNat] ++ f.2.2
def mayF (f : Fr) : Bool := decide (0 ≤ f.1) && decide (f.1 ≤ 65535) && decide (0 ≤ f.2.1) && decide (f.2.1 ≤ 255) && decide (1 ≤ f.2.2.length) && decide (f.2.2.length ≤ 253)
theorem mayF_iff (f : Fr) : mayF f = true ↔ 0 ≤ f.1 ∧ f.1 ≤ 65535 ∧ 0 ≤ f.2.1 ∧ f.2.1 ≤ 255 ∧ 1 ≤ f.2.2.length ∧ f.2.2.length ≤ 253 := by
  unfold mayF; simp [and_assoc]
theorem bytesOf_length (f : Fr) : (bytesOf f).length = f.2.2.length + 7 := by simp [bytesOf]
theorem bytesOf_at (f : Fr) (h : mayF f = true) : bAt (bytesOf f) 0 = f.1 / 256 ∧ bAt (bytesOf f) 1 = f.1 % 256 ∧ bAt (bytesOf f) 2 = 0 ∧ bAt (bytesOf f) 3 = 0 ∧ bAt (bytesOf f) 4 = ((f.2.2.length + 1) / 256 : Nat) ∧ bAt (bytesOf f) 5 = ((f.2.2.length + 1) % 256 : Nat) ∧ bAt (bytesOf f) 6 = f.2.1 := by
  rw [mayF_iff] at h
  unfold bytesOf bAt
  simp only [List.cons_append, List.nil_append, List.getD_cons_zero, List.getD_cons_succ, UInt8.toNat_ofNat']
  refine ⟨?_, ?_, rfl, rfl, ?_, ?_, ?_⟩ <;> omega
theorem bytesOf_read (f : Fr) (h : mayF f = true) : brk (bytesOf f) = false ∧ whl (bytesOf f) = true ∧ flen (bytesOf f) = (bytesOf f).length ∧ fr (bytesOf f) = f := by
  obtain ⟨h0, h1, h2, h3, h4, h5, h6⟩ := bytesOf_at f h
  have hm := (mayF_iff f).1 h
  have hl := bytesOf_length f
  have hs : sz (bytesOf f) = f.2.2.length + 1 := by unfold sz; rw [h4, h5]; omega
  have hf : flen (bytesOf f) = (bytesOf f).length := by unfold flen; rw [hs, hl]; omega
  refine ⟨?_, ?_, hf, ?_⟩
  · rw [brk_no]; exact ⟨fun _ => h2, fun _ => h3, fun _ => by rw [hs]; omega⟩
  · rw [whl_iff, hs]; omega
  · unfold fr
    rw [h0, h1, h6, hf, hl]
    have e1 : f.1 / 256 * 256 + f.1 % 256 = f.1 := by omega
    have e2 : ((bytesOf f).drop 7).take (f.2.2.length + 7 - 7) = f.2.2 := by
      unfold bytesOf
      rw [List.drop_append_of_le_length (by simp)]
      simp
    rw [e1, e2]
/-- Frames' bytes one behind the other are these frames. -/
theorem stream_bytes : ∀ (fs : List Fr), (∀ f ∈ fs, mayF f = true) → stream (fs.flatMap bytesOf) = (fs, [], false)
  | [], _ => by decide
  | f :: fs, h => by
    obtain ⟨h1, h2, h3, h4⟩ := bytesOf_read f (h f (by simp))
    obtain ⟨g1, g2, g3, g4, g5⟩ := whl_append (fs.flatMap bytesOf) h1 h2
    rw [List.flatMap_cons, stream_whole g1 g2, g5, g4, h3, List.drop_length, List.nil_append, stream_bytes fs (fun x hx => h x (by simp [hx])), h4]
end Go.Kw.Mb
