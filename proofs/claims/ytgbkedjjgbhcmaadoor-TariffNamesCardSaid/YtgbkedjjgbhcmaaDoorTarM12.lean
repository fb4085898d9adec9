/-
  Texts that the proof leans on, merged by program, part 12. Conditions stand at each theorem.
-/
import Derived.Test.YtgbkedjjgbhcmaaDoorTarM1
import Derived.Test.YtgbkedjjgbhcmaaDoorTarM7
import Derived.Test.YtgbkedjjgbhcmaaDoorTarM11
import Derived.Below
import Derived.Test.YtgbkedjjgbhcmaaDoorChecked
import Derived.LoopTactic
import Derived.Lib.Hide
import Derived.Deep.QuietTactic
import Derived.BigQuiet
import Derived.Lib.Mul64
import Derived.Lib.BitFns
import Derived.Laws.Bits64b
import Derived.Laws.Rows
import Derived.Laws.Tables
import Derived.Deep.WholeRow
import Derived.BigRegion
import Derived.Deep.Draws
import Derived.RegionTactic
import Derived.Shelf.Abstract
import Derived.Orders
/-
  What the chapter's tariff says: its plain law; is, walked. Conditions stand at each theorem.
-/
namespace Go.Proofs.YtgbkedjjgbhcmaaDoor
open Go Go.RowKit Go.Kw Go.Kw.Cv Go.Shelf
set_option linter.unusedVariables false
set_option linter.unusedSimpArgs false

section
variable {b k : Nat} {f : Int}
theorem some_zon : zonOk (someX b f k).o (someX b f k).lr (someX b f k).zg := by
  show zonOk 3600 0 _
  exact ⟨by omega, by omega, by omega, fun i hi => absurd hi (by omega)⟩
theorem some_cal : calOk (someX b f k).la (someX b f k).gh (someX b f k).lb (someX b f k).gs := by
  show calOk 0 _ 0 _
  exact ⟨by omega, by omega, fun i hi => absurd hi (by omega), fun i hi => absurd hi (by omega)⟩
theorem some_tab : tabOk (someX b f k).np (fun i => ((someX b f k).pF i).2.1) (someX b f k).gp (someX b f k).nr (someX b f k).rr := by
  refine ⟨⟨by show 1 ≤ 2; omega, by show 2 ≤ 50; omega, by show 1 ≤ 100; omega⟩, fun i hi => ?_, fun i hi => ?_⟩
  · have : i < 1 := hi
    obtain rfl : i = 0 := by omega
    refine ⟨?_, ?_, ?_, ?_, ?_, ?_⟩ <;> (simp [someX]; done)
  · have : i < 2 := hi
    rcases (by omega : i = 0 ∨ i = 1) with rfl | rfl
    · refine ⟨⟨by show 1 ≤ 2; omega, by show 2 ≤ 48; omega, rfl⟩, fun j hj => ?_⟩
      have : j < 2 := hj
      rcases (by omega : j = 0 ∨ j = 1) with rfl | rfl
      · refine ⟨?_, ?_, ?_, fun h => absurd h (by omega)⟩ <;> (simp [someX]; done)
      · refine ⟨?_, ?_, ?_, fun _ => ?_⟩ <;> (simp [someX]; done)
    · refine ⟨⟨by show 1 ≤ 1; omega, by show 1 ≤ 48; omega, rfl⟩, fun j hj => ?_⟩
      have : j < 1 := hj
      obtain rfl : j = 0 := by omega
      refine ⟨?_, ?_, ?_, fun h => absurd h (by omega)⟩ <;> (simp [someX]; done)
theorem some_rat (hf : 0 ≤ f ∧ f < 253402300800) (hk : 1 ≤ k ∧ k ≤ 8) : ratOk (someX b f k).nv (someX b f k).vf (fun i => ((someX b f k).vF i).2.1) (someX b f k).vp := by
  refine ⟨by show 1 ≤ 200; omega, fun i hi => ?_⟩
  have : i < 1 := hi
  obtain rfl : i = 0 := by omega
  refine ⟨⟨⟨hf.1, hf.2, hk.1, by show k ≤ 16; omega⟩, fun j hj => ?_⟩, fun h => absurd h (by omega)⟩
  show 0 ≤ (if j = 0 then (100 : Int) else if j = 1 then 250 else 0) ∧ (if j = 0 then (100 : Int) else if j = 1 then 250 else 0) ≤ 1073741824
  split
  · omega
  · split <;> omega
theorem some_ok (hf : 0 ≤ f ∧ f < 253402300800) : TarOk (someX b f 8) :=
  ⟨some_zon, some_cal, some_tab, some_rat hf ⟨by omega, by omega⟩, by show 0 < 1; omega, fun i hi => rfl⟩
theorem some_ext (s : Int) : extV (someX b f k).zg (someX b f k).lr s = 0 := if_neg (by show ¬ rulF _ _ 0 < 0; omega)
theorem some_offE (t : Int) : offE (someX b f k).o (someX b f k).lr (someX b f k).zg t = if secOk (t + 3600) then 0 else 60 := by
  unfold offE
  rw [if_pos some_zon, some_ext]
  show (if secOk (t + 3600) ∧ secOk (t + 3600 + 0) then (0 : Int) else 60) = _
  rw [Int.add_zero]
  by_cases h : secOk (t + 3600)
  · rw [if_pos ⟨h, h⟩, if_pos h]
  · rw [if_neg (fun q => h q.1), if_neg h]
theorem some_offV (t : Int) (h : secOk (t + 3600)) : offV (someX b f k).o (someX b f k).lr (someX b f k).zg t = 3600 := by
  unfold offV
  rw [some_offE, if_pos h, if_pos rfl, some_ext]; rfl
theorem some_tlE (hf : 0 ≤ f ∧ f < 253402300800) (t : Int) : tlE (someX b f 8) t = if secOk (t + 3600) then 0 else 60 := by
  unfold tlE
  rw [if_pos ((tarE_ok _).2 (some_ok hf)), some_offE]
/-- The day's number, its kind, its minute. -/
def smD (t : Int) : Int := (t + 3600) / 86400
def smK (t : Int) : Int := if wdN (smD t) = 7 then 3 else if wdN (smD t) = 6 then 2 else 1
def smM (t : Int) : Int := (t + 3600) % 86400 / 60
theorem some_tlD (t : Int) (h : secOk (t + 3600)) : tlD (someX b f 8) t = smD t := by unfold tlD smD; rw [some_offV t h]
theorem some_tlS (hf : 0 ≤ f ∧ f < 253402300800) (t : Int) (h : secOk (t + 3600)) : tlS (someX b f 8) t = 0 := by
  unfold tlS; rw [some_tlE hf, if_pos h, if_pos rfl]; rfl
theorem some_tlK (hf : 0 ≤ f ∧ f < 253402300800) (t : Int) (h : secOk (t + 3600)) : tlK (someX b f 8) t = smK t := by
  unfold tlK; rw [some_tlE hf, if_pos h, if_pos rfl, some_tlD t h]
  unfold kindD smK kindB
  rw [if_neg]
  have : isF (someX b f 8).gh (someX b f 8).la (smD t) = false := decide_eq_false (by show ¬ smD t ∈ feastL _ 0 _; simp [feastL])
  rw [this]; simp
theorem some_tlM (hf : 0 ≤ f ∧ f < 253402300800) (t : Int) (h : secOk (t + 3600)) : tlM (someX b f 8) t = smM t := by
  unfold tlM; rw [some_tlE hf, if_pos h, if_pos rfl, some_offV t h]; rfl
def smP (t : Int) : Int := if smK t = 3 then 1 else 0
theorem some_plan (t : Int) : planV (someX b f k).rr (someX b f k).nr 0 (smK t) = smP t := by
  unfold planV smP
  show (if fstI (brIs (someX b f k).rr 0 (smK t)) 1 < 1 then _ else (0 : Int)) = _
  have hb : brIs (someX b f k).rr 0 (smK t) 0 = decide (smK t = 3) := by
    show ((decide ((0 : Int) = 0) || decide ((0 : Int) = 0)) && (decide ((3 : Int) = 0) || decide ((3 : Int) = smK t))) = _
    by_cases h : smK t = 3
    · rw [h]; rfl
    · have h2 : ¬ (3 : Int) = smK t := fun e => h e.symm
      rw [decide_eq_false h2, decide_eq_false h]; rfl
  by_cases h : smK t = 3
  · have hfst : fstI (brIs (someX b f k).rr 0 (smK t)) 1 = 0 := fstI_unique _ 1 0 (by omega) (fun _ => by rw [hb]; exact decide_eq_true h) (fun i hi => absurd hi (by omega))
    show (if fstI (brIs (someX b f k).rr 0 (smK t)) 1 < 1 then (someX b f k).rr (fstI (brIs (someX b f k).rr 0 (smK t)) 1) 2 else 0) = _
    rw [hfst, if_pos (by omega), if_pos h]; rfl
  · have hno : ∀ i, i < 1 → brIs (someX b f k).rr 0 (smK t) i = false := fun i hi => by
      have h0 : i = 0 := by omega
      rw [h0, hb]
      exact decide_eq_false h
    have hfst : fstI (brIs (someX b f k).rr 0 (smK t)) 1 = 1 := fstI_unique _ 1 1 (by omega) (fun hh => absurd hh (by omega)) hno
    show (if fstI (brIs (someX b f k).rr 0 (smK t)) 1 < 1 then (someX b f k).rr (fstI (brIs (someX b f k).rr 0 (smK t)) 1) 2 else 0) = _
    rw [hfst, if_neg (by omega), if_neg h]
def smB (t : Int) : Int := if smK t = 3 then 0 else if smM t < 360 then 0 else 1
theorem some_band (hf : 0 ≤ f ∧ f < 253402300800) (t : Int) (h : secOk (t + 3600)) : atBd (someX b f 8) t = smB t := by
  unfold atBd
  have hp : atP (someX b f 8) t = (smP t).toNat := by unfold atP; rw [some_tlS hf t h, some_tlK hf t h, some_plan]
  rw [hp, some_tlM hf t h]
  unfold smP smB
  by_cases hk : smK t = 3
  · rw [if_pos hk, if_pos hk]
    show bandV 1 (fun k j => if (1 : Nat) = 0 ∧ k = 1 then (if j = 0 then (360 : Int) else 1) else 0) (smM t) = 0
    unfold bandV; simp
  · rw [if_neg hk, if_neg hk]
    show bandV 2 (fun k j => if (0 : Nat) = 0 ∧ k = 1 then (if j = 0 then (360 : Int) else 1) else 0) (smM t) = _
    by_cases hm : smM t < 360
    · rw [if_pos hm]
      have : ¬ (360 : Int) ≤ smM t := by omega
      simp [bandV, swAt, this]
    · rw [if_neg hm]
      have : (360 : Int) ≤ smM t := by omega
      simp [bandV, swAt, this]
theorem some_tatE (hf : 0 ≤ f ∧ f < 253402300800) (t : Int) : tatE (someX b f 8) t = if secOk (t + 3600) then (if f ≤ t then 0 else 110) else 60 := by
  unfold tatE
  rw [some_tlE hf]
  by_cases h : secOk (t + 3600)
  · rw [if_pos h, if_pos rfl, if_pos h]
    have hb : atB (someX b f 8).vf t (someX b f 8).nv = decide (f ≤ t) := by
      show decide (0 < verN (fun _ => f) t 1) = _
      unfold verN
      by_cases hft : f ≤ t
      · rw [if_pos hft, decide_eq_true hft]; rfl
      · rw [if_neg hft, decide_eq_false hft]; rfl
    rw [hb]
    by_cases hft : f ≤ t
    · rw [decide_eq_true hft, if_pos rfl, if_pos hft]
    · rw [decide_eq_false hft, if_neg (by simp), if_neg hft]
  · rw [if_neg h, if_neg (by omega), if_neg h]
theorem some_tatB (hf : 0 ≤ f ∧ f < 253402300800) (t : Int) (h : secOk (t + 3600)) (hft : f ≤ t) : tatB (someX b f 8) t = smB t := by
  unfold tatB; rw [some_tatE hf, if_pos h, if_pos hft, if_pos rfl, some_band hf t h]
def smPr (t : Int) : Int := if smB t = 0 then 100 else 250
theorem smB_in (t : Int) : smB t = 0 ∨ smB t = 1 := by
  unfold smB
  split
  · exact .inl rfl
  · split
    · exact .inl rfl
    · exact .inr rfl
theorem some_tatP (hf : 0 ≤ f ∧ f < 253402300800) (t : Int) (h : secOk (t + 3600)) (hft : f ≤ t) : tatP (someX b f 8) t = smPr t := by
  unfold tatP; rw [some_tatE hf, if_pos h, if_pos hft, if_pos rfl, some_band hf t h]
  unfold priV smPr
  have hv : 0 < verN (someX b f 8).vf t (someX b f 8).nv := by
    show 0 < verN (fun _ => f) t 1
    unfold verN; rw [if_pos hft]; omega
  rw [if_pos hv]
  rcases smB_in t with e | e
  · rw [e]; rfl
  · rw [e]; rfl
end
set_option maxRecDepth 100000 in
set_option maxHeartbeats 8000000 in
/-- The band and price of an instant, by the chapter's tariff. -/
theorem tis_calls (t band price : Int) (ht : secOk (t + 3600)) (h0 : 0 ≤ t) (hB : smB t = band) (hP : smPr t = price) (w : World) (hL : Lens w) :
    Calls Tryd.prog 19 #[.int .i64 t, .int .i64 band, .int .i64 price] w fun e w' => e = .returned (.bool true) ∧ Below w.heap.size w w' := by
  have HS := Lib.hid (some_calls w)
  have HL := Lib.hid hL
  have HT := Lib.hid (And.intro ht (And.intro h0 (And.intro hB hP)))
  clear ht h0 hB hP hL
  go_enter Tryd.func19, Tryd.ntmps19
  go_wp2_with fail
  refine HS.out.mono ?_
  rintro e w2 ⟨b, hb0, rfl, hr, hb⟩
  have hf : (0 : Int) ≤ 0 ∧ (0 : Int) < 253402300800 := by omega
  have hA := tarAt_calls (someX b 0 8) t w2 (hr.rd (by omega) (by decide)) (HL.out.go hb)
  obtain ⟨h1, h2, h3, h4⟩ := HT.out
  rw [some_tatE hf, if_pos h1, if_pos h2, some_tatB hf t h1 h2, some_tatP hf t h1 h2, h3, h4] at hA
  have HA := Lib.hid hA
  have HB := Lib.hid hb
  clear hA hb hr hf h1 h2 h3 h4 hb0
  go_wp2_with fail
  refine HA.out.mono ?_
  rintro e w3 ⟨rfl, hb3⟩
  have HB3 := Lib.hid (bnext HB.out hb3)
  clear hb3
  go_wp2_with fail
  go_ret
  exact ⟨rfl, HB3.out⟩
end Go.Proofs.YtgbkedjjgbhcmaaDoor

/-
  Division of two words by a divisor below 2^32, in plain numbers. Conditions stand at each theorem.
-/
namespace Go.Proofs.YtgbkedjjgbhcmaaDoor
open Go

/-- The long division by two digits, where the divisor's lower digit is 0. -/
theorem div_long (K V D h l : Nat) (hD : 0 < D) (hV : V = h * K + l) (hl : l < K) :
    V / D = h / D * K + (h % D * K + l) / D ∧ V % D = (h % D * K + l) % D ∧ (h % D * K + l) / D < K ∧ h % D * K + l < D * K := by
  have e := Nat.div_add_mod h D
  have m := Nat.mod_lt h hD
  have hu : h % D * K + l < D * K := by
    have := Nat.mul_le_mul_right K (Nat.succ_le_of_lt m)
    rw [Nat.succ_mul] at this
    omega
  have hVu : V = h % D * K + l + D * (h / D * K) := by
    rw [hV, ← Nat.mul_assoc]
    have : h * K = (D * (h / D) + h % D) * K := by rw [e]
    rw [this, Nat.add_mul]
    omega
  refine ⟨?_, ?_, Nat.div_lt_of_lt_mul hu, hu⟩
  · rw [hVu, Nat.add_mul_div_left _ _ hD, Nat.add_comm]
  · rw [hVu, Nat.add_mul_mod_self_left]

/-- A divisor of one word below K, shifted up to its highest bit; K is 2^32. -/
theorem div_wordsK (K W hi lo y s t : Nat) (hK : K = 2 ^ 32) (hW : W = 2 ^ 64) (hy : 0 < y) (hhi : hi < y) (hlo : lo < W) (hs : s = t + 32) (hs' : s ≤ 63) (hY : y * 2 ^ s < W) :
    0 < y * 2 ^ t ∧ y * 2 ^ s = y * 2 ^ t * K ∧ hi * 2 ^ s < W ∧ hi * 2 ^ s + lo / 2 ^ (64 - s) < y * 2 ^ t * K ∧ lo * 2 ^ s % W % K = 0 ∧
      (hi * 2 ^ s + lo / 2 ^ (64 - s)) * K + lo * 2 ^ s % W / K = (hi * W + lo) * 2 ^ t := by
  have pt : 0 < 2 ^ t := Nat.pow_pos (by omega)
  have e32 : 2 ^ s = 2 ^ t * K := by rw [hs, hK, Nat.pow_add]
  have pK : 0 < K := by rw [hK]; exact Nat.pow_pos (by omega)
  have hD : 0 < y * 2 ^ t := Nat.mul_pos hy pt
  have hDe : y * 2 ^ s = y * 2 ^ t * K := by rw [e32, Nat.mul_assoc]
  have hup : hi * 2 ^ s + 2 ^ s ≤ y * 2 ^ s := by
    have := Nat.mul_le_mul_right (2 ^ s) (Nat.succ_le_of_lt hhi)
    rw [Nat.succ_mul] at this; exact this
  have p64 : 2 ^ (64 - s) * 2 ^ s = W := by rw [← Nat.pow_add, hW]; congr 1; omega
  have pc : 0 < 2 ^ (64 - s) := Nat.pow_pos (by omega)
  have hq : lo / 2 ^ (64 - s) < 2 ^ s := Nat.div_lt_of_lt_mul (by rw [p64]; exact hlo)
  have e := Nat.div_add_mod lo (2 ^ (64 - s))
  have hlow : lo * 2 ^ s % W = lo % 2 ^ (64 - s) * 2 ^ s := by rw [← p64, Nat.mul_mod_mul_right]
  generalize 2 ^ (64 - s) = p at *
  generalize 2 ^ s = S at *
  generalize 2 ^ t = T at *
  have ex2 : p * T * K = K * K := by rw [Nat.mul_assoc, ← e32, p64, hW, hK]
  have ex : p * T = K := Nat.eq_of_mul_eq_mul_right pK ex2
  have hWK : W = K * K := by rw [← p64, e32, ← Nat.mul_assoc, ex2]
  refine ⟨hD, hDe, by omega, by rw [← hDe]; omega, ?_, ?_⟩
  · rw [hlow, e32, ← Nat.mul_assoc, Nat.mul_mod_left]
  · rw [hlow]
    generalize lo / p = c at *
    generalize lo % p = d at *
    rw [e32, ← Nat.mul_assoc d, Nat.mul_div_cancel _ pK, ← e, Nat.add_mul, Nat.add_mul, Nat.add_mul, hWK]
    have a1 : hi * (T * K) * K = hi * (K * K) * T := by rw [Nat.mul_assoc, Nat.mul_assoc, Nat.mul_assoc, Nat.mul_comm T]
    have a2 : p * c * T = c * K := by rw [Nat.mul_comm p c, Nat.mul_assoc, ex]
    rw [a1, a2]; omega
/-- What the two steps of the division give. -/
theorem div_words (K W hi lo y s t U L : Nat) (hK : K = 2 ^ 32) (hW : W = 2 ^ 64) (hy : 0 < y) (hhi : hi < y) (hlo : lo < W) (hs : s = t + 32) (hs' : s ≤ 63) (hY : y * 2 ^ s < W)
    (hU : U = hi * 2 ^ s + lo / 2 ^ (64 - s)) (hL : L = lo * 2 ^ s % W / K) :
    (hi * W + lo) / y = U / (y * 2 ^ t) * K + (U % (y * 2 ^ t) * K + L) / (y * 2 ^ t) ∧ (hi * W + lo) % y * 2 ^ t = (U % (y * 2 ^ t) * K + L) % (y * 2 ^ t) ∧ (U % (y * 2 ^ t) * K + L) / (y * 2 ^ t) < K ∧ U % (y * 2 ^ t) * K + L < y * 2 ^ t * K ∧ U / (y * 2 ^ t) < K ∧ L < K := by
  obtain ⟨h1, h2, h3, h4, h5, h6⟩ := div_wordsK K W hi lo y s t hK hW hy hhi hlo hs hs' hY
  have pt : 0 < 2 ^ t := Nat.pow_pos (by omega)
  have hLK : L < K := by
    rw [hL]
    have hWK : W = K * K := by rw [hW, hK]
    have : lo * 2 ^ s % W < W := Nat.mod_lt _ (by omega)
    exact Nat.div_lt_of_lt_mul (by rw [← hWK]; exact this)
  rw [← hU, ← hL] at h6
  rw [← hU] at h4
  obtain ⟨a, b, c, d⟩ := div_long K ((hi * W + lo) * 2 ^ t) (y * 2 ^ t) U L h1 h6.symm hLK
  rw [Nat.mul_div_mul_right _ _ pt] at a
  rw [Nat.mul_mod_mul_right] at b
  exact ⟨a, b, c, d, Nat.div_lt_of_lt_mul h4, hLK⟩
end Go.Proofs.YtgbkedjjgbhcmaaDoor

/-
  Words of 64 bits: Mul64, Len64, LeadingZeros64, Div64 by a divisor below 2^32, walked. Conditions stand at each theorem.
-/
namespace Go.Proofs.YtgbkedjjgbhcmaaDoor
open Go Go.RowKit Go.Kw
set_option linter.unusedVariables false
set_option linter.unusedSimpArgs false

theorem maskW (a : Nat) (ha : a < 18446744073709551616) : bits .and .u64 (a : Int) 4294967295 = ((a % 4294967296 : Nat) : Int) := by
  have h := bits_and_u64_nat a 4294967295 ha (by omega)
  have e : a &&& 4294967295 = a % 4294967296 := Nat.and_two_pow_sub_one_eq_mod a 32
  rw [e] at h
  exact h
theorem halfW (a : Nat) : (a : Int) / 4294967296 = ((a / 4294967296 : Nat) : Int) := by omega
theorem mulW (a b : Nat) : (a : Int) * (b : Int) = ((a * b : Nat) : Int) := (Int.natCast_mul a b).symm
theorem addW (a b : Nat) : (a : Int) + (b : Int) = ((a + b : Nat) : Int) := (Int.natCast_add a b).symm
theorem wrapS (a : Nat) (ha : a < 18446744073709551616) : IntKind.u64.wrap (a : Int) = (a : Int) := by rw [IntKind.wrap_u64]; omega
theorem wrapL (a : Nat) : IntKind.u64.wrap (a : Int) = ((a % 18446744073709551616 : Nat) : Int) := by rw [IntKind.wrap_u64]; omega

set_option maxHeartbeats 1000000 in
theorem mul64_calls (x y : Nat) (hx : x < 18446744073709551616) (hy : y < 18446744073709551616) (w : World) :
    Calls Tryd.prog 41 #[.int .u64 x, .int .u64 y] w fun e w' => e = .returned (.tuple #[.int .u64 ((x * y / 18446744073709551616 : Nat) : Int), .int .u64 ((x * y % 18446744073709551616 : Nat) : Int)]) ∧ w' = w := by
  obtain ⟨d1, d2, d3, hhi⟩ := Lib.mul64_hi x y hx hy
  have ba := Lib.half_mul_le (a := x / 4294967296) (b := y / 4294967296) (by omega) (by omega)
  have bb := Lib.half_mul_le (a := x / 4294967296) (b := y % 4294967296) (by omega) (by omega)
  have bc := Lib.half_mul_le (a := x % 4294967296) (b := y / 4294967296) (by omega) (by omega)
  have ba' : x / 4294967296 * (y / 4294967296) < 18446744073709551616 := by omega
  have bb' : x / 4294967296 * (y % 4294967296) < 18446744073709551616 := by omega
  have bc' : x % 4294967296 * (y / 4294967296) < 18446744073709551616 := by omega
  have e1 : x / 4294967296 * (y / 4294967296) + (x / 4294967296 * (y % 4294967296) + x % 4294967296 * (y % 4294967296) / 4294967296) / 4294967296 < 18446744073709551616 := by omega
  have e2 : x / 4294967296 * (y / 4294967296) + (x / 4294967296 * (y % 4294967296) + x % 4294967296 * (y % 4294967296) / 4294967296) / 4294967296 + ((x / 4294967296 * (y % 4294967296) + x % 4294967296 * (y % 4294967296) / 4294967296) % 4294967296 + x % 4294967296 * (y / 4294967296)) / 4294967296 < 18446744073709551616 := by omega
  have Hb := Lib.hid (And.intro d1 (And.intro d2 (And.intro d3 (And.intro ba' (And.intro bb' (And.intro bc' (And.intro e1 e2)))))))
  have Hh := Lib.hid hhi
  have Hx := Lib.hid hx
  have Hy := Lib.hid hy
  clear d1 d2 d3 hhi ba bb bc ba' bb' bc' e1 e2 hx hy
  go_enter Tryd.func41, Tryd.ntmps41
  go_wp2_with fail
  obtain ⟨d1, d2, d3, ba', bb', bc', e1, e2⟩ := Hb.out
  simp only [maskW x Hx.out, maskW y Hy.out, halfW, mulW, addW, wrapS _ d1, wrapS _ bb', wrapS _ d2, maskW _ d2, wrapS _ bc', wrapS _ d3, wrapS _ ba', wrapS _ e1, wrapS _ e2, wrapL (x * y)]
  rw [Hh.out]
  go_ret2
  exact ⟨rfl, rfl⟩

theorem tab_size : Lib.len8tab.size = 256 := by decide +kernel
theorem tab_all : ∀ n : Fin 256, (Lib.len8tab[n.val]'(by rw [tab_size]; exact n.isLt)).toNat = Lib.bitLen n.val := by decide +kernel
theorem tab_at (z : Int) (h : z.toNat < Lib.len8tab.size) : (Lib.len8tab[z.toNat]'h).toNat = Lib.bitLen z.toNat := tab_all ⟨z.toNat, by rw [← tab_size]; exact h⟩
theorem bitLen8 (n : Nat) (h : n < 256) : Lib.bitLen n ≤ 8 := Lib.bitLen_le8 ⟨n, h⟩
theorem len_end (c : Int) (m n : Nat) (hm : m ≤ 8) (hc : 0 ≤ c ∧ c ≤ 24) (h : (n : Int) = c + m) : wrap64 (c + wrap64 m) = n := by unfold wrap64; omega
theorem len_end0 (m : Nat) (hm : m ≤ 8) : wrap64 m = m := by unfold wrap64; omega
theorem len_24 (x : Int) (h : 256 ≤ x / 65536) (h1 : x < 4294967296) : wrap64 (24 + wrap64 (Lib.bitLen (x / 65536 / 256).toNat)) = Lib.bitLen x.toNat := by
  have e : (x / 65536 / 256).toNat = x.toNat / 16777216 := by omega
  have s := Lib.bitLen_shift24 x.toNat (by omega) (by omega)
  rw [e]
  exact len_end 24 _ _ (bitLen8 _ (by omega)) (by omega) (by omega)
theorem len_16 (x : Int) (h : 65536 ≤ x) (h1 : x / 65536 < 256) : wrap64 (16 + wrap64 (Lib.bitLen (x / 65536).toNat)) = Lib.bitLen x.toNat := by
  have e : (x / 65536).toNat = x.toNat / 65536 := by omega
  have s := Lib.bitLen_shift16 x.toNat (by omega) (by omega)
  rw [e]
  exact len_end 16 _ _ (bitLen8 _ (by omega)) (by omega) (by omega)
theorem len_8 (x : Int) (h : 256 ≤ x) (h1 : x < 65536) : wrap64 (8 + wrap64 (Lib.bitLen (x / 256).toNat)) = Lib.bitLen x.toNat := by
  have e : (x / 256).toNat = x.toNat / 256 := by omega
  have s := Lib.bitLen_shift8 x.toNat (by omega) (by omega)
  rw [e]
  exact len_end 8 _ _ (bitLen8 _ (by omega)) (by omega) (by omega)
set_option maxHeartbeats 4000000 in
set_option maxRecDepth 100000 in
theorem len64_calls (x : Int) (h0 : 0 ≤ x) (h1 : x < 4294967296) (w : World) :
    Calls Tryd.prog 78 #[.int .u64 x] w fun e w' => e = .returned (.int .i64 (Lib.bitLen x.toNat)) ∧ w' = w := by
  have k1 : decide (x ≥ 4294967296) = false := by simp; omega
  go_enter Tryd.func78, Tryd.ntmps78
  go_wp2_with fail
  all_goals first
    | (exfalso
       rename_i h
       rw [tab_size] at h
       omega)
    | (go_ret
       refine ⟨congrArg Ending.returned (congrArg (Value.int IntKind.i64) ?_), rfl⟩
       simp only [tab_at]
       first
         | exact len_24 x (by omega) h1
         | exact len_16 x (by omega) (by omega)
         | exact len_8 x (by omega) (by omega)
         | (have l := bitLen8 x.toNat (by omega)
            rw [len_end0 _ l, len_end0 _ l]))
theorem lead_calls (x : Int) (h0 : 0 ≤ x) (h1 : x < 4294967296) (w : World) :
    Calls Tryd.prog 68 #[.int .u64 x] w fun e w' => e = .returned (.int .i64 (64 - Lib.bitLen x.toNat)) ∧ w' = w := by
  have l := Lib.bitLen_le x.toNat 32 (by omega) (by omega)
  go_enter Tryd.func68, Tryd.ntmps68
  go_wp2_with fail
  refine (len64_calls x h0 h1 _).mono ?_
  rintro e w1 ⟨rfl, rfl⟩
  go_wp2_with fail
  go_ret
  exact ⟨rfl, rfl⟩
theorem bitLen_up (x : Nat) : x < 2 ^ 32 → x < 2 ^ Lib.bitLen x := by
  induction x using Nat.strongRecOn with
  | _ x ih =>
    intro h
    by_cases h0 : x = 0
    · subst h0; exact Nat.pow_pos (by omega)
    · have e := Lib.bitLen_half x h0 (by omega)
      have i := ih (x / 2) (by omega) (by omega)
      rw [e, Nat.pow_add]; omega
theorem bitLen_pos (x : Nat) (h0 : x ≠ 0) (h : x < 2 ^ 32) : 1 ≤ Lib.bitLen x := by
  have e := Lib.bitLen_half x h0 (by omega)
  omega
theorem lead_fits (y : Nat) (h : y < 4294967296) : y * 2 ^ (64 - Lib.bitLen y) < 18446744073709551616 := by
  have u := bitLen_up y h
  have l := Lib.bitLen_le y 32 (by omega) h
  have e : 2 ^ Lib.bitLen y * 2 ^ (64 - Lib.bitLen y) = 18446744073709551616 := by rw [← Nat.pow_add, show Lib.bitLen y + (64 - Lib.bitLen y) = 64 by omega]
  rw [← e]
  exact Nat.mul_lt_mul_of_pos_right u (Nat.pow_pos (by omega))
end Go.Proofs.YtgbkedjjgbhcmaaDoor

/-
  Div64 by a divisor below 2^32, walked. Conditions stand at each theorem.
-/
namespace Go.Proofs.YtgbkedjjgbhcmaaDoor
open Go Go.RowKit Go.Kw
set_option linter.unusedVariables false
set_option linter.unusedSimpArgs false

theorem div64_zero (lo y : Nat) (hlo : lo < 18446744073709551616) (hy0 : 0 < y) (hy : y < 4294967296) (w : World) :
    Calls Tryd.prog 43 #[.int .u64 0, .int .u64 (lo : Int), .int .u64 (y : Int)] w fun e w' => e = .returned (.tuple #[.int .u64 ((lo / y : Nat) : Int), .int .u64 ((lo % y : Nat) : Int)]) ∧ Below w.heap.size w w' := by
  have hq : lo / y < 18446744073709551616 := Nat.lt_of_le_of_lt (Nat.div_le_self _ _) hlo
  have e1 : IntKind.u64.wrap ((lo : Int) / (y : Int)) = ((lo / y : Nat) : Int) := by rw [← Int.natCast_ediv]; exact wrapS _ hq
  have e2 : (lo : Int) % (y : Int) = ((lo % y : Nat) : Int) := (Int.natCast_emod lo y).symm
  have k1 : ((y : Int) == 0) = false := by simp; omega
  go_enter Tryd.func43, Tryd.ntmps43
  go_wp2_with fail
  go_quiet (fail)
  go_wp2_with fail
  go_ret2
  refine ⟨?_, ⟨rfl, rfl, rfl, Nat.le_refl _, fun _ _ => rfl⟩⟩
  simp only [Array.getD_eq_getD_getElem?, List.getElem?_toArray, List.getElem?_cons_zero, List.getElem?_cons_succ, Option.getD_some, e1, e2, ← Int.natCast_ediv]
theorem wrap_is (x : Int) (n : Nat) (k : Int) (h : x = n + 18446744073709551616 * k) (hn : n < 18446744073709551616) : IntKind.u64.wrap x = n := by subst h; rw [IntKind.wrap_u64]; omega
theorem wrap_nest (a b c : Int) : IntKind.u64.wrap (IntKind.u64.wrap (IntKind.u64.wrap a + b) - IntKind.u64.wrap c) = IntKind.u64.wrap (a + b - c) := by
  simp only [IntKind.wrap_u64]; omega
theorem wrap_nest2 (a c : Int) : IntKind.u64.wrap (IntKind.u64.wrap a - IntKind.u64.wrap c) = IntKind.u64.wrap (a - c) := by
  simp only [IntKind.wrap_u64]; omega
theorem wrap_nest3 (a b : Int) : IntKind.u64.wrap (IntKind.u64.wrap a + b) = IntKind.u64.wrap (a + b) := by
  simp only [IntKind.wrap_u64]; omega
theorem or_word (h l s : Nat) (hl : l < 2 ^ s) (h1 : h * 2 ^ s < 18446744073709551616) (h2 : l < 18446744073709551616) : bits .or .u64 ((h * 2 ^ s : Nat) : Int) (l : Int) = ((h * 2 ^ s + l : Nat) : Int) := by
  have e := bits_or_u64_nat (h * 2 ^ s) l h1 h2
  rw [e, Nat.mul_comm h, Nat.two_pow_add_eq_or_of_lt hl]
theorem cdiv (a b : Nat) : (a : Int) / (b : Int) = ((a / b : Nat) : Int) := (Int.natCast_ediv a b).symm
/-- One digit's step, as the walk spells it. -/
theorem step_eqs (U D L Y : Nat) (hD0 : 0 < D) (hD : D < 4294967296) (hU : U < 18446744073709551616) (hq : U / D < 4294967296) (hL : L < 4294967296) (hY : Y = D * 4294967296) (hV : U % D * 4294967296 + L < 18446744073709551616) :
    IntKind.u64.wrap ((U : Int) / (D : Int)) = ((U / D : Nat) : Int) ∧ IntKind.u64.wrap ((U : Int) - IntKind.u64.wrap (((U / D : Nat) : Int) * (D : Int))) = ((U % D : Nat) : Int) ∧
      IntKind.u64.wrap (IntKind.u64.wrap (4294967296 * ((U % D : Nat) : Int)) + (L : Int)) = ((U % D * 4294967296 + L : Nat) : Int) ∧
      IntKind.u64.wrap (IntKind.u64.wrap (IntKind.u64.wrap ((U : Int) * 4294967296) + (L : Int)) - IntKind.u64.wrap (((U / D : Nat) : Int) * (Y : Int))) = ((U % D * 4294967296 + L : Nat) : Int) ∧
      IntKind.u64.wrap (IntKind.u64.wrap (IntKind.u64.wrap ((U : Int) * 4294967296)) - IntKind.u64.wrap (((U / D : Nat) : Int) * (Y : Int))) = ((U % D * 4294967296 : Nat) : Int) := by
  have e := Nat.div_add_mod U D
  have m := Nat.mod_lt U hD0
  have eY : U / D * Y = U / D * D * 4294967296 := by rw [hY, Nat.mul_assoc]
  rw [Nat.mul_comm] at e
  rw [cdiv, mulW, mulW, eY]
  generalize hP : U / D * D = P at *
  generalize hr : U % D = r at *
  generalize hqq : U / D = q at *
  clear hqq hr hP eY hY
  refine ⟨wrapS _ (by omega), ?_, ?_, ?_, ?_⟩
  · simp only [IntKind.wrap_u64]; omega
  · simp only [IntKind.wrap_u64]; omega
  · simp only [IntKind.wrap_u64]; omega
  · simp only [IntKind.wrap_u64]; omega
theorem r_lt (r D : Nat) (h : r < D) (hD : D < 4294967296) : r * 4294967296 + 0 < 18446744073709551616 ∧ 4294967296 * r < 18446744073709551616 := by omega
/-- The numbers of the long way, as the walk spells them. -/
theorem div_eqs (hi lo y s : Nat) (hlo : lo < 18446744073709551616) (hy0 : 0 < y) (hy : y < 4294967296) (hh : hi < y) (hs1 : 32 ≤ s) (hs2 : s ≤ 63) (lf : y * 2 ^ s < 18446744073709551616) :
    ∃ D Y U M L H q1 r1 V q0 r0 : Nat, 0 < D ∧ D < 4294967296 ∧ q1 < 4294967296 ∧ q0 < 4294967296 ∧
      IntKind.u64.wrap ((y : Int) * 2 ^ s) = (Y : Int) ∧ (Y : Int) / 4294967296 = (D : Int) ∧ bits .and .u64 (Y : Int) 4294967295 = 0 ∧
      IntKind.u64.wrap ((hi : Int) * 2 ^ s) = (H : Int) ∧ bits .or .u64 (H : Int) ((lo : Int) / 2 ^ (64 - s)) = (U : Int) ∧
      IntKind.u64.wrap ((lo : Int) * 2 ^ s) = (M : Int) ∧ (M : Int) / 4294967296 = (L : Int) ∧ bits .and .u64 (M : Int) 4294967295 = 0 ∧
      IntKind.u64.wrap ((U : Int) / (D : Int)) = (q1 : Int) ∧ IntKind.u64.wrap ((U : Int) - IntKind.u64.wrap ((q1 : Int) * (D : Int))) = (r1 : Int) ∧
      IntKind.u64.wrap (IntKind.u64.wrap (4294967296 * (r1 : Int)) + (L : Int)) = (V : Int) ∧
      IntKind.u64.wrap (IntKind.u64.wrap (IntKind.u64.wrap ((U : Int) * 4294967296) + (L : Int)) - IntKind.u64.wrap ((q1 : Int) * (Y : Int))) = (V : Int) ∧
      IntKind.u64.wrap ((V : Int) / (D : Int)) = (q0 : Int) ∧ IntKind.u64.wrap ((V : Int) - IntKind.u64.wrap ((q0 : Int) * (D : Int))) = (r0 : Int) ∧
      IntKind.u64.wrap (4294967296 * (r0 : Int)) = ((4294967296 * r0 : Nat) : Int) ∧
      (q1 : Int) * 4294967296 + (q0 : Int) = (((hi * 18446744073709551616 + lo) / y : Nat) : Int) ∧
      IntKind.u64.wrap (IntKind.u64.wrap (IntKind.u64.wrap ((V : Int) * 4294967296)) - IntKind.u64.wrap ((q0 : Int) * (Y : Int))) / 2 ^ s = (((hi * 18446744073709551616 + lo) % y : Nat) : Int) := by
  obtain ⟨t, ht⟩ : ∃ t, s = t + 32 := ⟨s - 32, (Nat.sub_add_cancel hs1).symm⟩
  obtain ⟨a1, a2, a3, a4, a5, a6⟩ := div_wordsK 4294967296 18446744073709551616 hi lo y s t (by decide) (by decide) hy0 hh hlo ht hs2 lf
  obtain ⟨b1, b2, b3, b4, b5, b6⟩ := div_words 4294967296 18446744073709551616 hi lo y s t _ _ (by decide) (by decide) hy0 hh hlo ht hs2 lf rfl rfl
  have cH : ((hi * 2 ^ s : Nat) : Int) = (hi : Int) * 2 ^ s := by simp
  have cY : ((y * 2 ^ s : Nat) : Int) = (y : Int) * 2 ^ s := by simp
  have cM : ((lo * 2 ^ s : Nat) : Int) = (lo : Int) * 2 ^ s := by simp
  have cs : ((lo / 2 ^ (64 - s) : Nat) : Int) = (lo : Int) / 2 ^ (64 - s) := by simp
  have ps : 0 < 2 ^ s := Nat.pow_pos (by omega)
  have c2 : ((2 ^ s : Nat) : Int) = 2 ^ s := by simp
  have p64 : 2 ^ (64 - s) * 2 ^ s = 18446744073709551616 := by rw [← Nat.pow_add, show 64 - s + s = 64 by omega]
  have hsh : lo / 2 ^ (64 - s) < 2 ^ s := Nat.div_lt_of_lt_mul (by rw [p64]; exact hlo)
  have hshl : lo / 2 ^ (64 - s) < 18446744073709551616 := Nat.lt_of_le_of_lt (Nat.div_le_self _ _) hlo
  have hor : bits .or .u64 ((hi * 2 ^ s : Nat) : Int) ((lo / 2 ^ (64 - s) : Nat) : Int) = ((hi * 2 ^ s + lo / 2 ^ (64 - s) : Nat) : Int) := or_word hi _ s hsh a3 hshl
  have hD : y * 2 ^ t < 4294967296 := by rw [a2] at lf; omega
  have e2t : 2 ^ s = 2 ^ t * 4294967296 := by rw [ht, Nat.pow_add]
  have pt : 0 < 2 ^ t := Nat.pow_pos (by omega)
  rw [a2] at lf
  have hU : hi * 2 ^ s + lo / 2 ^ (64 - s) < 18446744073709551616 := Nat.lt_trans a4 lf
  have hV := Nat.lt_trans b4 lf
  have S1 := step_eqs _ (y * 2 ^ t) _ (y * 2 ^ s) a1 hD hU b5 b6 a2 hV
  have hV0 : (hi * 2 ^ s + lo / 2 ^ (64 - s)) % (y * 2 ^ t) * 4294967296 + lo * 2 ^ s % 18446744073709551616 / 4294967296 < 18446744073709551616 := hV
  have hm0 := Nat.mod_lt ((hi * 2 ^ s + lo / 2 ^ (64 - s)) % (y * 2 ^ t) * 4294967296 + lo * 2 ^ s % 18446744073709551616 / 4294967296) a1
  have S2 := step_eqs _ (y * 2 ^ t) 0 (y * 2 ^ s) a1 hD hV0 b3 (by decide) a2 (r_lt _ _ hm0 hD).1
  refine ⟨y * 2 ^ t, y * 2 ^ s, hi * 2 ^ s + lo / 2 ^ (64 - s), lo * 2 ^ s % 18446744073709551616, lo * 2 ^ s % 18446744073709551616 / 4294967296, hi * 2 ^ s, _, _, _, _, _, a1, hD, b5, b3, ?_, ?_, ?_, ?_, ?_, ?_, halfW _, ?_, S1.1, S1.2.1, S1.2.2.1, S1.2.2.2.1, S2.1, S2.2.1, ?_, ?_, ?_⟩
  · rw [← cY]; exact wrapS _ (by rw [a2]; exact lf)
  · rw [halfW, a2, Nat.mul_div_cancel _ (by omega)]
  · rw [maskW _ (by rw [a2]; exact lf), a2, Nat.mul_mod_left]; rfl
  · rw [← cH]; exact wrapS _ a3
  · rw [← cs]; exact hor
  · rw [← cM]; exact wrapL _
  · rw [maskW _ (Nat.mod_lt _ (by omega)), a5]; rfl
  · exact wrapS _ (r_lt _ _ hm0 hD).2
  · rw [b1]; simp
  · rw [S2.2.2.2.2, ← b2, ← c2, e2t, cdiv, Nat.mul_assoc, Nat.mul_div_cancel _ (Nat.mul_pos pt (by omega))]
theorem div64_more (hi lo y : Nat) (hlo : lo < 18446744073709551616) (hy : y < 4294967296) (hh0 : 0 < hi) (hh : hi < y) (w : World) :
    Calls Tryd.prog 43 #[.int .u64 (hi : Int), .int .u64 (lo : Int), .int .u64 (y : Int)] w fun e w' => e = .returned (.tuple #[.int .u64 (((hi * 18446744073709551616 + lo) / y : Nat) : Int), .int .u64 (((hi * 18446744073709551616 + lo) % y : Nat) : Int)]) ∧ Below w.heap.size w w' := by
  have k1 : ((y : Int) == 0) = false := by simp; omega
  have k2 : decide ((y : Int) ≤ (hi : Int)) = false := by simp; omega
  have k3 : ((hi : Int) == 0) = false := by simp; omega
  have l := Lib.bitLen_le y 32 (by omega) (by omega)
  have lp := bitLen_pos y (by omega) hy
  have lf := lead_fits y hy
  obtain ⟨s, hs⟩ : ∃ s, 64 - Lib.bitLen y = s := ⟨_, rfl⟩
  have es : (64 - (Lib.bitLen (y : Int).toNat : Int)) = (s : Int) := by simp; omega
  have hL := lead_calls (y : Int) (by omega) (by omega)
  rw [es] at hL
  rw [hs] at lf
  have hs1 : 32 ≤ s := by omega
  have hs2 : s ≤ 63 := by omega
  have HL := Lib.hid hL
  clear es hL l lp hs
  have w1 : IntKind.u64.wrap (s : Int) = s := by rw [IntKind.wrap_u64]; omega
  obtain ⟨D, Y, U, M, L, H, q1, r1, V, q0, r0, hD0, hD, hq1, hq0, E1, E2, E3, E4, E5, E6, E7, E8, E9, E10, E11, E12, E13, E14, E15, E16, E17⟩ := div_eqs hi lo y s hlo (by omega) hy hh hs1 hs2 lf
  have k4 : ((D : Int) == 0) = false := by simp; omega
  have k5 : decide ((q1 : Int) ≥ 4294967296) = false := by simp; omega
  have k6 : decide ((q0 : Int) ≥ 4294967296) = false := by simp; omega
  have k7 : decide ((V : Int) < 0) = false := by simp
  generalize (4294967296 * r0 : Nat) = m0 at *
  have k8 : decide ((m0 : Int) < 0) = false := by simp
  generalize hQ : (hi * 18446744073709551616 + lo) / y = Q at *
  generalize hR : (hi * 18446744073709551616 + lo) % y = R at *
  clear hQ hR lf hD hlo hy
  go_enter Tryd.func43, Tryd.ntmps43
  go_wp2_with fail
  refine (HL.out _).mono ?_
  rintro e w2 ⟨rfl, rfl⟩
  go_wp2_with fail
  refine wp_loop_once ?_
  go_wp2_with fail
  refine wp_loop_once ?_
  go_wp2_with fail
  go_ret2
  refine ⟨?_, Below.refl _ _⟩
  simp only [Array.getD_eq_getD_getElem?, List.getElem?_toArray, List.getElem?_cons_zero, List.getElem?_cons_succ, Option.getD_some, E16, E17]
end Go.Proofs.YtgbkedjjgbhcmaaDoor

/-
  Numbers as rows of 200 bits, the lowest first: plain laws. Conditions stand at each theorem.
-/
namespace Go.Kw.Nm
set_option linter.unusedVariables false

def bitF (N i : Nat) : Nat := N / 2 ^ i % 2
theorem bitF_lt (N i : Nat) : bitF N i < 2 := Nat.mod_lt _ (by omega)
theorem p2 (i : Nat) : 0 < 2 ^ i := Nat.pow_pos (by omega)
theorem mod_succ (A i : Nat) : A % 2 ^ (i + 1) = A % 2 ^ i + 2 ^ i * bitF A i := by
  rw [Nat.pow_succ, Nat.mod_mul]; rfl
theorem div_succ (A i : Nat) : A / 2 ^ (i + 1) = A / 2 ^ i / 2 := by rw [Nat.pow_succ, Nat.div_div_eq_div_mul]
theorem div_bit (A i : Nat) : A / 2 ^ i = 2 * (A / 2 ^ (i + 1)) + bitF A i := by rw [div_succ]; unfold bitF; omega
theorem bitF_big (N i k : Nat) (h : N < 2 ^ k) (hk : k ≤ i) : bitF N i = 0 := by
  unfold bitF
  have : 2 ^ k ≤ 2 ^ i := Nat.pow_le_pow_right (by omega) hk
  rw [Nat.div_eq_of_lt (by omega)]
theorem bitF_zero (i : Nat) : bitF 0 i = 0 := by unfold bitF; simp

/-! The sum. -/
def carryOf (A B i : Nat) : Nat := (A % 2 ^ i + B % 2 ^ i) / 2 ^ i
theorem carry_le (A B i : Nat) : carryOf A B i ≤ 1 := by
  have h1 := Nat.mod_lt A (p2 i)
  have h2 := Nat.mod_lt B (p2 i)
  have : carryOf A B i < 2 := by
    unfold carryOf
    rw [Nat.div_lt_iff_lt_mul (p2 i)]; omega
  omega
theorem carry_zero (A B : Nat) : carryOf A B 0 = 0 := by unfold carryOf; simp; omega
theorem plus_div (A B i : Nat) : (A + B) / 2 ^ i = A / 2 ^ i + B / 2 ^ i + carryOf A B i := by
  have h1 := Nat.div_add_mod A (2 ^ i)
  have h2 := Nat.div_add_mod B (2 ^ i)
  have e : A + B = 2 ^ i * (A / 2 ^ i + B / 2 ^ i) + (A % 2 ^ i + B % 2 ^ i) := by rw [Nat.mul_add]; omega
  unfold carryOf
  rw [e, Nat.mul_add_div (p2 i)]
theorem plus_bit (A B i : Nat) : (bitF A i + bitF B i + carryOf A B i) % 2 = bitF (A + B) i := by
  unfold bitF; rw [plus_div]; omega
theorem plus_carry (A B i : Nat) : (bitF A i + bitF B i + carryOf A B i) / 2 = carryOf A B (i + 1) := by
  have h1 := plus_div A B i
  have h2 := plus_div A B (i + 1)
  have h3 := div_bit A i
  have h4 := div_bit B i
  have h5 := div_succ (A + B) i
  omega

/-! The difference. -/
def borrowOf (A B i : Nat) : Nat := if A % 2 ^ i < B % 2 ^ i then 1 else 0
theorem borrow_zero (A B : Nat) : borrowOf A B 0 = 0 := by unfold borrowOf; rw [if_neg (by simp [Nat.mod_one])]
theorem borrow_le (A B i : Nat) : borrowOf A B i ≤ 1 := by unfold borrowOf; split <;> omega
theorem minus_div (A B i : Nat) (h : B ≤ A) : (A - B) / 2 ^ i + B / 2 ^ i + borrowOf A B i = A / 2 ^ i := by
  have h1 := Nat.div_add_mod A (2 ^ i)
  have h2 := Nat.div_add_mod B (2 ^ i)
  have h3 := Nat.mod_lt A (p2 i)
  have h4 := Nat.mod_lt B (p2 i)
  have hq : B / 2 ^ i ≤ A / 2 ^ i := Nat.div_le_div_right h
  obtain ⟨d, hd⟩ : ∃ d, A / 2 ^ i = B / 2 ^ i + d := ⟨A / 2 ^ i - B / 2 ^ i, by omega⟩
  unfold borrowOf
  split
  · rename_i hlt
    rcases d with _ | d
    · rw [hd] at h1; simp at h1; omega
    · have e : A - B = 2 ^ i * d + (2 ^ i + A % 2 ^ i - B % 2 ^ i) := by
        rw [hd, Nat.mul_add, Nat.mul_add] at h1
        omega
      rw [e, Nat.mul_add_div (p2 i), Nat.div_eq_of_lt (by omega), hd]; omega
  · have e : A - B = 2 ^ i * d + (A % 2 ^ i - B % 2 ^ i) := by
      rw [hd, Nat.mul_add] at h1
      omega
    rw [e, Nat.mul_add_div (p2 i), Nat.div_eq_of_lt (by omega), hd]; omega
/-- A digit of the difference, as the code makes it. -/
theorem minus_step (A B i : Nat) (h : B ≤ A) :
    ((bitF A i : Int) - bitF B i - borrowOf A B i < 0 → (bitF A i : Int) - bitF B i - borrowOf A B i + 2 = bitF (A - B) i ∧ borrowOf A B (i + 1) = 1) ∧
    (0 ≤ (bitF A i : Int) - bitF B i - borrowOf A B i → (bitF A i : Int) - bitF B i - borrowOf A B i = bitF (A - B) i ∧ borrowOf A B (i + 1) = 0) := by
  have h1 := minus_div A B i h
  have h2 := minus_div A B (i + 1) h
  have h3 := div_bit A i
  have h4 := div_bit B i
  have h5 := div_bit (A - B) i
  have h6 := bitF_lt A i
  have h7 := bitF_lt B i
  have h8 := bitF_lt (A - B) i
  have h9 := borrow_le A B i
  have h10 := borrow_le A B (i + 1)
  constructor <;> intro hh <;> constructor <;> omega

/-! The product. -/
theorem shl_bit (A i j : Nat) : bitF (A * 2 ^ i) j = if j < i then 0 else bitF A (j - i) := by
  unfold bitF
  split
  · rename_i h
    have e : 2 ^ i = 2 ^ (i - j - 1) * 2 * 2 ^ j := by rw [← Nat.pow_succ, ← Nat.pow_add]; congr 1; omega
    rw [e, ← Nat.mul_assoc, Nat.mul_div_cancel _ (p2 j), ← Nat.mul_assoc, Nat.mul_mod_left]
  · rename_i h
    have e : 2 ^ j = 2 ^ i * 2 ^ (j - i) := by rw [← Nat.pow_add]; congr 1; omega
    rw [e, ← Nat.div_div_eq_div_mul, Nat.mul_div_cancel _ (p2 i)]
theorem times_skip (A B i : Nat) (h : bitF B i = 0) : A * (B % 2 ^ (i + 1)) = A * (B % 2 ^ i) := by rw [mod_succ, h]; simp
theorem times_add (A B i : Nat) (h : bitF B i ≠ 0) : A * (B % 2 ^ (i + 1)) = A * (B % 2 ^ i) + A * 2 ^ i := by
  have := bitF_lt B i
  have e : bitF B i = 1 := by omega
  rw [mod_succ, e, Nat.mul_one, Nat.mul_add]

/-! The quotient. -/
theorem parts_bit (A i j : Nat) (R : Nat) : bitF (2 * R + bitF A i) j = if j = 0 then bitF A i else bitF R (j - 1) := by
  have := bitF_lt A i
  cases j with
  | zero =>
    rw [if_pos rfl]
    unfold bitF
    rw [Nat.pow_zero, Nat.div_one]; omega
  | succ j =>
    simp only [Nat.add_sub_cancel, if_neg (show ¬ j + 1 = 0 by omega)]
    unfold bitF
    rw [Nat.pow_succ', ← Nat.div_div_eq_div_mul]
    unfold bitF at this
    rw [show (2 * R + A / 2 ^ i % 2) / 2 = R by omega]
theorem div_div2 (A B k : Nat) : A / 2 ^ k / B = A / B / 2 ^ k := by rw [Nat.div_div_eq_div_mul, Nat.div_div_eq_div_mul, Nat.mul_comm]
/-- R is what is left of the upper digits; R' with the next one. -/
theorem parts_step (A B i R : Nat) (hB : 0 < B) (hR : R = A / 2 ^ (i + 1) % B) :
    (B ≤ 2 * R + bitF A i → 2 * R + bitF A i - B = A / 2 ^ i % B ∧ bitF (A / B) i = 1) ∧ (2 * R + bitF A i < B → 2 * R + bitF A i = A / 2 ^ i % B ∧ bitF (A / B) i = 0) := by
  have h1 := Nat.div_add_mod (A / 2 ^ (i + 1)) B
  rw [← hR] at h1
  have hlt : R < B := by rw [hR]; exact Nat.mod_lt _ hB
  have h2 := div_bit A i
  have h3 := div_div2 A B i
  have h4 := div_div2 A B (i + 1)
  have h5 := div_succ (A / B) i
  have h6 := bitF_lt A i
  obtain ⟨Q, hQ⟩ : ∃ Q, A / 2 ^ (i + 1) / B = Q := ⟨_, rfl⟩
  rw [hQ] at h1 h4
  have key : ∀ b R', A / 2 ^ i = B * (2 * Q + b) + R' → R' < B → A / 2 ^ i % B = R' ∧ A / 2 ^ i / B = 2 * Q + b := fun b R' e hl => by
    rw [e]; exact ⟨by rw [Nat.mul_add_mod, Nat.mod_eq_of_lt hl], by rw [Nat.mul_add_div hB, Nat.div_eq_of_lt hl]; omega⟩
  constructor
  · intro hge
    have e : A / 2 ^ i = B * (2 * Q + 1) + (2 * R + bitF A i - B) := by
      rw [Nat.mul_add, Nat.mul_left_comm]; omega
    obtain ⟨k1, k2⟩ := key 1 _ e (by omega)
    refine ⟨k1.symm, ?_⟩
    unfold bitF; rw [← h3, k2]; omega
  · intro hl
    have e : A / 2 ^ i = B * (2 * Q + 0) + (2 * R + bitF A i) := by
      rw [Nat.add_zero, Nat.mul_left_comm]; omega
    obtain ⟨k1, k2⟩ := key 0 _ e hl
    refine ⟨k1.symm, ?_⟩
    unfold bitF; rw [← h3, k2]; omega

/-! How two stand. -/
def cmpN (A B : Nat) : Int := if A < B then -1 else if A = B then 0 else 1
theorem cmp_bit (A B i : Nat) (h : A / 2 ^ (i + 1) = B / 2 ^ (i + 1)) (hne : bitF A i ≠ bitF B i) : (bitF A i : Int) - bitF B i = cmpN A B := by
  have h1 := div_bit A i
  have h2 := div_bit B i
  have h3 := bitF_lt A i
  have h4 := bitF_lt B i
  unfold cmpN
  by_cases hlt : bitF A i < bitF B i
  · have : A < B := Nat.lt_of_not_le fun hle => by have := Nat.div_le_div_right (c := 2 ^ i) hle; omega
    rw [if_pos this]; omega
  · have : B < A := Nat.lt_of_not_le fun hle => by have := Nat.div_le_div_right (c := 2 ^ i) hle; omega
    rw [if_neg (by omega), if_neg (by omega)]; omega
theorem cmp_same (A B i : Nat) (h : A / 2 ^ (i + 1) = B / 2 ^ (i + 1)) (he : bitF A i = bitF B i) : A / 2 ^ i = B / 2 ^ i := by rw [div_bit A i, div_bit B i, h, he]
theorem cmp_end (A B : Nat) (h : A / 2 ^ 0 = B / 2 ^ 0) : cmpN A B = 0 := by simp at h; unfold cmpN; rw [if_neg (by omega), if_pos h]
end Go.Kw.Nm

/-
  A number of 200 bits in memory: its cells. Conditions stand at each theorem.
-/
namespace Go.Proofs.YtgbkedjjgbhcmaaDoor
open Go Go.RowKit Go.Kw Go.Kw.Nm
set_option linter.unusedVariables false
set_option linter.unusedSimpArgs false

def numC (neg : Bool) (f : Nat → Nat) : Array Value := (Value.bool neg :: (List.range 200).map fun i => Value.int .i64 (f i)).toArray
def upd (f : Nat → Nat) (j v : Nat) : Nat → Nat := fun i => if i = j then v else f i
section
variable {neg : Bool} {f g : Nat → Nat}
theorem numC_size : (numC neg f).size = 201 := by simp [numC]
theorem numC_0 : (numC neg f)[0]? = some (.bool neg) := by simp [numC]
theorem numC_at (i : Nat) (h : i < 200) : (numC neg f)[i + 1]? = some (.int .i64 (f i)) := by simp [numC, h]
theorem numC_congr (h : ∀ i, i < 200 → f i = g i) : numC neg f = numC neg g := by
  unfold numC
  congr 2
  exact List.map_congr_left fun i hi => by rw [h i (List.mem_range.1 hi)]
theorem numC_set (j v : Nat) (h : j < 200) : (numC neg f).setIfInBounds (j + 1) (.int .i64 v) = numC neg (upd f j v) := by
  apply Array.ext_getElem?
  intro i
  rw [Array.getElem?_setIfInBounds]
  rcases i with _ | i
  · rw [if_neg (by omega), numC_0, numC_0]
  · by_cases hi : i < 200
    · rw [numC_at i hi, numC_at i hi]
      by_cases hj : i = j
      · subst hj; rw [if_pos rfl, if_pos (by rw [numC_size]; omega)]; unfold upd; rw [if_pos rfl]
      · rw [if_neg (by omega)]; unfold upd; rw [if_neg hj]
    · rw [if_neg (by omega), Array.getElem?_eq_none (by rw [numC_size]; omega), Array.getElem?_eq_none (by rw [numC_size]; omega)]
theorem numC_neg (n' : Bool) : (numC neg f).setIfInBounds 0 (.bool n') = numC n' f := by
  apply Array.ext_getElem?
  intro i
  rw [Array.getElem?_setIfInBounds]
  rcases i with _ | i
  · rw [if_pos rfl, if_pos (by rw [numC_size]; omega), numC_0]
  · rw [if_neg (by omega)]
    by_cases hi : i < 200
    · rw [numC_at i hi, numC_at i hi]
    · rw [Array.getElem?_eq_none (by rw [numC_size]; omega), Array.getElem?_eq_none (by rw [numC_size]; omega)]
end
section
variable {W W' : World} {b : Nat} {neg : Bool} {f g : Nat → Nat}
end
theorem below_dN {B : Nat} {a w : World} (h : Below B a w) (n : Nat) : Below B a (w.drewN n) := h.trans ⟨rfl, rfl, rfl, Nat.le_refl _, fun _ _ => rfl⟩
theorem num_one (neg : Bool) (f : Nat → Nat) : (numC neg f).all (·.oneCell') = true := by
  unfold numC
  simp [Value.oneCell']
theorem below_row {B : Nat} {a w : World} (h : Below B a w) {g : Nat} (hg : B ≤ g) (cs : Array Value) : Below B a (w.setRow g cs) :=
  h.trans ⟨rfl, rfl, rfl, by simp, fun k hk => setRow_other w g k cs (by omega)⟩
end Go.Proofs.YtgbkedjjgbhcmaaDoor

/-
  Sums and differences of numbers of 200 bits, walked. Conditions stand at each theorem.
-/
namespace Go.Proofs.YtgbkedjjgbhcmaaDoor
open Go Go.RowKit Go.Kw Go.Kw.Nm
set_option linter.unusedVariables false
set_option linter.unusedSimpArgs false

/-- The first k bits of a number. -/
def lowF (N k : Nat) : Nat → Nat := fun j => if j < k then bitF N j else 0
theorem lowF_zero (N : Nat) : lowF N 0 = fun _ => 0 := rfl
theorem lowF_step (N k : Nat) : upd (lowF N k) k (bitF N k) = lowF N (k + 1) := by
  funext j
  unfold upd lowF
  by_cases h : j = k
  · subst h; rw [if_pos rfl, if_pos (by omega)]
  · rw [if_neg h]
    by_cases h2 : j < k
    · rw [if_pos h2, if_pos (by omega)]
    · rw [if_neg h2, if_neg (by omega)]
theorem lowF_end (N : Nat) (i : Nat) (h : i < 200) : lowF N 200 i = bitF N i := by unfold lowF; rw [if_pos h]

theorem of_val (n k : Nat) (hn : n < 18446744073709551616) : wrap64 (bits .and .u64 ((n : Int) / 2 ^ k) 1) = ((bitF n k : Nat) : Int) := by
  have e : (n : Int) / 2 ^ k = ((n / 2 ^ k : Nat) : Int) := by push_cast; rfl
  have hle : n / 2 ^ k ≤ n := Nat.div_le_self _ _
  rw [e, show (1 : Int) = ((1 : Nat) : Int) from rfl, bits_and_u64_nat _ _ (by omega) (by omega), Nat.and_one_is_mod]
  have := Nat.mod_lt (n / 2 ^ k) (show 0 < 2 by omega)
  unfold bitF wrap64
  omega
theorem low64 (n : Nat) (hn : n < 18446744073709551616) (i : Nat) (h : i < 200) : lowF n 64 i = bitF n i := by
  unfold lowF
  split
  · rfl
  · rw [bitF_big n i 64 hn (by omega)]

end Go.Proofs.YtgbkedjjgbhcmaaDoor

/-
  Numbers of 200 bits: of int64, their sum, back to int64, walked. Conditions stand at each theorem.
-/
namespace Go.Proofs.YtgbkedjjgbhcmaaDoor
open Go Go.RowKit Go.Kw Go.Kw.Nm
set_option linter.unusedVariables false
set_option linter.unusedSimpArgs false

theorem bitF_z : bitF 0 = fun _ => 0 := funext fun i => bitF_zero i
/-- A number with its sign. -/
def numZ (z : Int) : Value := .agg (numC (decide (z < 0)) (bitF z.natAbs))
theorem step_callN {ops : Array Oper} {o : Oper} {a : Act} {w : World} {K : Act → World → Prop} {Q : Exit → Act → World → Prop} {E : Prop}
    (hg : o.guard = none) (f : FuncId) (xs : Array Operand) (ts : Array TypeId) (hop : o.op = Op.call { callee := Callee.value (Operand.func f), args := xs, argTypes := ts }) (vs : Array Value) (hx : xs.map a.eval = vs)
    (hent : ∀ args w, (callFunc f args).run Tryd.prog w = .ok (.enter f args) w) {R : Ending → World → Prop} (hc : Calls Tryd.prog f vs w R) (hR : ∀ e w', R e w' → ∃ u, e = .returned u ∧ K (a.put o.dst u) w') :
    if Region.wanted o (yielded ops a.tmps) = true then Oper.wp Tryd.prog o a w K Q else E := by
  have hw : Region.wanted o (yielded ops a.tmps) = true := by simp [Region.wanted, hg]
  rw [if_pos hw]
  unfold Oper.wp
  have hf : a.eval (Operand.func f) = .func (.func f) #[] #[] := rfl
  have hrun : (execOp a.eval o).run Tryd.prog w = .ok (.enter f vs) w := by simp [execOp, hop, resolve, invoke, hf, hent, go_sem, hx]
  rw [hrun, Oper.upon_enter]
  exact hc.mono fun e w' hr => by obtain ⟨u, rfl, hk⟩ := hR e w' hr; exact hk
theorem below_setC {B : Nat} {a w : World} (h : Below B a w) {p : Addr} (hp : B ≤ p.block) (v : Value) : Below B a (w.setCell p v) := h.setCell hp v

theorem stepN (w : World) (o : Obj) : Below w.heap.size w (w.alloc o) := (Below.refl _ w).alloc (Nat.le_refl _) o

end Go.Proofs.YtgbkedjjgbhcmaaDoor

/-
  Numbers of 200 bits: back to uint64 and int64; the sum of a list; walked. Conditions stand at each theorem.
-/
namespace Go.Proofs.YtgbkedjjgbhcmaaDoor
open Go Go.RowKit Go.Kw Go.Kw.Nm
set_option linter.unusedVariables false
set_option linter.unusedSimpArgs false

/-- A number as uint64, and whether it is one. -/
def uintV (na : Bool) (A : Nat) : Value := .tuple #[.int .u64 ((if A < 18446744073709551616 then A else 0 : Nat) : Int), .bool (decide (A < 18446744073709551616) && !na)]
theorem uintV_yes (na : Bool) (A : Nat) (h : A < 18446744073709551616) : uintV na A = .tuple #[.int .u64 (A : Int), .bool (!na)] := by unfold uintV; rw [if_pos h, decide_eq_true h]; rfl
theorem uintV_no (na : Bool) (A : Nat) (h : ¬ A < 18446744073709551616) : uintV na A = .tuple #[.int .u64 0, .bool false] := by unfold uintV; rw [if_neg h, decide_eq_false h]; rfl
theorem uint_big (A k : Nat) (hk : 63 < k) (h : bitF A k = 1) : ¬ A < 18446744073709551616 := by
  intro hA
  rw [bitF_big A k 64 hA (by omega)] at h
  cases h
theorem or_val (n k : Nat) (hn : n < 2 ^ k) (hk : k ≤ 63) : bits .or .u64 (n : Int) (IntKind.u64.wrap (2 ^ k)) = ((n + 2 ^ k : Nat) : Int) ∧ n + 2 ^ k < 18446744073709551616 := by
  have h1 : 2 ^ k ≤ 2 ^ 63 := Nat.pow_le_pow_right (by omega) hk
  have h2 : (2 : Int) ^ k = ((2 ^ k : Nat) : Int) := by push_cast; rfl
  have h3 : IntKind.u64.wrap ((2 ^ k : Nat) : Int) = ((2 ^ k : Nat) : Int) := by rw [IntKind.wrap_u64]; omega
  have h4 := Nat.two_pow_add_eq_or_of_lt hn 1
  rw [Nat.mul_one] at h4
  refine ⟨?_, by omega⟩
  rw [h2, h3, bits_or_u64_nat _ _ (by omega) (by omega), Nat.or_comm, ← h4, Nat.add_comm]
def inZ (z : Int) : Prop := -9223372036854775808 ≤ z ∧ z < 9223372036854775808
instance (z : Int) : Decidable (inZ z) := inferInstanceAs (Decidable (_ ∧ _))
def intV (z : Int) : Value := .tuple #[.int .i64 (if inZ z then z else 0), .bool (decide (inZ z))]
theorem intV_yes (z : Int) (h : inZ z) : intV z = .tuple #[.int .i64 z, .bool true] := by unfold intV; rw [if_pos h, decide_eq_true h]
theorem intV_no (z : Int) (h : ¬ inZ z) : intV z = .tuple #[.int .i64 0, .bool false] := by unfold intV; rw [if_neg h, decide_eq_false h]

def toldV (z : Int) : Value := .tuple #[.int .i64 (if inZ z then z else 0), .int .i64 (if inZ z then 0 else 10)]
theorem toldV_yes (z : Int) (h : inZ z) : toldV z = .tuple #[.int .i64 z, .int .i64 0] := by unfold toldV; rw [if_pos h, if_pos h]
theorem toldV_no (z : Int) (h : ¬ inZ z) : toldV z = .tuple #[.int .i64 0, .int .i64 10] := by unfold toldV; rw [if_neg h, if_neg h]
end Go.Proofs.YtgbkedjjgbhcmaaDoor

/-
  Products of numbers of 200 bits, walked. Conditions stand at each theorem.
-/
namespace Go.Proofs.YtgbkedjjgbhcmaaDoor
open Go Go.RowKit Go.Kw Go.Kw.Nm
set_option linter.unusedVariables false
set_option linter.unusedSimpArgs false

/-- j bits of A, k places higher. -/
def shF (A k j : Nat) : Nat → Nat := fun t => if k ≤ t ∧ t < k + j then bitF A (t - k) else 0
theorem shF_zero (A k : Nat) : shF A k 0 = fun _ => 0 := funext fun t => by unfold shF; rw [if_neg (by omega)]
theorem shF_step (A k j : Nat) : upd (shF A k j) (j + k) (bitF A j) = shF A k (j + 1) := by
  funext t
  unfold upd shF
  by_cases h : t = j + k
  · subst h; rw [if_pos rfl, if_pos (by omega)]; congr 1; omega
  · rw [if_neg h]
    by_cases h2 : k ≤ t ∧ t < k + j
    · rw [if_pos h2, if_pos (by omega)]
    · rw [if_neg h2, if_neg (by omega)]
theorem shF_end (A k j : Nat) (hj : j + k = 200) (i : Nat) (h : i < 200) : shF A k j i = bitF (A * 2 ^ k) i := by
  rw [shl_bit]
  unfold shF
  by_cases h2 : i < k
  · rw [if_neg (by omega), if_pos h2]
  · rw [if_pos (by omega), if_neg h2]

end Go.Proofs.YtgbkedjjgbhcmaaDoor

/-
  Quotients of numbers of 200 bits, walked. Conditions stand at each theorem.
-/
namespace Go.Proofs.YtgbkedjjgbhcmaaDoor
open Go Go.RowKit Go.Kw Go.Kw.Nm
set_option linter.unusedVariables false
set_option linter.unusedSimpArgs false

/-- The upper bits of a number, from k on. -/
def topF (N k : Nat) : Nat → Nat := fun j => if k ≤ j then bitF N j else 0
theorem topF_set (N i : Nat) (h : bitF N i = 1) : upd (topF N (i + 1)) i 1 = topF N i := by
  funext j
  unfold upd topF
  by_cases hj : j = i
  · subst hj; rw [if_pos rfl, if_pos (Nat.le_refl _), h]
  · rw [if_neg hj]
    by_cases h2 : i + 1 ≤ j
    · rw [if_pos h2, if_pos (by omega)]
    · rw [if_neg h2, if_neg (by omega)]
theorem topF_skip (N i : Nat) (h : bitF N i = 0) : topF N (i + 1) = topF N i := by
  funext j
  unfold topF
  by_cases hj : j = i
  · subst hj; rw [if_neg (by omega), if_pos (Nat.le_refl _), h]
  · by_cases h2 : i + 1 ≤ j
    · rw [if_pos h2, if_pos (by omega)]
    · rw [if_neg h2, if_neg (by omega)]
/-- R, of which all above m has been moved up by one. -/
def mvF (R m : Nat) : Nat → Nat := fun t => if m < t then bitF R (t - 1) else bitF R t
theorem mvF_start (R i : Nat) (h : i < 200) : bitF R i = mvF R 199 i := by unfold mvF; rw [if_neg (by omega)]
theorem mvF_step (R m : Nat) : upd (mvF R (m + 1)) (m + 1) (mvF R (m + 1) m) = mvF R m := by
  funext t
  unfold upd mvF
  by_cases h : t = m + 1
  · subst h; rw [if_pos rfl, if_neg (by omega), if_pos (by omega)]; rfl
  · rw [if_neg h]
    by_cases h2 : m + 1 < t
    · rw [if_pos h2, if_pos (by omega)]
    · rw [if_neg h2, if_neg (by omega)]
theorem mvF_end (A i R : Nat) : upd (mvF R 0) 0 (bitF A i) = bitF (2 * R + bitF A i) := by
  funext t
  rw [parts_bit]
  unfold upd mvF
  by_cases h : t = 0
  · rw [if_pos h, if_pos h]
  · rw [if_neg h, if_neg h, if_pos (by omega)]

end Go.Proofs.YtgbkedjjgbhcmaaDoor

/-
  Carry of the document, in numbers of 200 bits, walked. Conditions stand at each theorem.
-/
namespace Go.Proofs.YtgbkedjjgbhcmaaDoor
open Go Go.RowKit Go.Kw Go.Kw.Nm
set_option linter.unusedVariables false
set_option linter.unusedSimpArgs false

/-- What the document's Carry answers. -/
def carryV (n num den rest : Nat) : Value :=
  if den = 0 then .tuple #[.int .u64 0, .int .u64 0, .int .i64 11] else if den ≤ rest then .tuple #[.int .u64 0, .int .u64 0, .int .i64 2] else
    if (n * num + rest) / den < 18446744073709551616 then .tuple #[.int .u64 (((n * num + rest) / den : Nat) : Int), .int .u64 (((n * num + rest) % den : Nat) : Int), .int .i64 0] else .tuple #[.int .u64 0, .int .u64 0, .int .i64 10]
theorem mul_lt (n num rest : Nat) (hn : n < 18446744073709551616) (hnum : num < 18446744073709551616) (hr : rest < 18446744073709551616) : n * num < 2 ^ 130 ∧ n * num + rest < 2 ^ 130 := by
  have h : n * num ≤ 18446744073709551615 * 18446744073709551615 := Nat.mul_le_mul (by omega) (by omega)
  constructor
  · exact Nat.lt_of_le_of_lt h (by decide)
  · exact Nat.lt_of_le_of_lt (Nat.add_le_add h (Nat.le_of_lt hr)) (by decide)
theorem pow130 {X : Nat} (h : X < 2 ^ 130) : X < 2 ^ 200 := Nat.lt_trans h (by decide)

end Go.Proofs.YtgbkedjjgbhcmaaDoor

/-
  fixq.Carry and fixq.Scale by divisors below 2^32, a setup's check and an energy, both sides, walked. Conditions stand at each theorem.
-/
namespace Go.Proofs.YtgbkedjjgbhcmaaDoor
open Go Go.RowKit Go.Kw Go.Kw.Nm
set_option linter.unusedVariables false
set_option linter.unusedSimpArgs false
set_option maxRecDepth 100000

theorem mul_top (n num : Nat) (hn : n < 18446744073709551616) (hnum : num < 18446744073709551616) : n * num / 18446744073709551616 < 18446744073709551615 := by
  have h : n * num ≤ 18446744073709551615 * 18446744073709551615 := Nat.mul_le_mul (by omega) (by omega)
  omega
theorem over_iff (X den : Nat) (h0 : 0 < den) : X / den < 18446744073709551616 ↔ X / 18446744073709551616 < den := by
  rw [Nat.div_lt_iff_lt_mul h0, Nat.div_lt_iff_lt_mul (by omega)]
  rw [Nat.mul_comm]
theorem carry_over (n num den rest : Nat) (hd : den ≠ 0) (hr : rest < den) (ho : den ≤ (n * num + rest) / 18446744073709551616) : carryV n num den rest = .tuple #[.int .u64 0, .int .u64 0, .int .i64 10] := by
  unfold carryV
  rw [if_neg hd, if_neg (by omega), if_neg]
  rw [over_iff _ _ (by omega)]; omega
theorem carry_fine (n num den rest : Nat) (hd : den ≠ 0) (hr : rest < den) (ho : (n * num + rest) / 18446744073709551616 < den) : carryV n num den rest = .tuple #[.int .u64 (((n * num + rest) / den : Nat) : Int), .int .u64 (((n * num + rest) % den : Nat) : Int), .int .i64 0] := by
  unfold carryV
  rw [if_neg hd, if_neg (by omega), if_pos]
  rw [over_iff _ _ (by omega)]; omega
theorem carry_calls (n num den rest : Nat) (hn : n < 18446744073709551616) (hnum : num < 18446744073709551616) (hden : den < 4294967296) (hd : den ≠ 0) (hr : rest < den) (w : World) :
    Calls Tryd.prog 21 #[.int .u64 n, .int .u64 num, .int .u64 den, .int .u64 rest] w fun e w' => e = .returned (carryV n num den rest) ∧ Below w.heap.size w w' := by
  have ht := mul_top n num hn hnum
  have e := Nat.div_add_mod (n * num) 18446744073709551616
  have em := Nat.mod_lt (n * num) (show 0 < 18446744073709551616 by omega)
  have hM := mul64_calls n num hn hnum w
  have hov := carry_over n num den rest hd hr
  have hfi := carry_fine n num den rest hd hr
  generalize hX : n * num + rest = X at *
  generalize n * num % 18446744073709551616 = M at *
  generalize n * num / 18446744073709551616 = T at *
  have h1 := add64_run (M : Int) rest 0 (by omega) (by omega) (by omega) (by omega) w
  have a1 : ((M : Int) + rest + 0) % 18446744073709551616 = ((X % 18446744073709551616 : Nat) : Int) := by omega
  obtain ⟨c, hc⟩ : ∃ c : Nat, ((M : Int) + rest + 0) / 18446744073709551616 = (c : Int) := ⟨(M + rest) / 18446744073709551616, by omega⟩
  have a2 : IntKind.u64.wrap ((T : Int) + (c : Int)) = ((X / 18446744073709551616 : Nat) : Int) := by rw [IntKind.wrap_u64]; omega
  rw [a1, hc] at h1
  have hl := Nat.mod_lt X (show 0 < 18446744073709551616 by omega)
  have eX := Nat.div_add_mod X 18446744073709551616
  generalize X % 18446744073709551616 = xl at *
  generalize X / 18446744073709551616 = xh at *
  have k1 : ((den : Int) == 0) = false := by simp; exact hd
  have k1' : (den == 0) = false := by simp; exact hd
  have HM := Lib.hid hM
  clear hM e em ht a1 hc hn hnum hX
  by_cases ho : den ≤ xh
  · rw [hov ho]
    clear hov hfi eX hl
    go_enter Tryd.func21, Tryd.ntmps21
    go_wp2_with fail
    refine HM.out.mono ?_
    rintro e w1 ⟨rfl, rfl⟩
    go_wp2_with (simp only [h1])
    go_ret3
    exact ⟨rfl, Below.refl _ _⟩
  · rw [hfi (by omega)]
    have ho2 : xh < den := by omega
    by_cases hz : xh = 0
    · subst hz
      have hXx : X = xl := by omega
      subst hXx
      have HD := Lib.hid (div64_zero X den hl (by omega) hden w)
      clear hov hfi eX hl ho
      go_enter Tryd.func21, Tryd.ntmps21
      go_wp2_with fail
      refine HM.out.mono ?_
      rintro e w1 ⟨rfl, rfl⟩
      go_wp2_with (simp only [h1])
      refine HD.out.mono ?_
      rintro e w2 ⟨rfl, hb⟩
      go_wp2_with fail
      go_ret3
      exact ⟨rfl, hb⟩
    · have HD := Lib.hid (div64_more xh xl den hl hden (by omega) ho2 w)
      rw [show xh * 18446744073709551616 + xl = X by omega] at HD
      clear hov hfi eX hl ho hz
      go_enter Tryd.func21, Tryd.ntmps21
      go_wp2_with fail
      refine HM.out.mono ?_
      rintro e w1 ⟨rfl, rfl⟩
      go_wp2_with (simp only [h1])
      refine HD.out.mono ?_
      rintro e w2 ⟨rfl, hb⟩
      go_wp2_with fail
      go_ret3
      exact ⟨rfl, hb⟩
/-- May a setup be? -/
def mayP (num den gap len : Int) : Prop := 1 ≤ num ∧ num ≤ 1048576 ∧ 1 ≤ den ∧ den ≤ 1048576 ∧ 0 ≤ gap ∧ 60 ≤ len ∧ len ≤ 86400 ∧ 86400 % len = 0
instance (num den gap len : Int) : Decidable (mayP num den gap len) := by unfold mayP; infer_instance
def setV (num den bound gap len : Int) : Value := .agg #[.int .u64 num, .int .u64 den, .int .u32 bound, .int .i64 gap, .int .i64 len]
theorem mod_pos (len : Int) : 0 ≤ 86400 % len := by
  by_cases h : len = 0
  · subst h; decide
  · exact Int.emod_nonneg _ h
end Go.Proofs.YtgbkedjjgbhcmaaDoor
