/-
  The walk of RtuBack, but for the chapter's first examples ('alive'), whose contract it takes. Conditions: none beyond the given rows.
-/
import Derived.Test.YtfbeihfpflhdaaaRtuBackPlain
import Derived.Test.YtfbeihfpflhdaaaRtuLaws1
namespace Go.Proofs.Ytfbeihfpflhdaaa
open Go Go.RowKit Go.Kw Go.Kw.Crc
set_option linter.unusedVariables false
set_option linter.unusedSimpArgs false

theorem fpost_len' (m : List UInt8) (u : Int) (p : List UInt8) (h : readOf m = some (u, p)) : p.length ≤ m.length :=
  fpost_len m u p (by rw [h]; rfl)
theorem bv_spoil (c : List UInt8) (k : Nat) (v : UInt8) (hk : k < c.length) :
    (bv c).set k (.int .u8 (bits .xor .u8 (bAt c k) (v.toNat : Int))) = bv (spoil c k v) := by
  have e2 : bits .xor .u8 (bAt c k) (v.toNat : Int) = (((c.getD k 0 ^^^ v).toNat : Nat) : Int) := by
    rw [UInt8.toNat_xor]; unfold bAt
    exact u8_xor_nat _ _ (UInt8.toNat_lt _) (UInt8.toNat_lt _)
  rw [e2]; unfold bv spoil; rw [List.map_set]

theorem own_ge' {w : World} {base e size g n cap : Nat} {xs : List Value} (h : w.ownsRow base e size (.slice (some ⟨g, 0, none⟩) n cap) n xs) : base ≤ g := by
  rcases h.2 with ⟨h', _⟩ | ⟨g', cap', cur, h', hb, _⟩
  · simp at h'
  · simp only [Value.slice.injEq, Option.some.injEq, Addr.mk.injEq, and_true, true_and] at h'
    obtain ⟨rfl, rfl⟩ := h'
    exact hb
theorem spoil_v (n : Nat) : ∃ v : UInt8, v.toNat = 1 + n / 256 % 255 := ⟨UInt8.ofNat (1 + n / 256 % 255), by rw [UInt8.toNat_ofNat', Nat.mod_eq_of_lt (by omega)]⟩
theorem spoil_val (n : Nat) (hn : n < 65536) (v : UInt8) (hv : v.toNat = 1 + n / 256 % 255) : IntKind.u16.wrap (1 + (IntKind.u16.wrap ((n : Int) / 256)).tmod 255) % 256 = (v.toNat : Int) := by
  have h1 : IntKind.u16.wrap ((n : Int) / 256) = (n : Int) / 256 := by rw [IntKind.wrap_u16]; omega
  rw [h1, Int.tmod_eq_emod_of_nonneg (by omega), hv, IntKind.wrap_u16]
  omega
theorem cell_at' {w : World} {base g c N : Nat} {e : TypeId} {d : List UInt8} (o : w.ownsRow base e 1 (.slice (some ⟨g, 0, none⟩) N c) N (bv d)) (k : Nat) (hN : N = d.length) (hk : k < N) : w.cell? ⟨g, k, none⟩ = some (.int .u8 (bAt d k)) := by
  subst hN
  rw [o.cellAt k (by omega)]; unfold bv
  rw [List.getElem?_map, List.getElem?_eq_getElem hk]; simp [bAt, List.getD, hk]
theorem rtuRead_n (A : Option Addr) (c N : Nat) (l : List UInt8) (hN : N = l.length) (hl : l.length ≤ 1000) (w : World) (hR : RdB w w.heap.size A l) (hz : A = none → l.length = 0) (hc : l.length ≤ c) (hc2 : c ≤ 9223372036854775807) :
    Calls Try.prog 10 #[.slice A N c] w fun e w' => FPost w' e (readOf l) ∧ Below w.heap.size w w' := by
  subst hN; exact rtuRead_calls A c l (by omega) w hR hz hc hc2

set_option maxRecDepth 100000 in
set_option maxHeartbeats 4000000 in
theorem rtuBack_of (hal : ∀ w : World, Calls Try.prog 14 #[] w fun e w' => e = .returned (.bool true) ∧ Below w.heap.size w w')
    (a0 : Int) (b0 : Option Addr) (len0 cap0 : Nat) (z0 : List Int) (a1 : Option Addr) (len1 cap1 : Nat) (z1 : List Int) (a2 : Int) (w : World) (w0 : (Lit.int .i64 a0).wf = true ∧ IsRow .u8 w b0 len0 cap0 z0) (w1 : IsRow .u8 w a1 len1 cap1 z1) (w2 : (Lit.int .u16 a2).wf = true) :
    Calls Try.prog 4 #[.agg #[.int .i64 a0, .slice b0 len0 cap0], .slice a1 len1 cap1, .int .u16 a2] w fun e w' => e = .returned (.bool true) ∧ Below w.heap.size w w' := by
  obtain ⟨-, w0⟩ := w0
  obtain ⟨hm1, hm2, hz0⟩ := w0.caps
  obtain ⟨hm3, hm4, hz1⟩ := w1.caps
  unfold maxLen at hm2 hm4
  obtain ⟨l, rfl, hR⟩ := w0.bytes
  obtain ⟨m, rfl, hS⟩ := w1.bytes
  obtain ⟨d0, d1⟩ := Go.bounds_u16 w2
  obtain ⟨n, rfl⟩ := Int.eq_ofNat_of_zero_le d0
  have Hn : Hid (n < 65536) := by show _ < _; omega
  clear w0 w1 w2 d0 d1
  have hz : b0 = none → l.length = 0 := fun h => (hz0 h).1
  have hzm : a1 = none → m.length = 0 := fun h => (hz1 h).1
  clear hz0 hz1
  have Hal := Lib.hid hal
  have hb0 := Below.refl w.heap.size w
  have hb1 := balloc hb0 (.cells #[.int .i64 a0, .slice b0 l.length cap0] 24)
  have bx := Box2.new w 24 (.int .i64 a0) (.slice b0 l.length cap0)
  clear hal
  by_cases h1 : 400 < l.length
  · have k1 : decide (400 < (l.length : Int)) = true := by simp; omega
    clear h1
    go_enter Try.func4, Try.ntmps4
    go_wp2_with fail
    refine (Hal.out _).mono ?_
    rintro e w2 ⟨rfl, hb2⟩
    have bx2 := bx.below hb2
    have f0 := bx2.c0
    have f1 := bx2.c1
    go_wp2_with fail
    go_ret
    exact ⟨rfl, bnext hb1 hb2⟩
  · have k1 : decide (400 < (l.length : Int)) = false := by simp; omega
    by_cases h2 : 400 < m.length
    · have k2 : decide (400 < (m.length : Int)) = true := by simp; omega
      clear h1 h2
      go_enter Try.func4, Try.ntmps4
      go_wp2_with fail
      refine (Hal.out _).mono ?_
      rintro e w2 ⟨rfl, hb2⟩
      have bx2 := bx.below hb2
      have f0 := bx2.c0
      have f1 := bx2.c1
      go_wp2_with fail
      go_ret
      exact ⟨rfl, bnext hb1 hb2⟩
    · have k2 : decide (400 < (m.length : Int)) = false := by simp; omega
      have Hst := Lib.hid (fun (w : World) (A : Option Addr) (c : Nat) (r : List UInt8) (h : RdB w w.heap.size A r) (hn : A = none → r.length = 0) => run_string (P := Try.prog) (src := 22) (dst := 9) h c hn Try.underlying22 Try.underlying5 Try.underlying9)
      have Hl : Hid (l.length ≤ 400 ∧ m.length ≤ 400) := by show _ ∧ _; omega
      clear h1 h2
      go_enter Try.func4, Try.ntmps4
      go_wp2_with fail
      refine (Hal.out _).mono ?_
      rintro e w2 ⟨rfl, hb2⟩
      have bx2 := bx.below hb2
      have f0 := bx2.c0
      have f1 := bx2.c1
      replace hb2 := bnext hb1 hb2
      go_wp2_with fail
      refine (rtuBytes_calls a0 b0 cap0 l (by have := Hl.out; omega) _ (hR.go hb2) hz).mono ?_
      rintro e w3 ⟨hx, hb3⟩
      have bx3 := bx2.below hb3
      replace hb3 := bnext hb2 hb3
      clear f0 f1 bx bx2 hb1
      cases hc : bytesOf a0 l with
      | none =>
        rw [hc] at hx
        obtain rfl := hx
        clear hc bx3
        go_wp2_with fail
        refine (rtuRead_calls a1 cap1 m (by have := Hl.out; omega) _ (hS.go hb3) hzm hm3 (by omega)).mono ?_
        rintro e v1 ⟨hx, hv1⟩
        replace hv1 := bnext hb3 hv1
        cases hy : readOf m with
        | none =>
          rw [hy] at hx
          obtain rfl := hx
          unfold fv
          clear hy
          have hv2 := balloc hv1 (.cells #[.int .i64 0, .slice none 0 0] 24)
          go_wp2_with fail
          go_ret
          exact ⟨rfl, hv2⟩
        | some up =>
          obtain ⟨u, p⟩ := up
          obtain ⟨hby, hml⟩ := bytes_read m u p hy
          have hpl := fpost_len' m u p hy
          rw [hy] at hx
          obtain ⟨A5, c5, rfl, r5, z5⟩ := hx
          have Hby := Lib.hid hby
          have Hpl := Lib.hid hpl
          clear hy hby hml hpl
          unfold fv
          go_wp2_with fail
          have hvs : Below v1.heap.size v1 (v1.alloc (.cells #[.int .i64 u, .slice A5 p.length c5] 24)) := (Below.refl _ _).alloc (Nat.le_refl _) _
          refine (rtuBytes_calls u A5 c5 p (by have := Hpl.out; have := Hl.out; omega) _ (r5.go hvs) z5).mono ?_
          rintro e v2 ⟨hx, hv2⟩
          replace hv2 := bnext (balloc hv1 _) hv2
          rw [Hby.out] at hx
          obtain ⟨A6, c6, rfl, o6, z6⟩ := hx
          have s1 := Hst.out v2 A6 c6 m (rdB_own o6).1 z6
          have s2 := Hst.out v2 a1 cap1 m (hS.go hv2) hzm
          clear o6 z6 r5 z5
          go_wp2_with fail
          go_ret
          exact ⟨rfl, hv2⟩
      | some c =>
        rw [hc] at hx
        obtain ⟨A1, c1, rfl, o1, y1⟩ := hx
        have Hc := Lib.hid hc
        have Hcl := Lib.hid (bytes_len a0 l c hc)
        clear hc
        have hcap := own_caps o1
        go_wp2_with fail
        refine (rtuRead_calls A1 c1 c (by have := Hcl.out; omega) _ (rdB_own o1).1 y1 hcap.1 hcap.2).mono ?_
        rintro e w4 ⟨hx, hb4⟩
        rw [read_bytes a0 l c Hc.out] at hx
        obtain ⟨A2, c2, rfl, r2, y2⟩ := hx
        have bx4 := bx3.below hb4
        have o4 := own_below o1 hb4
        replace hb4 := bnext hb3 hb4
        unfold fv
        have hbs : Below w4.heap.size w4 (w4.alloc (.cells #[.int .i64 a0, .slice A2 l.length c2] 24)) := (Below.refl _ _).alloc (Nat.le_refl _) _
        have bx5 := bx4.below hbs
        have f0 := bx5.c0
        have f1 := bx5.c1
        have o5 := own_below o4 hbs
        have hb5 := balloc hb4 (.cells #[.int .i64 a0, .slice A2 l.length c2] 24)
        have r5 := r2.go hbs
        clear bx3 bx4 o1 o4 hb3
        go_wp2_with fail
        refine (rtuSame_calls a0 a0 A2 b0 c2 cap0 l l (by have := Hl.out; omega) (by have := Hl.out; omega) _ r5 (hR.go hb5)).mono ?_
        rintro e w6 ⟨rfl, hb6⟩
        rw [show (decide (a0 = a0) && decide (l = l)) = true from by simp]
        have o6 := own_below o5 hb6
        replace hb6 := bnext hb5 hb6
        clear f0 f1 bx5 r2 r5 hb5 hbs o5
        obtain ⟨g, rfl⟩ := own_some o6 (by have := Hcl.out; omega)
        obtain ⟨k, hk⟩ : ∃ k, Hid (n % c.length = k) := ⟨_, rfl⟩
        have hkc : k < c.length := by rw [← hk.out]; exact Nat.mod_lt _ (by have := Hcl.out; omega)
        have hw : (n : Int) % (c.length : Int) = (k : Int) := by rw [← hk.out]; push_cast; rfl
        have hw1 : IntKind.i64.wrap (n : Int) = (n : Int) := IntWalk.i64_in _ (by have := Hn.out; omega)
        have hw2 : IntKind.i64.wrap (k : Int) = (k : Int) := IntWalk.i64_in _ (by have := Hcl.out; omega)
        have hw3 : wrap64 (k : Int) = (k : Int) := by unfold wrap64; have := Hcl.out; omega
        have hcpos : (0 : Int) < (c.length : Int) := by have := Hcl.out; omega
        have hkc1 : (k : Int) < (c.length : Int) := Int.ofNat_lt.2 hkc
        obtain ⟨v, hv'⟩ := spoil_v n
        have Hv := Lib.hid hv'
        have Hkc := Lib.hid hkc
        have ev := Lib.hid (spoil_val n Hn.out v hv')
        have x0 := cell_at' o6 k rfl hkc
        have x1 := o6.frozenAt k
        have hge : w.heap.size ≤ g := Nat.le_trans hb2.size (own_ge' o6)
        clear hkc hv'
        go_wp2_with fail
        rw [ev.out]
        have o7 := (o6.stored k (.int .u8 (bits .xor .u8 (bAt c k) (v.toNat : Int)))).1
        rw [bv_spoil c k v Hkc.out] at o7
        have hb7 := hb6.setCell (p := ⟨g, k, none⟩) hge (.int .u8 (bits .xor .u8 (bAt c k) (v.toNat : Int)))
        have hsl : (spoil c k v).length = c.length := by simp [spoil]
        have Hsl := Lib.hid hsl
        have hsp := Lib.hid (read_spoilt a0 l c Hc.out k v Hkc.out (by rw [Hv.out]; omega))
        clear hsl o6 hb6 x0 x1 hw hw1 hw2 hw3 hcpos hkc1
        generalize w6.setCell ⟨g, k, none⟩ (.int .u8 (bits .xor .u8 (bAt c k) (v.toNat : Int))) = w7 at o7 hb7 ⊢
        refine (rtuRead_n (some ⟨g, 0, none⟩) c1 c.length (spoil c k v) Hsl.out.symm (by rw [Hsl.out]; exact Nat.le_trans Hcl.out.2 (by decide)) w7 (rdB_own o7).1 (by simp) (by rw [Hsl.out]; exact hcap.1) hcap.2).mono ?_
        rintro e w8 ⟨hx, hb8⟩
        rw [hsp.out] at hx
        obtain rfl := hx
        replace hb8 := bnext hb7 hb8
        unfold fv
        clear o7 hb7 hb2 hb4
        go_wp2_with fail
        refine (rtuRead_calls a1 cap1 m (by have := Hl.out; omega) _ (hS.go hb8) hzm hm3 (by omega)).mono ?_
        rintro e v1 ⟨hx, hv1⟩
        replace hv1 := bnext hb8 hv1
        cases hy : readOf m with
        | none =>
          rw [hy] at hx
          obtain rfl := hx
          unfold fv
          clear hy
          have hv2 := balloc hv1 (.cells #[.int .i64 0, .slice none 0 0] 24)
          go_wp2_with fail
          go_ret
          exact ⟨rfl, hv2⟩
        | some up =>
          obtain ⟨u, p⟩ := up
          obtain ⟨hby, hml⟩ := bytes_read m u p hy
          have hpl := fpost_len' m u p hy
          rw [hy] at hx
          obtain ⟨A5, c5, rfl, r5, z5⟩ := hx
          have Hby := Lib.hid hby
          have Hpl := Lib.hid hpl
          clear hy hby hml hpl
          unfold fv
          go_wp2_with fail
          have hvs : Below v1.heap.size v1 (v1.alloc (.cells #[.int .i64 u, .slice A5 p.length c5] 24)) := (Below.refl _ _).alloc (Nat.le_refl _) _
          refine (rtuBytes_calls u A5 c5 p (by have := Hpl.out; have := Hl.out; omega) _ (r5.go hvs) z5).mono ?_
          rintro e v2 ⟨hx, hv2⟩
          replace hv2 := bnext (balloc hv1 _) hv2
          rw [Hby.out] at hx
          obtain ⟨A6, c6, rfl, o6, z6⟩ := hx
          have s1 := Hst.out v2 A6 c6 m (rdB_own o6).1 z6
          have s2 := Hst.out v2 a1 cap1 m (hS.go hv2) hzm
          clear o6 z6 r5 z5
          go_wp2_with fail
          go_ret
          exact ⟨rfl, hv2⟩
end Go.Proofs.Ytfbeihfpflhdaaa
