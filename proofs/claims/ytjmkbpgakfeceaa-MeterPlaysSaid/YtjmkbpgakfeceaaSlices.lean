/-
  Slices of the call's own: append from whatever source, bytes as a string, a slice against nil. Each as an equation on the operation's run. Conditions stand at each theorem.
-/
import Derived.Test.YtjmkbpgakfeceaaBase
import Derived.Maps.AppendAt
import Derived.OwnWalk
import Derived.OwnWalkIn
import Derived.WalkSpells
import Derived.Laws.IdiomStrings
import Derived.Laws.BytesArg
namespace Go.Kw
open Go Go.RowKit
set_option linter.unusedVariables false

/-- What a walk needs to know of a slice type t over the element type e. -/
structure Elem (P : Program) (t e : TypeId) (z : Value) (size bytes : Nat) : Prop where
  ht : P.underlying t = some (.slice e)
  inf : (P.info? e).map (fun i => (i.zero, i.size, i.bytes)) = some (some z, size, bytes)
  zs : z.cells.size = size
  pos : 0 < size

/-- What is read, as a list. -/
def vals (n : Nat) (f : Nat → Value) : List Value := (List.range n).map f
theorem vals_length (n : Nat) (f : Nat → Value) : (vals n f).length = n := by simp [vals]
theorem vals_get {n : Nat} {f : Nat → Value} {j : Nat} {u : Value} (h : (vals n f)[j]? = some u) : j < n ∧ u = f j := by
  unfold vals at h
  rw [List.getElem?_map] at h
  rcases Nat.lt_or_ge j n with hj | hj
  · rw [List.getElem?_range hj] at h
    simp at h
    exact ⟨hj, h.symm⟩
  · rw [List.getElem?_eq_none (by simpa using hj)] at h
    simp at h

section
variable {P : Program} {t e : TypeId} {z : Value} {size bytes : Nat}
theorem run_append_of_nil (w : World) (base : Nat) (ty : TypeId) (E : Elem P t e z size bytes)
    {v : Value} {n : Nat} {xs : List Value} (hown : w.ownsRow base e size v n xs) (c : Nat) : (Builtin.append_ #[t, t] ty #[v, .slice none 0 c]).run P w = .ok v w := by
  obtain ⟨i, hi, hz, hs, hb⟩ := info_parts E.inf
  have ht := E.ht
  rcases hown.2 with ⟨rfl, rfl⟩ | ⟨g, cap, cur, rfl, _, _, hnc, _⟩
  · simp [Builtin.append_, run_underlying ht, sizeOf, typeInfo, hi, Builtin.lenOf, Builtin.firstCells]
  · simp [Builtin.append_, run_underlying ht, sizeOf, typeInfo, hi, Builtin.lenOf, Builtin.firstCells, hnc, storeCells]

/-- 'append(v, x...)', v the call's own (or nil), x whatever reads. -/
theorem run_append (w : World) (base : Nat) (ty : TypeId) (E : Elem P t e z size bytes)
    {v : Value} {n : Nat} {xs : List Value} (hown : w.ownsRow base e size v n xs)
    {B : Nat} {A : Option Addr} (m c : Nat) {f : Nat → Value} (hr : Rd w B A (m * size) f) (h1 : ∀ i, i < m * size → (f i).oneCell' = true)
    (h63 : n + m ≤ maxLen) (hbytes : (n + m) * bytes ≤ 140737488355328) (hbase : base ≤ w.heap.size) (hnil : A = none → m = 0) :
    ∃ v' w', (Builtin.append_ #[t, t] ty #[v, .slice A m c]).run P w = .ok v' w' ∧ w'.ownsRow base e size v' (n + m) (xs ++ vals (m * size) f) ∧ w.grownBy w' v.ownBlock ∧
      (v' = .slice none 0 0 ↔ v = .slice none 0 0 ∧ m = 0) ∧ (v'.ownBlock = v.ownBlock ∨ v'.ownBlock = some w.heap.size) := by
  obtain ⟨i, hi, hz, hs, hb⟩ := info_parts E.inf
  have zero : m = 0 → vals (m * size) f = [] := fun h => by subst h; simp [vals]
  rcases A with _ | ad
  · have hm := hnil rfl
    subst hm
    rw [zero rfl]
    exact ⟨v, w, run_append_of_nil w base ty E hown c, by simpa using hown, World.grownBy.refl w _, by simp, .inl rfl⟩
  · have hcells : ∀ j u, (vals (m * size) f)[j]? = some u → w.cell? (ad.add j) = some u := by
      intro j u hu
      obtain ⟨hj, rfl⟩ := vals_get hu
      obtain ⟨b, off, e, _, hc⟩ := hr.at_ hj
      injection e with e
      subst e
      rw [Go.WideShapes.add_plain]; exact hc
    obtain ⟨v', w', hrun, h2, h3, h4, h5⟩ := run_append_own_at (P := P) w base t ty e i z size bytes E.ht hi hz hs hb E.zs E.pos v n xs hown ad m c (vals (m * size) f) (vals_length _ _) hcells
      (fun u hu => by obtain ⟨j, hj⟩ := List.mem_iff_getElem?.1 hu; obtain ⟨hj', rfl⟩ := vals_get hj; exact h1 j hj') h63 hbytes hbase
    exact ⟨v', w', hrun, h2, h3, h4, h5⟩

/-- 's == nil' -/
theorem Elem.eqNil (E : Elem P t e z size bytes) (w : World) (a : Option Addr) (n c : Nat) : (binOp .eql t (.slice a n c) (.slice none 0 0)).run P w = .ok (.bool a.isNone) w :=
  Lib.run_eql_slice_nil w t e a n c 0 0 E.ht
end

/-- At an append (behind 'at_builtin'), whose run is known. -/
theorem wpList_append_run {P : Program} {w : World} {ops : Array Oper} {rest : List Oper} {o : Oper} {a : Act} {Q : Exit → Act → World → Prop} {s x : Operand} {t ty : TypeId} {v y v' : Value} {w' : World}
    (hrun : (Builtin.append_ #[t, t] ty #[v, y]).run P w = .ok v' w') (hgd : o.guard = none) (ho : o.op = .call { callee := .builtin .append, args := #[s, x], argTypes := #[t, t] }) (hty : o.type = ty)
    (hs : a.eval s = v) (hx : a.eval x = y) (h : wpList P ops Q rest (a.put o.dst v') w') : wpList P ops Q (o :: rest) a w := by
  subst hty
  refine wpList_plain hgd fun K hK => ?_
  unfold Oper.wp execOp
  simp only [ho, resolve, invoke, builtin, Sem.run_bind, Sem.run_pure, Result.andThen_ok, List.map_toArray, List.map_cons, List.map_nil, hs, hx, hrun]
  exact hK _ _ h
/-- The same within a fence (behind 'gi_at_builtin'). -/
theorem wpListIn_append_run {F : Fence} {n : Nat} {P : Program} {w : World} {ops : Array Oper} {rest : List Oper} {o : Oper} {a : Act} {Q : Exit → Act → World → Prop} {s x : Operand} {t ty : TypeId} {v y v' : Value} {w' : World}
    (hrun : (Builtin.append_ #[t, t] ty #[v, y]).run P w = .ok v' w') (hgd : o.guard = none) (ho : o.op = .call { callee := .builtin .append, args := #[s, x], argTypes := #[t, t] }) (hty : o.type = ty)
    (hs : a.eval s = v) (hx : a.eval x = y) (h : wpListIn F n P ops Q rest (a.put o.dst v') w') : wpListIn F n P ops Q (o :: rest) a w := by
  subst hty
  refine wpListIn_plain hgd fun K hK' => ?_
  unfold Oper.wpIn
  refine ⟨?_, ?_⟩
  · simp [Oper.about, ho, resolve, Target.leads, Sem.run_pure]
  · rw [Oper.semAt_plain F _ _ (by rw [ho]; intro c hc'; cases hc')]
    simp [execOp, ho, resolve, invoke, builtin, hs, hx, hrun, Result.andThen]
    exact hK' _ _ h

/-- At a make (behind 'at_make'), whose run is known. -/
theorem wpList_make_run {P : Program} {w : World} {ops : Array Oper} {rest : List Oper} {o : Oper} {a : Act} {Q : Exit → Act → World → Prop} {s x : Operand} {t : TypeId} {v y v' : Value} {w' : World}
    (hrun : (Instr.makeSlice t v y).run P w = .ok v' w') (hgd : o.guard = none) (ho : o.op = Op.makeSlice t s x)
    (hs : a.eval s = v) (hx : a.eval x = y) (h : wpList P ops Q rest (a.put o.dst v') w') : wpList P ops Q (o :: rest) a w := by
  refine wpList_plain hgd fun K hK => ?_
  unfold Oper.wp
  simp [execOp, ho, hs, hx, hrun, Result.andThen]
  exact hK _ _ h
theorem wpListIn_make_run {F : Fence} {n : Nat} {P : Program} {w : World} {ops : Array Oper} {rest : List Oper} {o : Oper} {a : Act} {Q : Exit → Act → World → Prop} {s x : Operand} {t : TypeId} {v y v' : Value} {w' : World}
    (hrun : (Instr.makeSlice t v y).run P w = .ok v' w') (hgd : o.guard = none) (ho : o.op = Op.makeSlice t s x)
    (hs : a.eval s = v) (hx : a.eval x = y) (h : wpListIn F n P ops Q rest (a.put o.dst v') w') : wpListIn F n P ops Q (o :: rest) a w := by
  refine wpListIn_plain hgd fun K hK' => ?_
  unfold Oper.wpIn
  refine ⟨?_, ?_⟩
  · simp [Oper.about, ho]
  · rw [Oper.semAt_plain F _ _ (by rw [ho]; intro c hc'; cases hc')]
    simp [execOp, ho, hs, hx, hrun, Result.andThen]
    exact hK' _ _ h
/-- 'make([]T, n)'. -/
theorem runMake {P : Program} {t e : TypeId} {z : Value} {size bytes : Nat} (w : World) (base : Nat) (E : Elem P t e z size bytes) (n : Nat) (hb : bytes * n ≤ 281474976710656) (h63 : n ≤ maxLen) (hbase : base ≤ w.heap.size) :
    ∃ w', (Instr.makeSlice t (.int .i64 (n : Int)) (.int .i64 (n : Int))).run P w = .ok (.slice (some ⟨w.heap.size, 0, none⟩) n n) w' ∧
      w'.ownsRow base e size (.slice (some ⟨w.heap.size, 0, none⟩) n n) n (madeCells z.cells (n * size)).toList ∧ w.grownBy w' none := by
  obtain ⟨i, hi, hz, hs, hby⟩ := info_parts E.inf
  exact run_make_full (P := P) w base t e i z size E.ht hi hz hs .i64 .i64 n (by rw [hby]; exact hb) h63 hbase

theorem ownBlock_below {w : World} {base : Nat} {e : TypeId} {size : Nat} {v : Value} {n : Nat} {xs : List Value} (h : w.ownsRow base e size v n xs) : ∀ k, v.ownBlock = some k → base ≤ k := fun k hk => (h.lt k hk).1
/-- An append turns nothing below base. -/
theorem below_append {w w' : World} {base : Nat} {e : TypeId} {size : Nat} {v : Value} {n : Nat} {xs : List Value} (h : w.ownsRow base e size v n xs) (hb : base ≤ w.heap.size) (hg : w.grownBy w' v.ownBlock) : Below base w w' :=
  (Below.refl base w).grown hg hb (ownBlock_below h)

/-- The cells of bytes. -/
def bv (l : List UInt8) : List Value := l.map (fun b => .int .u8 (b.toNat : Int))
theorem bv_length (l : List UInt8) : (bv l).length = l.length := by simp [bv]
theorem bv_append (a b : List UInt8) : bv (a ++ b) = bv a ++ bv b := by simp [bv]
theorem vals_bytes (l : List UInt8) : vals (l.length * 1) (fun i => .int .u8 (bAt l i)) = bv l := by
  apply List.ext_getElem?
  intro j
  rcases Nat.lt_or_ge j l.length with h | h
  · unfold vals bv
    rw [Nat.mul_one, List.getElem?_map, List.getElem?_range h, List.getElem?_map, List.getElem?_eq_getElem h]
    simp [bAt, h]
  · rw [List.getElem?_eq_none (by rw [vals_length]; omega), List.getElem?_eq_none (by rw [bv_length]; exact h)]
/-- What the call owns, read. -/
theorem rdB_own {w : World} {base : Nat} {e : TypeId} {A : Option Addr} {n k c : Nat} {l : List UInt8} (h : w.ownsRow base e 1 (.slice A k c) n (bv l)) : RdB w w.heap.size A l ∧ n = l.length := by
  have hn : n = l.length := by have := h.1; rw [bv_length] at this; omega
  refine ⟨?_, hn⟩
  rcases h.2 with ⟨h', h0⟩ | ⟨g, cap, cur, h', hb, hg, hnc, hcm, hcs, ht⟩
  · exact .inl (by omega)
  · injection h' with h1 h2 h3
    subst h1 h3
    refine .inr ⟨g, 0, rfl, (Array.getElem?_eq_some_iff.1 hg).1, fun i hi => ?_⟩
    have hc := h.cells (g := g) rfl i (.int .u8 (bAt l i)) (by unfold bv; rw [List.getElem?_map, List.getElem?_eq_getElem hi]; simp [bAt, hi])
    rw [Go.WideShapes.add_plain] at hc
    exact hc
theorem own_len {w : World} {base : Nat} {e : TypeId} {v : Value} {n : Nat} {l : List UInt8} (h : w.ownsRow base e 1 v n (bv l)) : ∃ A c, v = .slice A l.length c ∧ n = l.length ∧ (A = none → l.length = 0 ∧ c = 0) := by
  have hn : n = l.length := by have := h.1; rw [bv_length] at this; omega
  rcases h.2 with ⟨rfl, h0⟩ | ⟨g, cap, cur, rfl, _⟩
  · exact ⟨none, 0, by rw [← hn, h0], hn, fun _ => ⟨by omega, rfl⟩⟩
  · exact ⟨_, _, by rw [← hn], hn, fun h => by cases h⟩
/-- A new block of bytes, read. -/
theorem rdB_new (w : World) (cs : Array Value) (t : TypeId) (fr : Nat × Nat) (l : List UInt8) (h : cs.toList = bv l) : RdB (w.alloc (.cells cs t fr)) (w.heap.size + 1) (some ⟨w.heap.size, 0, none⟩) l := by
  refine .inr ⟨w.heap.size, 0, rfl, by omega, fun i hi => ?_⟩
  rw [Nat.zero_add, World.cell?_alloc_mark, ← Array.getElem?_toList, h]
  unfold bv
  rw [List.getElem?_map, List.getElem?_eq_getElem hi]
  simp [bAt, hi]
theorem rdB_nil (w : World) (B : Nat) (A : Option Addr) : RdB w B A [] := .inl rfl
theorem own_mono {w : World} {base base' : Nat} {e : TypeId} {size : Nat} {v : Value} {n : Nat} {xs : List Value} (h : w.ownsRow base' e size v n xs) (hb : base ≤ base') : w.ownsRow base e size v n xs := by
  refine ⟨h.1, ?_⟩
  rcases h.2 with h | ⟨g, cap, cur, hv, hg, r⟩
  · exact .inl h
  · exact .inr ⟨g, cap, cur, hv, by omega, r⟩
/-- What the call owns abides a call that turns nothing of what is. -/
theorem own_below {w w' : World} {base : Nat} {e : TypeId} {size : Nat} {v : Value} {n : Nat} {xs : List Value} (h : w.ownsRow base e size v n xs) (hb : Below w.heap.size w w') : w'.ownsRow base e size v n xs := by
  refine ⟨h.1, ?_⟩
  rcases h.2 with h | ⟨g, cap, cur, hv, hg, hh, r⟩
  · exact .inl h
  · exact .inr ⟨g, cap, cur, hv, hg, (hb.block g (Array.getElem?_eq_some_iff.1 hh).1).trans hh, r⟩
section
variable {P : Program} {t e : TypeId}
/-- 'append(v, src...)' of bytes. -/
theorem append_bytes (E : Elem P t e (.int .u8 0) 1 1) (w : World) (base : Nat) {v : Value} {n : Nat} {l : List UInt8} (hown : w.ownsRow base e 1 v n (bv l)) {B : Nat} {A : Option Addr} (m c : Nat) {r : List UInt8} (hr : RdB w B A r) (hm : m = r.length)
    (h63 : l.length + r.length ≤ 1000000000) (hbase : base ≤ w.heap.size) (hnil : A = none → r.length = 0) :
    ∃ A' c' w', (Builtin.append_ #[t, t] t #[v, .slice A m c]).run P w = .ok (.slice A' (l ++ r).length c') w' ∧ w'.ownsRow base e 1 (.slice A' (l ++ r).length c') (l ++ r).length (bv (l ++ r)) ∧ Below base w w' ∧
      w.grownBy w' v.ownBlock ∧ ((Value.slice A' (l ++ r).length c').ownBlock = v.ownBlock ∨ (Value.slice A' (l ++ r).length c').ownBlock = some w.heap.size) ∧ (A' = none → (l ++ r).length = 0) := by
  subst hm
  have hn : n = l.length := by have := hown.1; rw [bv_length] at this; omega
  obtain ⟨v', w', hrun, o, g, i, b⟩ := run_append (P := P) w base t E hown r.length c (by rw [Nat.mul_one]; exact hr) (fun i _ => rfl) (by unfold maxLen; omega) (by omega) hbase hnil
  rw [vals_bytes, ← bv_append] at o
  obtain ⟨A', c', rfl, hk, hz⟩ := own_len o
  rw [hk] at o
  exact ⟨A', c', w', hrun, o, below_append hown hbase g, g, b, fun h => (hz h).1⟩
/-- 'append(v, x, y, ..)' of bytes: these lie in a new block. -/
theorem append_lit (E : Elem P t e (.int .u8 0) 1 1) (w : World) (base : Nat) {v : Value} {n : Nat} {l : List UInt8} (hown : w.ownsRow base e 1 v n (bv l)) (cs : Array Value) (m : Nat) (r : List UInt8) (hcs : cs.toList = bv r) (hm : m = r.length)
    (h63 : l.length + r.length ≤ 1000000000) (hbase : base ≤ w.heap.size) :
    ∃ A' c' w', (Builtin.append_ #[t, t] t #[v, .slice (some ⟨w.heap.size, 0, none⟩) m m]).run P (w.alloc (.cells cs e)) = .ok (.slice A' (l ++ r).length c') w' ∧ w'.ownsRow base e 1 (.slice A' (l ++ r).length c') (l ++ r).length (bv (l ++ r)) ∧ Below base w w' ∧
      (w.alloc (.cells cs e)).grownBy w' v.ownBlock ∧ ((Value.slice A' (l ++ r).length c').ownBlock = v.ownBlock ∨ (Value.slice A' (l ++ r).length c').ownBlock = some (w.heap.size + 1)) ∧ (A' = none → (l ++ r).length = 0) := by
  obtain ⟨A', c', w', hrun, o, b, g, k, z⟩ := append_bytes E (w.alloc (.cells cs e)) base (hown.alloc _) m m (rdB_new w cs e (0, 0) r hcs) hm h63 (by simp; omega) (by simp)
  rw [World.size_alloc] at k
  exact ⟨A', c', w', hrun, o, ((Below.refl base w).alloc hbase _).trans b, g, k, z⟩
end
theorem own_some {w : World} {base : Nat} {e : TypeId} {A : Option Addr} {n c : Nat} {xs : List Value} (h : w.ownsRow base e 1 (.slice A n c) n xs) (hn : 0 < n) : ∃ g, A = some ⟨g, 0, none⟩ := by
  rcases h.2 with ⟨h, h0⟩ | ⟨g, cap, cur, h, _⟩
  · omega
  · injection h with h; exact ⟨g, h⟩
/-- 'string(b)', whatever b. -/
theorem run_string {P : Program} {src dst e : TypeId} {w : World} {B : Nat} {A : Option Addr} {l : List UInt8} (h : RdB w B A l) (c : Nat) (hn : A = none → l.length = 0)
    (hs : P.underlying src = some (.slice e)) (he : P.underlying e = some (.int .u8)) (hd : P.underlying dst = some .string) :
    (convert src dst (.slice A l.length c)).run P w = .ok (.string ⟨l.toArray⟩) w := by
  rcases A with _ | ad
  · have h0 := hn rfl
    have hl : l = [] := List.eq_nil_of_length_eq_zero h0
    subst hl
    exact run_convert_bytes_nil (P := P) (w := w) src e hs he 0 c dst hd
  · refine run_convert_bytes_back (P := P) w src dst e ad c l hs he hd (fun j hj => ?_)
    obtain ⟨b, off, e, _, hc⟩ := Rd.at_ h hj
    injection e with e
    subst e
    rw [Go.WideShapes.add_plain, hc]
    simp [bAt, hj]
end Go.Kw
