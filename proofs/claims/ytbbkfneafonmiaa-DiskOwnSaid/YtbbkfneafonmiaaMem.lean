/-
  Steps of a walk over what is owned (Hp): each operation on memory turns 'At w0 L w' into 'At w0 L' w'', the world behind it a variable. Whatever the program.
-/
import Derived.Test.YtbbkfneafonmiaaHp
namespace Go.Hp
open Go.RowKit

/-- The bytes as values. -/
def bv (l : List UInt8) : List Value := l.map fun b => .int .u8 b.toNat
@[simp] theorem length_bv (l : List UInt8) : (bv l).length = l.length := by simp [bv]
theorem bv_get (l : List UInt8) (i : Nat) (h : i < l.length) : (bv l)[i]? = some (.int .u8 l[i].toNat) := by simp [bv, h]
theorem bv_one (l : List UInt8) : ∀ v ∈ bv l, v.oneCell' = true := by
  intro v hv
  obtain ⟨b, _, rfl⟩ := List.mem_map.1 hv
  rfl
theorem bv_append (l m : List UInt8) : bv (l ++ m) = bv l ++ bv m := by simp [bv]
theorem bv_inj {l m : List UInt8} (h : bv l = bv m) : l = m := by
  induction l generalizing m with
  | nil => cases m <;> simp_all [bv]
  | cons a l ih =>
    cases m with
    | nil => simp [bv] at h
    | cons b m =>
      simp only [bv, List.map_cons, List.cons.injEq, Value.int.injEq, true_and] at h
      rw [ih (by simpa [bv] using h.2)]
      have : a.toNat = b.toNat := by omega
      rw [UInt8.toNat_inj.1 this]

/-- A type of one cell. -/
def plainT (P : Program) (T : TypeId) : Bool := match P.underlying T with
  | none | some (.struct _) | some (.array _ _) => false
  | _ => true
def aggT (P : Program) (T : TypeId) : Bool := match P.underlying T with
  | some (.struct _) | some (.array _ _) => true
  | _ => false
def sizeT (P : Program) (T : TypeId) : Option Nat := (P.info? T).map (·.size)
def zeroT (P : Program) (T : TypeId) : Option Value := (P.info? T).bind (·.zero)

section
variable {P : Program} {w w' : World}

theorem run_isAgg_plain {T : TypeId} (h : plainT P T = true) : (isAgg T).run P w = .ok false w := by
  unfold plainT at h
  cases hu : P.underlying T with
  | none => simp [hu] at h
  | some d =>
    simp only [isAgg, Sem.run_bind, run_underlying hu, Result.andThen_ok]
    cases d <;> simp_all
theorem run_isAgg_agg {T : TypeId} (h : aggT P T = true) : (isAgg T).run P w = .ok true w := by
  unfold aggT at h
  cases hu : P.underlying T with
  | none => simp [hu] at h
  | some d =>
    simp only [isAgg, Sem.run_bind, run_underlying hu, Result.andThen_ok]
    cases d <;> simp_all
theorem run_sizeOf {T : TypeId} {n : Nat} (h : sizeT P T = some n) : (sizeOf T).run P w = .ok n w := by
  unfold sizeT at h
  cases hi : P.info? T with
  | none => simp [hi] at h
  | some i => simp [hi] at h; simp [sizeOf, typeInfo, hi, h]
theorem run_zeroValue {T : TypeId} {z : Value} (h : zeroT P T = some z) : (zeroValue T).run P w = .ok z w := by
  unfold zeroT at h
  cases hi : P.info? T with
  | none => simp [hi] at h
  | some i => simp [hi] at h; simp [zeroValue, typeInfo, hi, h]

theorem run_loadVar_cell {T : TypeId} {g off : Nat} {c : Array Value} {t : TypeId} {fr : Nat × Nat} {v : Value} (hT : plainT P T = true)
    (hg : w.heap[g]? = some (.cells c t fr)) (hc : c[off]? = some v) : (loadVar T ⟨g, off, none⟩).run P w = .ok v w := by
  simp [loadVar, run_isAgg_plain hT, cell_of_row w g off c t fr hg, hc]

theorem run_loadVar_agg {T : TypeId} {g off n : Nat} {c : Array Value} {t : TypeId} {fr : Nat × Nat} (hT : aggT P T = true) (hn : sizeT P T = some n)
    (hg : w.heap[g]? = some (.cells c t fr)) (hc : off + n ≤ c.size) : (loadVar T ⟨g, off, none⟩).run P w = .ok (.agg (c.extract off (off + n))) w := by
  have hl : (loadCells ⟨g, off, none⟩ (c.extract off (off + n)).toList.length).run P w = .ok (c.extract off (off + n)).toList.toArray w :=
    run_loadCells_list (P := P) w _ _ (fun j v hj => by
      rw [Addr.add_lit, cell_of_row w g (off + j) c t fr hg]
      simp only [Array.getElem?_toList, Array.getElem?_extract] at hj
      split at hj
      · exact hj
      · simp at hj)
  have hs : (c.extract off (off + n)).toList.length = n := by simp; omega
  rw [hs, Array.toArray_toList] at hl
  simp only [loadVar, Sem.run_bind, run_isAgg_agg hT, run_sizeOf hn, hl, Result.andThen_ok, if_true, Sem.run_pure]

theorem run_storeVar_cell {T : TypeId} {g off : Nat} {c : Array Value} {t : TypeId} {v : Value} (hn : sizeT P T = some 1) (hv : v.oneCell' = true)
    (hg : w.heap[g]? = some (.cells c t (0, 0))) (hc : off < c.size) : (storeVar T ⟨g, off, none⟩ v).run P w = .ok () (w.setCell ⟨g, off, none⟩ v) := by
  have hcs : v.cells = #[v] := by cases v <;> first | rfl | simp [Value.oneCell'] at hv
  have hcell : w.cell? ⟨g, off, none⟩ = some c[off] := by rw [cell_of_row w g off c t _ hg]; simp [hc]
  have hst : (store ⟨g, off, none⟩ v).run P w = .ok () (w.setCell ⟨g, off, none⟩ v) := by
    rw [run_store P w _ v _ hv, hcell]
    simp [frozen_of_row w g off c t hg]
  simp [storeVar, run_sizeOf hn, hcs, storeCells, Addr.add_zero', hst]

theorem run_storeVar_agg {T : TypeId} {g off : Nat} {c vs : Array Value} {t : TypeId} (hn : sizeT P T = some vs.size) (hv : ∀ v ∈ vs.toList, v.oneCell' = true)
    (hg : w.heap[g]? = some (.cells c t (0, 0))) (hc : off + vs.size ≤ c.size) :
    (storeVar T ⟨g, off, none⟩ (.agg vs)).run P w = .ok () (w.setRow g (c.toList.take off ++ vs.toList ++ c.toList.drop (off + vs.size)).toArray) := by
  have := run_storeCells_at P g off t vs.toList 0 c w hg (by simpa using hc) hv
  simp only [Nat.add_zero, Array.length_toList] at this
  simp [storeVar, run_sizeOf hn, Value.cells, this]

end

section
variable {P : Program} {ops : Array Oper} {Q : Exit → Act → World → Prop} {a : Act} {w : World} {rest : List Oper} {o : Oper} {w0 : World} {L : List HProp}

theorem st_value (hw : Region.wanted o (yielded ops a.tmps) = true) {v : Value} {w' : World} (hr : (execOp a.eval o).run P w = .ok (.value v) w')
    (h : wpList P ops Q rest (a.put o.dst v) w') : wpList P ops Q (o :: rest) a w := by
  unfold wpList
  rw [if_pos hw]
  refine .inl ?_
  unfold Oper.wp
  rw [hr]
  exact h

theorem st_skip (hw : Region.wanted o (yielded ops a.tmps) = true) {w' : World} (hr : (execOp a.eval o).run P w = .ok .skip w')
    (h : wpList P ops Q rest (a.put o.dst undef) w') : wpList P ops Q (o :: rest) a w := by
  unfold wpList
  rw [if_pos hw]
  refine .inl ?_
  unfold Oper.wp
  rw [hr]
  exact h

/-- A cell is read. -/
theorem st_load (hw : Region.wanted o (yielded ops a.tmps) = true) (T : TypeId) (x : Operand) (ho : o.op = .load T x) (g off : Nat) (hx : a.eval x = .pointer (some ⟨g, off, none⟩))
    (hT : plainT P T = true) (H : At w0 L w) (i : Nat) {c : Array Value} {t : TypeId} {fr : Nat × Nat} (hL : L[i]? = some (Blk g (.cells c t fr))) {v : Value} (hc : c[off]? = some v)
    (h : ∀ K : Act → World → Prop, (∀ a w, wpList P ops Q rest a w → K a w) → K (a.put o.dst v) w) : wpList P ops Q (o :: rest) a w := by
  refine st_value hw (v := v) (w' := w) ?_ (h _ fun _ _ h => h)
  simp [execOp, ho, hx, Instr.loadAt, Instr.sureAddr, run_loadVar_cell hT (H.get i hL) hc]

/-- Several cells are read. -/
theorem st_loads (hw : Region.wanted o (yielded ops a.tmps) = true) (T : TypeId) (x : Operand) (ho : o.op = .load T x) (g off : Nat) (hx : a.eval x = .pointer (some ⟨g, off, none⟩))
    (hT : aggT P T = true) (n : Nat) (hn : sizeT P T = some n) (H : At w0 L w) (i : Nat) {c : Array Value} {t : TypeId} {fr : Nat × Nat} (hL : L[i]? = some (Blk g (.cells c t fr))) (hc : off + n ≤ c.size)
    (h : ∀ K : Act → World → Prop, (∀ a w, wpList P ops Q rest a w → K a w) → K (a.put o.dst (.agg (c.extract off (off + n)))) w) : wpList P ops Q (o :: rest) a w := by
  refine st_value hw (v := .agg (c.extract off (off + n))) (w' := w) ?_ (h _ fun _ _ h => h)
  simp [execOp, ho, hx, Instr.loadAt, Instr.sureAddr, run_loadVar_agg hT hn (H.get i hL) hc]

/-- A whole block is read. -/
theorem st_row (hw : Region.wanted o (yielded ops a.tmps) = true) (T : TypeId) (x : Operand) (ho : o.op = .load T x) (g : Nat) (hx : a.eval x = .pointer (some ⟨g, 0, none⟩))
    (hT : aggT P T = true) (n : Nat) (hn : sizeT P T = some n) (H : At w0 L w) (i : Nat) {c : Array Value} {t : TypeId} {fr : Nat × Nat} (hL : L[i]? = some (Blk g (.cells c t fr))) (hc : c.size = n)
    (h : ∀ K : Act → World → Prop, (∀ a w, wpList P ops Q rest a w → K a w) → K (a.put o.dst (.agg c)) w) : wpList P ops Q (o :: rest) a w := by
  refine st_loads hw T x ho g 0 hx hT n hn H i hL (by omega) ?_
  have e : c.extract 0 (0 + n) = c := by rw [Nat.zero_add, ← hc, Array.extract_size]
  rw [e]
  exact h

/-- A cell is written. -/
theorem st_store (hw : Region.wanted o (yielded ops a.tmps) = true) (T : TypeId) (x y : Operand) (ho : o.op = .store T x y) (g off : Nat) (hx : a.eval x = .pointer (some ⟨g, off, none⟩))
    (v : Value) (hy : a.eval y = v) (hv : v.oneCell' = true) (hn : sizeT P T = some 1) (H : At w0 L w) (i : Nat) {c : Array Value} {t : TypeId} (hL : L[i]? = some (Blk g (.cells c t (0, 0)))) (hc : off < c.size)
    (h : ∀ w', At w0 (L.set i (Blk g (.cells (c.setIfInBounds off v) t (0, 0)))) w' → ∀ K : Act → World → Prop, (∀ a w, wpList P ops Q rest a w → K a w) → K (a.put o.dst undef) w') : wpList P ops Q (o :: rest) a w := by
  refine st_skip hw (w' := w.setCell ⟨g, off, none⟩ v) ?_ (h _ ?_ _ fun _ _ h => h)
  · simp [execOp, ho, hx, hy, Instr.storeAt, Instr.sureAddr, run_storeVar_cell hn hv (H.get i hL) hc]
  · have h1 := (H.pick i hL).set0 (i := off) v
    have hi : i < L.length := by
      rcases Nat.lt_or_ge i L.length with h | h
      · exact h
      · simp [List.getElem?_eq_none h] at hL
    exact h1.perm (List.Perm.symm (set_perm L i hi _))
where
  set_perm (L : List HProp) (i : Nat) (hi : i < L.length) (A : HProp) : (L.set i A).Perm (A :: L.eraseIdx i) := by
    have h := perm_pick (L.set i A) i (A := A) (by simp [hi])
    rwa [List.eraseIdx_set_eq] at h

/-- The place i of a list, written anew. -/
theorem At.setAt {A B : HProp} {w' : World} (H : At w0 L w) (i : Nat) (hL : L[i]? = some A) (h : At w0 (A :: L.eraseIdx i) w → At w0 (B :: L.eraseIdx i) w') : At w0 (L.set i B) w' := by
  have hi : i < L.length := by
    rcases Nat.lt_or_ge i L.length with h | h
    · exact h
    · simp [List.getElem?_eq_none h] at hL
  exact (h (H.pick i hL)).perm (List.Perm.symm (st_store.set_perm L i hi B))

/-- A whole block is written. -/
theorem st_put (hw : Region.wanted o (yielded ops a.tmps) = true) (T : TypeId) (x y : Operand) (ho : o.op = .store T x y) (g : Nat) (hx : a.eval x = .pointer (some ⟨g, 0, none⟩))
    (vs : Array Value) (hy : a.eval y = .agg vs) (hv : ∀ v ∈ vs.toList, v.oneCell' = true) (hn : sizeT P T = some vs.size) (H : At w0 L w) (i : Nat) {c : Array Value} {t : TypeId} (hL : L[i]? = some (Blk g (.cells c t (0, 0)))) (hc : vs.size = c.size)
    (h : ∀ w', At w0 (L.set i (Blk g (.cells vs t (0, 0)))) w' → ∀ K : Act → World → Prop, (∀ a w, wpList P ops Q rest a w → K a w) → K (a.put o.dst undef) w') : wpList P ops Q (o :: rest) a w := by
  have hr := run_storeVar_agg (P := P) (T := T) (off := 0) hn hv (H.get i hL) (by omega)
  have he : (c.toList.take 0 ++ vs.toList ++ c.toList.drop (0 + vs.size)).toArray = vs := by
    have e2 : c.toList.drop (0 + vs.size) = [] := List.drop_eq_nil_of_le (by simp [hc])
    rw [e2]
    simp
  rw [he] at hr
  refine st_skip hw (w' := w.setRow g vs) ?_ (h _ ?_ _ fun _ _ h => h)
  · simp [execOp, ho, hx, hy, Instr.storeAt, Instr.sureAddr, hr]
  · exact H.setAt i hL fun h => h.setRow0

/-- Several cells are written. -/
theorem st_stores (hw : Region.wanted o (yielded ops a.tmps) = true) (T : TypeId) (x y : Operand) (ho : o.op = .store T x y) (g off : Nat) (hx : a.eval x = .pointer (some ⟨g, off, none⟩))
    (vs : Array Value) (hy : a.eval y = .agg vs) (hv : ∀ v ∈ vs.toList, v.oneCell' = true) (hn : sizeT P T = some vs.size) (H : At w0 L w) (i : Nat) {c : Array Value} {t : TypeId} (hL : L[i]? = some (Blk g (.cells c t (0, 0)))) (hc : off + vs.size ≤ c.size)
    (h : ∀ w', At w0 (L.set i (Blk g (.cells (c.toList.take off ++ vs.toList ++ c.toList.drop (off + vs.size)).toArray t (0, 0)))) w' → ∀ K : Act → World → Prop, (∀ a w, wpList P ops Q rest a w → K a w) → K (a.put o.dst undef) w') :
    wpList P ops Q (o :: rest) a w := by
  have hr := run_storeVar_agg (P := P) (T := T) hn hv (H.get i hL) hc
  refine st_skip hw (w' := w.setRow g (c.toList.take off ++ vs.toList ++ c.toList.drop (off + vs.size)).toArray) ?_ (h _ ?_ _ fun _ _ h => h)
  · simp only [execOp, ho, hx, hy, Instr.storeAt, Instr.sureAddr, hr, Sem.run_bind, Sem.run_pure, Result.andThen_ok]
  · exact H.setAt i hL fun h => h.setRow0

/-- A new variable, zero. -/
theorem st_alloc (hw : Region.wanted o (yielded ops a.tmps) = true) (T : TypeId) (ho : o.op = .alloc T) (z : Value) (hz : zeroT P T = some z) (cs : Array Value) (hcs : z.cells = cs) (H : At w0 L w)
    (h : ∀ g w', At w0 (Blk g (.cells cs T (0, 0)) :: L) w' → ∀ K : Act → World → Prop, (∀ a w, wpList P ops Q rest a w → K a w) → K (a.put o.dst (.pointer (some ⟨g, 0, none⟩))) w') : wpList P ops Q (o :: rest) a w := by
  subst hcs
  refine st_value hw (v := .pointer (some ⟨w.heap.size, 0, none⟩)) (w' := w.alloc (.cells z.cells T)) ?_ (h _ _ (H.alloc _) _ fun _ _ h => h)
  simp [execOp, ho, Instr.alloc, run_zeroValue hz, newVar, newRow]

/-- A new variable that holds a value. -/
theorem st_box (hw : Region.wanted o (yielded ops a.tmps) = true) (T : TypeId) (x : Operand) (ho : o.op = .box T x) (v : Value) (hx : a.eval x = v) (H : At w0 L w)
    (h : ∀ g w', At w0 (Blk g (.cells v.cells T (0, 0)) :: L) w' → ∀ K : Act → World → Prop, (∀ a w, wpList P ops Q rest a w → K a w) → K (a.put o.dst (.pointer (some ⟨g, 0, none⟩))) w') : wpList P ops Q (o :: rest) a w := by
  refine st_value hw (v := .pointer (some ⟨w.heap.size, 0, none⟩)) (w' := w.alloc (.cells v.cells T)) ?_ (h _ _ (H.alloc _) _ fun _ _ h => h)
  simp [execOp, ho, hx, Instr.box, newVar, newRow]

/-- make of a map. -/
theorem st_makeMap (hw : Region.wanted o (yielded ops a.tmps) = true) (T : TypeId) (ho : o.op = .makeMap T none) (H : At w0 L w)
    (h : ∀ g w', At w0 (Blk g (.map #[] 0) :: L) w' → ∀ K : Act → World → Prop, (∀ a w, wpList P ops Q rest a w → K a w) → K (a.put o.dst (.map (some g))) w') : wpList P ops Q (o :: rest) a w := by
  refine st_value hw (v := .map (some w.heap.size)) (w' := w.alloc (.map #[] 0)) ?_ (h _ _ (H.alloc _) _ fun _ _ h => h)
  simp [execOp, ho, Instr.makeMap]

/-- make of a slice. -/
theorem st_make (hw : Region.wanted o (yielded ops a.tmps) = true) (T : TypeId) (x y : Operand) (ho : o.op = .makeSlice T x y) (kl kc : IntKind) (l c : Int) (hx : a.eval x = .int kl l) (hy : a.eval y = .int kc c)
    (e : TypeId) (ht : P.underlying T = some (.slice e)) (bytes : Nat) (hb : (P.info? e).map (·.bytes) = some bytes) (size : Nat) (hs : sizeT P e = some size) (z : Value) (hz : zeroT P e = some z)
    (h0 : 0 ≤ l) (hlc : l ≤ c) (hbytes : (bytes : Int) * c ≤ 281474976710656) (h63 : c ≤ 9223372036854775807) (H : At w0 L w)
    (h : ∀ g w', At w0 (Blk g (.cells (madeCells z.cells (c.toNat * size)) e (0, 0)) :: L) w' → ∀ K : Act → World → Prop, (∀ a w, wpList P ops Q rest a w → K a w) → K (a.put o.dst (.slice (some ⟨g, 0, none⟩) l.toNat c.toNat)) w') :
    wpList P ops Q (o :: rest) a w := by
  unfold zeroT at hz
  unfold sizeT at hs
  cases hi : P.info? e with
  | none => simp [hi] at hs
  | some i =>
    simp [hi] at hb hs hz
    subst hb hs
    have hr := run_make (P := P) w T e i z ht hi hz kl kc l c h0 hlc hbytes h63
    refine st_value hw (v := .slice (some ⟨w.heap.size, 0, none⟩) l.toNat c.toNat) (w' := w.alloc (.cells (madeCells z.cells (c.toNat * i.size)) e)) ?_ (h _ _ (H.alloc _) _ fun _ _ h => h)
    simp [execOp, ho, hx, hy, hr]

/-- copy, into a block that is owned: 'vs': what goes over. -/
theorem st_copy (hw : Region.wanted o (yielded ops a.tmps) = true) (d s : Operand) (dT sT : TypeId) (ho : o.op = .call { callee := .builtin .copy, args := #[d, s], argTypes := #[dT, sT] })
    (elem : TypeId) (hu : P.underlying dT = some (.slice elem)) (hsz : sizeT P elem = some 1)
    (g off dLen dCap sLen sCap : Nat) (sp : Option Addr) (hd : a.eval d = .slice (some ⟨g, off, none⟩) dLen dCap) (hs : a.eval s = .slice sp sLen sCap)
    (vs : List Value) (hn : vs.length = Nat.min sLen dLen) (hsrc : 0 < vs.length → ∃ ad, sp = some ad ∧ ∀ j v, vs[j]? = some v → w.cell? (ad.add j) = some v) (h1 : ∀ v ∈ vs, v.oneCell' = true)
    (H : At w0 L w) (i : Nat) {c : List Value} {t : TypeId} (hL : L[i]? = some (Blk g (.cells c.toArray t (0, 0)))) (hc : off + vs.length ≤ c.length)
    (h : ∀ w', At w0 (L.set i (Blk g (.cells (splice c off vs).toArray t (0, 0)))) w' → ∀ K : Act → World → Prop, (∀ a w, wpList P ops Q rest a w → K a w) → K (a.put o.dst (goInt vs.length)) w') :
    wpList P ops Q (o :: rest) a w := by
  by_cases h0 : vs.length = 0
  · obtain rfl : vs = [] := List.eq_nil_of_length_eq_zero h0
    have hrun := run_copy_none (P := P) w dT sT o.type elem (some ⟨g, off, none⟩) sp dLen dCap sLen sCap hu hsz (by simpa using hn.symm)
    refine st_value hw (v := goInt 0) (w' := w) ?_ (h w ?_ _ fun _ _ h => h)
    · simp [execOp, ho, resolve, invoke, builtin, hd, hs, hrun]
    · refine H.setAt i hL fun h => ?_
      simpa [splice] using h
  · obtain ⟨ad, rfl, hsr⟩ := hsrc (by omega)
    have hrun := run_copy_row (P := P) w dT sT o.type elem g off dLen dCap ad sLen sCap c.toArray t vs hu hsz (H.get i hL) hn hsr (by simpa using hc) h1
    refine st_value hw (v := goInt vs.length) (w' := w.setRow g (splice c off vs).toArray) ?_ (h _ ?_ _ fun _ _ h => h)
    · simp [execOp, ho, resolve, invoke, builtin, hd, hs, hrun, splice]
    · exact H.setAt i hL fun h => h.setRow0

/-- One result, which lies in memory. -/
theorem results_cell {fn : Func} {p : Tmp} {ty : TypeId} (h : fn.results = #[.cell p ty]) {tmps : Array Value} {w : World} {g : Nat} {t : TypeId} {cs : Array Value} {fr : Nat × Nat} {n : Nat}
    (hp : tmps.getD p undef = .pointer (some ⟨g, 0, none⟩)) (hT : aggT P ty = true) (hn : sizeT P ty = some n) (hg : w.heap[g]? = some (.cells cs t fr)) (hc : cs.size = n) :
    (results fn tmps).run P w = .ok (.agg cs) w := by
  have hr := run_loadVar_agg (P := P) (off := 0) hT hn hg (by omega)
  have e : cs.extract 0 (0 + n) = cs := by rw [Nat.zero_add, ← hc, Array.extract_size]
  rw [e] at hr
  have hp' : tmps[p]?.getD undef = .pointer (some ⟨g, 0, none⟩) := by simpa using hp
  simp [results, h, hp', asAddr, hr]

end

/-- What a slice of bytes reads as. -/
def BytesAt (w : World) (v : Value) (l : List UInt8) : Prop :=
  (v = .slice none 0 0 ∧ l = []) ∨ ∃ (ad : Addr) (cap : Nat), v = .slice (some ad) l.length cap ∧ l.length ≤ cap ∧ cap ≤ maxLen ∧ ∀ j v, (bv l)[j]? = some v → w.cell? (ad.add j) = some v

/-- Where the first of the list is there, a slice of bytes reads so. -/
def Reads (B : HProp) (v : Value) (l : List UInt8) : Prop := ∀ w0 L w, At w0 (B :: L) w → BytesAt w v l

theorem BytesAt.len {w : World} {v : Value} {l : List UInt8} (h : BytesAt w v l) : ∃ ad cap, v = .slice ad l.length cap ∧ l.length ≤ cap ∧ cap ≤ maxLen ∧ (0 < l.length → ∃ b, ad = some b ∧ ∀ j v, (bv l)[j]? = some v → w.cell? (b.add j) = some v) := by
  rcases h with ⟨rfl, rfl⟩ | ⟨ad, cap, rfl, h1, h2, h3⟩
  · exact ⟨none, 0, rfl, Nat.le_refl _, by simp [maxLen], fun h => by simp at h⟩
  · exact ⟨some ad, cap, rfl, h1, h2, fun _ => ⟨ad, rfl, h3⟩⟩

theorem BytesAt.cells {w : World} {ad : Addr} {n cap : Nat} {l : List UInt8} (h : BytesAt w (.slice (some ad) n cap) l) : ∀ j v, (bv l)[j]? = some v → w.cell? (ad.add j) = some v := by
  rcases h with ⟨h, _⟩ | ⟨ad', cap', h, h1, h2, h3⟩
  · cases h
  · cases h; exact h3

theorem bv_take {l : List UInt8} {k j : Nat} {v : Value} (h : (bv (l.take k))[j]? = some v) : (bv l)[j]? = some v := by
  unfold bv at h ⊢
  rw [List.map_take, List.getElem?_take] at h
  split at h
  · exact h
  · cases h

theorem BytesAt.same {w w' : World} {v : Value} {l : List UInt8} (h : BytesAt w v l) (hb : ∀ k, k < w.heap.size → w'.heap[k]? = w.heap[k]?) : BytesAt w' v l := by
  rcases h with ⟨rfl, rfl⟩ | ⟨ad, cap, rfl, h1, h2, h3⟩
  · exact .inl ⟨rfl, rfl⟩
  · refine .inr ⟨ad, cap, rfl, h1, h2, fun j v hj => ?_⟩
    have h4 := h3 j v hj
    have hlt := World.block_lt_of_cell? w _ h4
    rw [World.cell?_of_block (hb _ hlt)]
    exact h4

/-- A block of bytes, from 'off' on. -/
theorem reads_blk {g off : Nat} {c : Array Value} {t : TypeId} {fr : Nat × Nat} {l : List UInt8} {cap : Nat} (h : ∀ j v, (bv l)[j]? = some v → c[off + j]? = some v) (h1 : l.length ≤ cap) (h2 : cap ≤ maxLen) :
    Reads (Blk g (.cells c t fr)) (.slice (some ⟨g, off, none⟩) l.length cap) l := by
  intro w0 L w H
  refine .inr ⟨_, cap, rfl, h1, h2, fun j v hj => ?_⟩
  rw [Addr.add_lit, cell_of_row w g (off + j) c t fr H.get0]
  exact h j v hj

theorem reads_arg {W : World} {v : Value} {l : List UInt8} (h : BytesAt W v l) : Reads (Arg W) v l := by
  intro w0 L w H
  exact h.same fun k hk => H.old0 hk

theorem Reads.at_ {B : HProp} {v : Value} {l : List UInt8} (h : Reads B v l) {w0 w : World} {L : List HProp} (H : At w0 L w) (i : Nat) (hL : L[i]? = some B) : BytesAt w v l := h _ _ _ (H.pick i hL)

/-- string(b). -/
theorem run_bytes_string {P : Program} {w : World} {v : Value} {l : List UInt8} (h : BytesAt w v l) (src dst e : TypeId) (hs : P.underlying src = some (.slice e)) (he : P.underlying e = some (.int .u8)) (hd : P.underlying dst = some .string) :
    (convert src dst v).run P w = .ok (.string ⟨l.toArray⟩) w := by
  rcases h with ⟨rfl, rfl⟩ | ⟨ad, cap, rfl, h1, h2, h3⟩
  · rw [run_convert_bytes_string w src dst e none 0 0 hs he hd]
    rfl
  · rw [run_convert_bytes_string w src dst e _ _ _ hs he hd]
    have hl := run_loadCells_list (P := P) w ad (bv l) h3
    have hb : bv l = (l.map fun b => (b.toNat : Int)).map (Value.int .u8) := by simp [bv]
    rw [length_bv, hb] at hl
    rw [run_bytesToString w ad l.length cap _ hl, foldl_push_bytes]
    have e1 : ∀ l : List UInt8, (List.map (fun b => (b.toNat : Int)) l).map (fun n => UInt8.ofNat n.toNat) = l := by
      intro l
      induction l with
      | nil => rfl
      | cons b l ih => simp only [List.map_cons, ih, Int.toNat_natCast, UInt8.ofNat_toNat]
    rw [e1]
    have e2 : ByteArray.empty.data = #[] := rfl
    rw [e2, Array.empty_append]

end Go.Hp
