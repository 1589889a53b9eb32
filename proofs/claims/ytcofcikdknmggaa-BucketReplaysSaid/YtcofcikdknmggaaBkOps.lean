/-
  Steps that insert and delete need: copy and append within a block, append of zeros, clear. Whatever the program.
-/
import Derived.Test.YtcofcikdknmggaaEng
import Derived.Lib.AppendZerosOnto
namespace Go.Hp
open Go.RowKit
set_option linter.unusedVariables false
set_option linter.unusedSimpArgs false
section
variable {P : Program} {o : Oper} {Tm : Array Value} {ds : List Deferred} {w w0 : World} {K : Act → World → Prop} {Q : Exit → Act → World → Prop} {L : List HProp} {T : TypeId} {t u : Tmp}

theorem copy_run {dT sT ty elem : TypeId} (hu : P.underlying dT = some (.slice elem)) {size : Nat} (hsz : sizeT P elem = some size) {g off dLen dCap sLen sCap : Nat} {sp : Option Addr} {vs : List Value} {n : Nat} (hn : n = Nat.min sLen dLen) (hvl : vs.length = n * size)
    (hsrc : 0 < vs.length → ∃ ad, sp = some ad ∧ ∀ j v, vs[j]? = some v → w.cell? (ad.add j) = some v) (h1 : ∀ v ∈ vs, v.oneCell' = true)
    (H : At w0 L w) (i : Nat) {c : List Value} {t : TypeId} (hL : L[i]? = some (Blk g (.cells c.toArray t (0, 0)))) (hc : off + vs.length ≤ c.length) :
    ∃ w', (Builtin.copy_ #[dT, sT] ty #[.slice (some ⟨g, off, none⟩) dLen dCap, .slice sp sLen sCap]).run P w = .ok (goInt n) w' ∧ At w0 (L.set i (Blk g (.cells (splice c off vs).toArray t (0, 0)))) w' := by
  rcases run_copy_recs (P := P) (ty := ty) (dT := dT) (sT := sT) (dLen := dLen) (dCap := dCap) (sCap := sCap) hu hsz (H.get i hL) hn hvl hsrc (by simpa using hc) h1 with ⟨h0, hrun⟩ | ⟨h0, hrun⟩
  · exact ⟨w.setRow g (splice c off vs).toArray, by simpa [splice] using hrun, H.setAt i hL fun h => h.setRow0⟩
  · subst h0
    have e : L.set i (Blk g (.cells (splice c off []).toArray t (0, 0))) = L := by
      have e2 : splice c off [] = c := by simp [splice]
      rw [e2]
      apply List.ext_getElem?
      intro j
      rw [List.getElem?_set]
      split
      · rename_i h
        subst h
        rw [if_pos (List.getElem?_eq_some_iff.1 hL).1, hL]
      · rfl
    exact ⟨w, hrun, by rw [e]; exact H⟩

theorem op_copyR {dT sT elem : TypeId} (ho : o.op = .call { callee := .builtin .copy, args := #[.tmp t, .tmp u], argTypes := #[dT, sT] }) (hu : P.underlying dT = some (.slice elem)) {size : Nat} (hsz : sizeT P elem = some size)
    {g off dLen dCap sLen sCap : Nat} {sp : Option Addr} (hd : Tm[t]?.getD undef = .slice (some ⟨g, off, none⟩) dLen dCap) (hs : Tm[u]?.getD undef = .slice sp sLen sCap)
    (vs : List Value) (n : Nat) (hn : n = Nat.min sLen dLen) (hvl : vs.length = n * size) (hsrc : 0 < vs.length → ∃ ad, sp = some ad ∧ ∀ j v, vs[j]? = some v → w.cell? (ad.add j) = some v) (h1 : ∀ v ∈ vs, v.oneCell' = true)
    (H : At w0 L w) (i : Nat) {c : List Value} {ct : TypeId} (hL : L[i]? = some (Blk g (.cells c.toArray ct (0, 0)))) (hc : off + vs.length ≤ c.length)
    (h : ∀ w', At w0 (L.set i (Blk g (.cells (splice c off vs).toArray ct (0, 0)))) w' → K (Act.put ⟨Tm, ds⟩ o.dst (goInt n)) w') : o.wp P ⟨Tm, ds⟩ w K Q := by
  obtain ⟨w', hr, H'⟩ := copy_run (P := P) (ty := o.type) (dT := dT) (sT := sT) (dLen := dLen) (dCap := dCap) (sCap := sCap) hu hsz hn hvl hsrc h1 H i hL hc
  have hd' : Act.eval ⟨Tm, ds⟩ (.tmp t) = .slice (some ⟨g, off, none⟩) dLen dCap := by simpa [Act.eval] using hd
  have hs' : Act.eval ⟨Tm, ds⟩ (.tmp u) = .slice sp sLen sCap := by simpa [Act.eval] using hs
  exact op_value (v := goInt n) (w' := w') (by simp [execOp, ho, resolve, invoke, builtin, hd', hs', hr]) (h w' H')

/-- append where there is room, in a block. -/
theorem op_appendR {s e : TypeId} {size : Nat} (ho : o.op = .call { callee := .builtin .append, args := #[.tmp t, .tmp u], argTypes := #[s, s] }) (ht : P.underlying s = some (.slice e)) (hsz : sizeT P e = some size)
    {g m cap k c' : Nat} {sp : Option Addr} (hd : Tm[t]?.getD undef = .slice (some ⟨g, 0, none⟩) m cap) (hx : Tm[u]?.getD undef = .slice sp k c') (hroom : m + k ≤ cap)
    (vs : List Value) (hvl : vs.length = k * size) (hsrc : 0 < k → ∃ ad, sp = some ad ∧ ∀ j v, vs[j]? = some v → w.cell? (ad.add j) = some v) (h1 : ∀ v ∈ vs, v.oneCell' = true)
    (H : At w0 L w) (i : Nat) {c : List Value} (hL : L[i]? = some (Blk g (.cells c.toArray e (0, 0)))) (hc : m * size + vs.length ≤ c.length)
    (h : ∀ w', At w0 (L.set i (Blk g (.cells (splice c (m * size) vs).toArray e (0, 0)))) w' → K (Act.put ⟨Tm, ds⟩ o.dst (.slice (some ⟨g, 0, none⟩) (m + k) cap)) w') : o.wp P ⟨Tm, ds⟩ w K Q := by
  have hd' : Act.eval ⟨Tm, ds⟩ (.tmp t) = .slice (some ⟨g, 0, none⟩) m cap := by simpa [Act.eval] using hd
  have hs' : Act.eval ⟨Tm, ds⟩ (.tmp u) = .slice sp k c' := by simpa [Act.eval] using hx
  rcases Nat.eq_zero_or_pos k with h0 | h0
  · subst h0
    obtain rfl : vs = [] := List.eq_nil_of_length_eq_zero (by simpa using hvl)
    have e : L.set i (Blk g (.cells (splice c (m * size) []).toArray e (0, 0))) = L := by
      have e2 : splice c (m * size) [] = c := by simp [splice]
      rw [e2]
      apply List.ext_getElem?
      intro j
      rw [List.getElem?_set]
      split
      · rename_i h
        subst h
        rw [if_pos (List.getElem?_eq_some_iff.1 hL).1, hL]
      · rfl
    have hr := run_append_none (P := P) (w := w) (ty := o.type) ht hsz (.slice (some ⟨g, 0, none⟩) m cap) sp m cap c' _ rfl (by omega)
    exact op_value (v := .slice (some ⟨g, 0, none⟩) m cap) (w' := w) (by simp [execOp, ho, resolve, invoke, builtin, hd', hs', hr]) (h w (by rw [e]; exact H))
  · obtain ⟨ad, rfl, hv⟩ := hsrc h0
    unfold sizeT at hsz
    cases hi : P.info? e with
    | none => simp [hi] at hsz
    | some ti =>
      have his : ti.size = size := by simpa [hi] using hsz
      have hr := run_append_room (P := P) w s o.type e ti ht hi g m cap c.toArray (H.get i hL) ad k c' vs (by rw [his]; exact hvl) hv h1 hroom (by rw [his]; simpa using hc)
      rw [his] at hr
      exact op_value (v := .slice (some ⟨g, 0, none⟩) (m + k) cap) (w' := w.setRow g (splice c (m * size) vs).toArray) (by simp [execOp, ho, resolve, invoke, builtin, hd', hs', hr, splice]) (h _ (H.setAt i hL fun h => h.setRow0))

theorem op_slice3 {e : TypeId} {ad : Option Addr} {n cap k m size : Nat} {lo hi : Option Operand} (ho : o.op = .slice T (.tmp t) lo hi none) (hx : Tm[t]?.getD undef = .slice ad n cap)
    (hlo : (lo = none ∧ k = 0) ∨ ∃ u, lo = some (.tmp u) ∧ Tm[u]?.getD undef = .int .i64 k) (hhi : (hi = none ∧ m = n) ∨ ∃ u, hi = some (.tmp u) ∧ Tm[u]?.getD undef = .int .i64 m)
    (hT : P.underlying T = some (.slice e)) (hs : sizeT P e = some size) (hkm : k ≤ m) (hm : m ≤ cap)
    (h : K (Act.put ⟨Tm, ds⟩ o.dst (.slice (if cap = k then ad else ad.map (·.add (k * size))) (m - k) (cap - k))) w) : o.wp P ⟨Tm, ds⟩ w K Q := by
  have hx' : Act.eval ⟨Tm, ds⟩ (.tmp t) = .slice ad n cap := by simpa [Act.eval] using hx
  have hb : ∀ (y z : Nat) code, y ≤ z → (Instr.sliceBound (.int .i64 (y : Int)) z code).run P w = .ok y w := fun y z code hyz => by
    rw [run_sliceBound (w := w) (k := .i64) (i := (y : Int)) (y := z) (code := code) (by omega) (by omega)]
    rfl
  refine op_value (v := .slice (if cap = k then ad else ad.map (·.add (k * size))) (m - k) (cap - k)) (w' := w) ?_ h
  rcases hlo with ⟨rfl, rfl⟩ | ⟨u1, rfl, hu⟩ <;> rcases hhi with ⟨rfl, rfl⟩ | ⟨u2, rfl, hv⟩
  · simp [execOp, ho, hx', Instr.sliceAt, Instr.slice, run_underlying hT, Instr.sliceBounds, run_sizeOf hs]
  · have hv' : Act.eval ⟨Tm, ds⟩ (.tmp u2) = .int .i64 m := by simpa [Act.eval] using hv
    simp [execOp, ho, hx', hv', Instr.sliceAt, Instr.slice, run_underlying hT, Instr.sliceBounds, run_sizeOf hs, hb _ _ _ hm]
  · have hu' : Act.eval ⟨Tm, ds⟩ (.tmp u1) = .int .i64 k := by simpa [Act.eval] using hu
    simp [execOp, ho, hx', hu', Instr.sliceAt, Instr.slice, run_underlying hT, Instr.sliceBounds, run_sizeOf hs, hb _ _ _ hkm]
  · have hu' : Act.eval ⟨Tm, ds⟩ (.tmp u1) = .int .i64 k := by simpa [Act.eval] using hu
    have hv' : Act.eval ⟨Tm, ds⟩ (.tmp u2) = .int .i64 m := by simpa [Act.eval] using hv
    simp [execOp, ho, hx', hu', hv', Instr.sliceAt, Instr.slice, run_underlying hT, Instr.sliceBounds, run_sizeOf hs, hb _ _ _ hm, hb _ _ _ hkm]
end

section
variable {P : Program} {ops : Array Oper} {Q : Exit → Act → World → Prop} {a : Act} {w : World} {rest : List Oper} {o : Oper} {w0 : World} {L : List HProp}

/-- append(s, make(.., k)...), where there is no room: a new block, of which only what s held is told. -/
theorem st_appendZ (hw : Region.wanted o (yielded ops a.tmps) = true) (s x : Operand) (t tn : TypeId) (ho : o.op = .call { callee := .builtin .append, args := #[s, x], argTypes := #[t, tn] })
    (e : TypeId) (ht : P.underlying t = some (.slice e)) (htn : P.underlying tn = some (.int .i64)) (size : Nat) (hsz : sizeT P e = some size) (bytes : Nat) (hby : bytesT P e = some bytes) (z : Value) (hz : zeroT P e = some z) (hzs : z.cells.size = size) (hs0 : 0 < size)
    (ad : Option Addr) (m cap k : Nat) (ki : Int) (hs : a.eval s = .slice ad m cap) (hx : a.eval x = .int .i64 ki) (hki : ki = k) (olds : List Value) (hol : olds.length = m * size) (holds : 0 < m → ∃ b, ad = some b ∧ ∀ j v, olds[j]? = some v → w.cell? (b.add j) = some v)
    (hk : 0 < k) (hg : cap < m + k) (h63 : m + k ≤ maxLen) (hbytes : (m + k) * bytes ≤ 140737488355328) (H : At w0 L w)
    (h : ∀ g' cap' (cur : List Value) w', m + k ≤ cap' → cap' ≤ maxLen → cur.length = cap' * size → cur.take (m * size) = olds → At w0 (Blk g' (.cells cur.toArray e (0, 0)) :: L) w' →
      ∀ K : Act → World → Prop, (∀ a w, wpList P ops Q rest a w → K a w) → K (a.put o.dst (.slice (some ⟨g', 0, none⟩) (m + k) cap')) w') : wpList P ops Q (o :: rest) a w := by
  subst hki
  unfold bytesT at hby
  cases hi : P.info? e with
  | none => simp [hi] at hby
  | some i =>
    simp only [hi, Option.map_some, Option.some.injEq] at hby
    have his : i.size = size := by simpa [sizeT, hi] using hsz
    have hiz : i.zero = some z := by simpa [zeroT, hi] using hz
    subst hby
    simp only [maxLen] at h63
    have hold : (Builtin.firstCells i.size m (.slice ad m cap)).run P w.drew = .ok olds.toArray w.drew := by
      rw [his]
      rcases Nat.eq_zero_or_pos m with h0 | h0
      · subst h0
        obtain rfl : olds = [] := List.eq_nil_of_length_eq_zero (by simpa using hol)
        cases ad <;> simp [Builtin.firstCells, loadCells, loadCellsFrom]
      · obtain ⟨b, rfl, hb⟩ := holds h0
        exact run_firstCells_some w.drew size m b m cap olds hol hb
    have hsmall : k * i.bytes ≤ 281474976710656 := by
      have : k * i.bytes ≤ (m + k) * i.bytes := Nat.mul_le_mul_right _ (by omega)
      omega
    have hr := Lib.run_append_grow_zeros w t tn o.type e i z .i64 .i64 ht htn hi hiz ad m cap olds hold k hk (by omega) hg (by omega) hsmall (growslice_fits hg hbytes)
    have hge := grownCap_ge w (m + k) cap e
    refine st_value hw (v := .slice (some ⟨w.heap.size, 0, none⟩) (m + k) (grownCap w (m + k) cap e)) (w' := w.drew.alloc (.cells (olds.toArray ++ Builtin.zeroCells z.cells k ++ Builtin.zeroCells z.cells (grownCap w (m + k) cap e - (m + k))) e)) ?_
      (h _ _ (olds.toArray ++ Builtin.zeroCells z.cells k ++ Builtin.zeroCells z.cells (grownCap w (m + k) cap e - (m + k))).toList _ hge (grownCap_le_maxLen w (m + k) cap e (by simp only [maxLen]; omega)) ?_ ?_ ?_ _ fun _ _ h => h)
    · simp [execOp, ho, resolve, invoke, builtin, hs, hx, hr]
    · simp only [Array.length_toList, Array.size_append, List.size_toArray, size_zeroCells, hzs, hol, ← Nat.add_mul]
      congr 1
      omega
    · simp only [Array.toList_append, List.append_assoc]
      rw [← hol]
      exact List.take_left
    · have HA := At.alloc (w := w.drew) H.drew (.cells (olds.toArray ++ Builtin.zeroCells z.cells k ++ Builtin.zeroCells z.cells (grownCap w (m + k) cap e - (m + k))) e)
      rw [Array.toArray_toList]
      exact HA

/-- clear of a part of a block. -/
theorem st_clear (hw : Region.wanted o (yielded ops a.tmps) = true) (x : Operand) (t : TypeId) (ho : o.op = .call { callee := .builtin .clear, args := #[x], argTypes := #[t] })
    (e : TypeId) (ht : P.underlying t = some (.slice e)) (size : Nat) (z : Value) (hz : zeroT P e = some z) (hzs : z.cells.size = size) (hz1 : ∀ v ∈ z.cells.toList, v.oneCell' = true)
    (g off k cap : Nat) (hx : a.eval x = .slice (some ⟨g, off, none⟩) k cap) (hk : 0 < k)
    (H : At w0 L w) (i : Nat) {c : List Value} {ct : TypeId} (hL : L[i]? = some (Blk g (.cells c.toArray ct (0, 0)))) (hc : off + k * size ≤ c.length)
    (h : ∀ (zs : List Value) w', zs.length = k * size → At w0 (L.set i (Blk g (.cells (splice c off zs).toArray ct (0, 0)))) w' → ∀ K : Act → World → Prop, (∀ a w, wpList P ops Q rest a w → K a w) → K (a.put o.dst (.tuple #[])) w') : wpList P ops Q (o :: rest) a w := by
  have hzl : (Builtin.zeroCells z.cells k).toList.length = k * size := by rw [Array.length_toList, size_zeroCells, hzs]
  have hone : ∀ v ∈ (Builtin.zeroCells z.cells k).toList, v.oneCell' = true := by
    intro v hv
    unfold Builtin.zeroCells at hv
    simp only [Array.toList_map, List.mem_map] at hv
    obtain ⟨j, hj, rfl⟩ := hv
    have hj2 : j < k * z.cells.size := by simpa using hj
    have hpos : 0 < z.cells.size := by
      rcases Nat.eq_zero_or_pos z.cells.size with h0 | h0
      · rw [h0] at hj2; omega
      · exact h0
    have hm : j % z.cells.size < z.cells.size := Nat.mod_lt _ hpos
    rw [getElem!_pos z.cells _ hm]
    exact hz1 _ (Array.getElem_mem_toList hm)
  have hst := run_storeCells_at P g off ct (Builtin.zeroCells z.cells k).toList 0 c.toArray w (H.get i hL) (by rw [hzl]; simpa using hc) hone
  have hrun : (Builtin.clear_ #[t] o.type #[.slice (some ⟨g, off, none⟩) k cap]).run P w = .ok (.tuple #[]) (w.setRow g (splice c off (Builtin.zeroCells z.cells k).toList).toArray) := by
    cases k with
    | zero => omega
    | succ k => simp [Builtin.clear_, run_underlying ht, run_zeroValue hz, hst, splice]
  refine st_value hw (v := .tuple #[]) (w' := w.setRow g (splice c off (Builtin.zeroCells z.cells k).toList).toArray) ?_ (h _ _ hzl ?_ _ fun _ _ h => h)
  · simp [execOp, ho, resolve, invoke, builtin, hx, hrun]
  · exact H.setAt i hL fun h => h.setRow0
end
end Go.Hp
section
namespace Go.Hp
open Go.RowKit
variable {P : Program} {o : Oper} {Tm : Array Value} {ds : List Deferred} {w w0 : World} {K : Act → World → Prop} {Q : Exit → Act → World → Prop} {L : List HProp} {T : TypeId} {t u : Tmp}

/-- The cells of a record of a row of the call's own are written, in a region. -/
theorem op_ownPutT {e : TypeId} {size n cap : Nat} {b : Addr} {xs : List Value} {vs : Array Value} (off : Nat) (ho : o.op = .store T (.tmp t) (.tmp u)) (hx : Tm[t]?.getD undef = .pointer (some (b.add off))) (hy : Tm[u]?.getD undef = .agg vs)
    (hv : ∀ v ∈ vs.toList, v.oneCell' = true) (hn : sizeT P T = some vs.size) (H : At w0 (OwnRow e size (.slice (some b) n cap) n xs :: L) w) (hi : off + vs.size ≤ xs.length)
    (h : ∀ w', At w0 (OwnRow e size (.slice (some b) n cap) n (xs.take off ++ vs.toList ++ xs.drop (off + vs.size)) :: L) w' → K (Act.put ⟨Tm, ds⟩ o.dst undef) w') : o.wp P ⟨Tm, ds⟩ w K Q := by
  rcases own_cases H with ⟨h0, _⟩ | ⟨g, cap', cur, hv', r2, r3, r4, r5, r6, H2⟩
  · cases h0
  · cases hv'
    have hxl : xs.length ≤ cur.size := by rw [← r6]; simp; omega
    refine op_storesT (P := P) (g := g) (off := off) (c := cur) (vs := vs) (n := vs.size) ho (by rw [hx, add_off]) hy hv hn rfl H2 0 rfl (by omega) ?_
    intro w' H3
    refine h w' ?_
    refine own_mk H3 r2 r3 ?_ ?_ ?_
    · simp only [List.size_toArray, List.length_append, List.length_take, List.length_drop, Array.length_toList]
      omega
    · simp only [List.length_append, List.length_take, List.length_drop, Array.length_toList]
      omega
    · rw [← r5]
      have hm2 : xs.length ≤ cur.toList.length := by simpa using hxl
      have hk : vs.size = vs.toList.length := by simp
      rw [hk] at hi ⊢
      rw [take_patch _ _ _ _ hi hm2, r5, r6]
end Go.Hp
end
