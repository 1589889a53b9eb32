/-
  Rows that a call makes itself and appends to; arrays of bytes compared, and loaded out of the middle of a block. Whatever the program.
-/
import Derived.Test.YtbbkfneafonmiaaMem
namespace Go.Hp
open Go.RowKit
set_option linter.unusedSimpArgs false

def bytesT (P : Program) (T : TypeId) : Option Nat := (P.info? T).map (·.bytes)

/-- A row of the call's own: the slice's value v has n elements, whose cells are xs. -/
def OwnRow (e : TypeId) (size : Nat) (v : Value) (n : Nat) (xs : List Value) : HProp := fun h =>
  (v = .slice none 0 0 ∧ n = 0 ∧ xs = [] ∧ ∀ k, h k = none) ∨
  ∃ g cap cur, v = .slice (some ⟨g, 0, none⟩) n cap ∧ n ≤ cap ∧ cap ≤ maxLen ∧ cur.size = cap * size ∧ xs.length = n * size ∧ cur.toList.take (n * size) = xs ∧ Blk g (.cells cur e (0, 0)) h

section
variable {w0 w w' : World} {L : List HProp} {e : TypeId} {size : Nat} {v : Value} {n : Nat} {xs : List Value}

theorem own_cases (H : At w0 (OwnRow e size v n xs :: L) w) : (v = .slice none 0 0 ∧ n = 0 ∧ xs = [] ∧ At w0 L w) ∨
    ∃ g cap cur, v = .slice (some ⟨g, 0, none⟩) n cap ∧ n ≤ cap ∧ cap ≤ maxLen ∧ cur.size = cap * size ∧ xs.length = n * size ∧ cur.toList.take (n * size) = xs ∧ At w0 (Blk g (.cells cur e (0, 0)) :: L) w := by
  have HD := H.drop
  obtain ⟨h1, h2, h3, x, hs, a, b, hd, rfl, hA, hb⟩ := H
  rcases hA with ⟨r1, r2, r3, _⟩ | ⟨g, cap, cur, r1, r2, r3, r4, r5, r6, r7⟩
  · exact .inl ⟨r1, r2, r3, HD⟩
  · exact .inr ⟨g, cap, cur, r1, r2, r3, r4, r5, r6, h1, h2, h3, _, hs, a, b, hd, rfl, r7, hb⟩

theorem own_nil (H : At w0 L w) (e : TypeId) (size : Nat) : At w0 (OwnRow e size (.slice none 0 0) 0 [] :: L) w :=
  (At.fold (M := []) H).imp fun _ hh => .inl ⟨rfl, rfl, rfl, hh⟩

theorem own_mk {g cap : Nat} {cur : Array Value} (H : At w0 (Blk g (.cells cur e (0, 0)) :: L) w) (h1 : n ≤ cap) (h2 : cap ≤ maxLen) (h3 : cur.size = cap * size) (h4 : xs.length = n * size) (h5 : cur.toList.take (n * size) = xs) :
    At w0 (OwnRow e size (.slice (some ⟨g, 0, none⟩) n cap) n xs :: L) w := H.imp fun _ hh => .inr ⟨g, cap, cur, rfl, h1, h2, h3, h4, h5, hh⟩

theorem own_value (H : At w0 (OwnRow e size v n xs :: L) w) : ∃ ad cap, v = .slice ad n cap ∧ n ≤ cap ∧ cap ≤ maxLen ∧ xs.length = n * size ∧ (0 < n → ∃ b, ad = some b) ∧ (∀ b, ad = some b → ∀ j u, xs[j]? = some u → w.cell? (b.add j) = some u) := by
  rcases own_cases H with ⟨rfl, rfl, rfl, _⟩ | ⟨g, cap, cur, rfl, r2, r3, r4, r5, r6, H2⟩
  · exact ⟨none, 0, rfl, Nat.le_refl _, by simp [maxLen], by simp, fun h => absurd h (Nat.lt_irrefl _), fun b h => by cases h⟩
  · refine ⟨_, cap, rfl, r2, r3, r5, fun _ => ⟨_, rfl⟩, fun b hb j u hj => ?_⟩
    cases hb
    rw [Addr.add_lit, Nat.zero_add, cell_of_row w g j cur e _ H2.get0]
    rw [← r6, List.getElem?_take] at hj
    split at hj
    · simpa using hj
    · cases hj

theorem reads_own {l : List UInt8} : Reads (OwnRow e 1 v l.length (bv l)) v l := by
  intro w0 L w H
  rcases own_cases H with ⟨rfl, h0, _, _⟩ | ⟨g, cap, cur, rfl, r2, r3, r4, r5, r6, H2⟩
  · exact .inl ⟨rfl, List.eq_nil_of_length_eq_zero h0⟩
  · refine .inr ⟨_, cap, rfl, r2, r3, fun j u hj => ?_⟩
    rw [Addr.add_lit, Nat.zero_add, cell_of_row w g j cur e _ H2.get0]
    rw [← r6, List.getElem?_take] at hj
    split at hj
    · simpa using hj
    · cases hj

end

section
variable {P : Program} {ops : Array Oper} {Q : Exit → Act → World → Prop} {a : Act} {w : World} {rest : List Oper} {o : Oper} {w0 : World} {L : List HProp}

theorem run_append_none {t ty e : TypeId} {size : Nat} (ht : P.underlying t = some (.slice e)) (hs : sizeT P e = some size) (v : Value) (sp : Option Addr) (n cap c : Nat) (ad : Option Addr) (hv : v = .slice ad n cap) (hn : n ≤ cap) :
    (Builtin.append_ #[t, t] ty #[v, .slice sp 0 c]).run P w = .ok v w := by
  subst hv
  cases sp <;> cases ad <;> simp [Builtin.append_, run_underlying ht, run_sizeOf hs, Builtin.lenOf, Builtin.firstCells, hn, loadCells, loadCellsFrom, storeCells]

theorem run_append_at {t ty e : TypeId} (ht : P.underlying t = some (.slice e)) {size bytes : Nat} (hsz : sizeT P e = some size) (hby : bytesT P e = some bytes) {z : Value} (hz : zeroT P e = some z) (hzs : z.cells.size = size)
    {v : Value} {n : Nat} {xs : List Value} (H : At w0 (OwnRow e size v n xs :: L) w)
    (sp : Option Addr) (m c : Nat) (news : List Value) (hl : news.length = m * size) (hsp : 0 < m → ∃ ad, sp = some ad ∧ ∀ j u, news[j]? = some u → w.cell? (ad.add j) = some u)
    (h1 : ∀ u ∈ news, u.oneCell' = true) (h63 : n + m ≤ maxLen) (hbytes : (n + m) * bytes ≤ 140737488355328) :
    ∃ v' w', (Builtin.append_ #[t, t] ty #[v, .slice sp m c]).run P w = .ok v' w' ∧ At w0 (OwnRow e size v' (n + m) (xs ++ news) :: L) w' := by
  unfold bytesT at hby
  cases hi : P.info? e with
  | none => simp [hi] at hby
  | some i =>
    simp only [hi, Option.map_some, Option.some.injEq] at hby
    have his : i.size = size := by simpa [sizeT, hi] using hsz
    have hiz : i.zero = some z := by simpa [zeroT, hi] using hz
    have hsmall : n + m ≤ 9223372036854775807 := by have := h63; simp only [maxLen] at this; omega
    subst hby
    by_cases hm0 : m = 0
    · subst hm0
      obtain rfl : news = [] := List.eq_nil_of_length_eq_zero (by simpa using hl)
      obtain ⟨ad, cap, hv, hn, _⟩ := own_value H
      exact ⟨v, w, run_append_none (P := P) (w := w) ht hsz v sp n cap c ad hv hn, by simpa using H⟩
    · obtain ⟨ad, rfl, hnews⟩ := hsp (by omega)
      rcases own_cases H with ⟨rfl, rfl, rfl, HL⟩ | ⟨g, cap, cur, rfl, r2, r3, r4, r5, r6, H2⟩
      · have hr := run_append_nil (P := P) w t ty e i z ht hi hiz ad m c news (by rw [his]; exact hl) hnews (by omega) (by omega) (by have := hbytes; simp only [Nat.zero_add] at this; omega)
        refine ⟨_, _, hr, ?_⟩
        have hge := grownCap_ge w m 0 e
        have HA : At w0 (Blk w.heap.size (.cells (news.toArray ++ Builtin.zeroCells z.cells (grownCap w m 0 e - m)) e (0, 0)) :: L) (w.drew.alloc (.cells (news.toArray ++ Builtin.zeroCells z.cells (grownCap w m 0 e - m)) e)) := At.alloc (w := w.drew) HL.drew _
        rw [Nat.zero_add]
        refine own_mk HA hge (grownCap_le_maxLen w m 0 e (by omega)) ?_ (by simpa using hl) ?_
        · simp only [Array.size_append, List.size_toArray, size_zeroCells, hzs, hl, ← Nat.add_mul]
          congr 1
          omega
        · simp only [Array.toList_append, List.nil_append]
          rw [← hl]
          exact List.take_left
      · by_cases hroom : n + m ≤ cap
        · have hfit : n * i.size + news.length ≤ cur.size := by rw [hl, r4, his, ← Nat.add_mul]; exact Nat.mul_le_mul_right _ hroom
          have hr := run_append_room (P := P) w t ty e i ht hi g n cap cur H2.get0 ad m c news (by rw [his]; exact hl) hnews h1 hroom hfit
          rw [his] at hr hfit
          refine ⟨_, _, hr, ?_⟩
          refine own_mk H2.setRow0 hroom r3 ?_ (by rw [List.length_append, r5, hl, Nat.add_mul]) ?_
          · simp only [List.size_toArray, List.length_append, List.length_take, List.length_drop, Array.length_toList]
            omega
          · rw [r6]
            have : (n + m) * size = (xs ++ news).length := by rw [List.length_append, r5, hl, Nat.add_mul]
            rw [this]
            exact List.take_left
        · have holds : ∀ j u, xs[j]? = some u → w.cell? ((⟨g, 0, none⟩ : Addr).add j) = some u := by
            obtain ⟨ad', cap', hv, _, _, _, _, hc⟩ := own_value H
            cases hv
            exact hc _ rfl
          have hr := run_append_grow (P := P) w t ty e i z ht hi hiz ⟨g, 0, none⟩ n cap xs (by rw [his]; exact r5) holds ad m c news (by rw [his]; exact hl) hnews (by omega) (by omega) (growslice_fits (by omega) hbytes)
          refine ⟨_, _, hr, ?_⟩
          have hge := grownCap_ge w (n + m) cap e
          have HA := At.alloc (w := w.drew) H2.drop.drew (.cells (xs.toArray ++ news.toArray ++ Builtin.zeroCells z.cells (grownCap w (n + m) cap e - (n + m))) e)
          refine own_mk HA hge (grownCap_le_maxLen w (n + m) cap e h63) ?_ (by rw [List.length_append, r5, hl, Nat.add_mul]) ?_
          · simp only [Array.size_append, List.size_toArray, size_zeroCells, hzs, r5, hl, ← Nat.add_mul]
            congr 1
            omega
          · simp only [Array.toList_append, List.append_assoc]
            have : (n + m) * size = (xs ++ news).length := by rw [List.length_append, r5, hl, Nat.add_mul]
            rw [this, ← List.append_assoc]
            exact List.take_left

/-- append onto a row of the call's own. -/
theorem st_append (hw : Region.wanted o (yielded ops a.tmps) = true) (s x : Operand) (t : TypeId) (ho : o.op = .call { callee := .builtin .append, args := #[s, x], argTypes := #[t, t] })
    (e : TypeId) (ht : P.underlying t = some (.slice e)) (size : Nat) (hsz : sizeT P e = some size) (bytes : Nat) (hby : bytesT P e = some bytes) (z : Value) (hz : zeroT P e = some z) (hzs : z.cells.size = size)
    (v : Value) (n : Nat) (xs : List Value) (hs : a.eval s = v) (H : At w0 (OwnRow e size v n xs :: L) w)
    (sp : Option Addr) (m c : Nat) (news : List Value) (hx : a.eval x = .slice sp m c) (hl : news.length = m * size) (hsp : 0 < m → ∃ ad, sp = some ad ∧ ∀ j u, news[j]? = some u → w.cell? (ad.add j) = some u)
    (h1 : ∀ u ∈ news, u.oneCell' = true) (h63 : n + m ≤ maxLen) (hbytes : (n + m) * bytes ≤ 140737488355328)
    (h : ∀ v' w', At w0 (OwnRow e size v' (n + m) (xs ++ news) :: L) w' → ∀ K : Act → World → Prop, (∀ a w, wpList P ops Q rest a w → K a w) → K (a.put o.dst v') w') : wpList P ops Q (o :: rest) a w := by
  obtain ⟨v', w', hr, H'⟩ := run_append_at (P := P) (ty := o.type) ht hsz hby hz hzs H sp m c news hl hsp h1 h63 hbytes
  refine st_value hw (v := v') (w' := w') ?_ (h v' w' H' _ fun _ _ h => h)
  simp [execOp, ho, resolve, invoke, builtin, hs, hx, hr]

/-- A cell that is known by its address is read. -/
theorem st_load1 (hw : Region.wanted o (yielded ops a.tmps) = true) (T : TypeId) (x : Operand) (ho : o.op = .load T x) (p : Addr) (hx : a.eval x = .pointer (some p))
    (hT : plainT P T = true) {v : Value} (hc : w.cell? p = some v)
    (h : ∀ K : Act → World → Prop, (∀ a w, wpList P ops Q rest a w → K a w) → K (a.put o.dst v) w) : wpList P ops Q (o :: rest) a w := by
  refine st_value hw (v := v) (w' := w) ?_ (h _ fun _ _ h => h)
  simp [execOp, ho, hx, Instr.loadAt, Instr.sureAddr, loadVar, run_isAgg_plain hT, hc]

/-- Cells that are known by their address are read as one value. -/
theorem st_loadCells (hw : Region.wanted o (yielded ops a.tmps) = true) (T : TypeId) (x : Operand) (ho : o.op = .load T x) (ad : Addr) (hx : a.eval x = .pointer (some ad))
    (hT : aggT P T = true) (vs : List Value) (hn : sizeT P T = some vs.length) (hc : ∀ j u, vs[j]? = some u → w.cell? (ad.add j) = some u)
    (h : ∀ K : Act → World → Prop, (∀ a w, wpList P ops Q rest a w → K a w) → K (a.put o.dst (.agg vs.toArray)) w) : wpList P ops Q (o :: rest) a w := by
  refine st_value hw (v := .agg vs.toArray) (w' := w) ?_ (h _ fun _ _ h => h)
  have hl := run_loadCells_list (P := P) w ad vs hc
  simp [execOp, ho, hx, Instr.loadAt, Instr.sureAddr, loadVar, run_isAgg_agg hT, run_sizeOf hn, hl]

end

theorem madeCells_one (v : Value) (n : Nat) : madeCells #[v] n = (List.replicate n v).toArray := by
  apply Array.ext'
  apply List.ext_getElem?
  intro i
  simp only [madeCells, Array.toList_map, Array.toList_range, List.getElem?_map, List.getElem?_replicate]
  by_cases h : i < n
  · simp [h, Nat.mod_one]
  · simp [h, List.getElem?_eq_none]

/-- A row of bytes that is being filled. -/
def fillB (l : List UInt8) (k n : Nat) : List Value := bv (l.take k) ++ List.replicate (n - k) (.int .u8 0)

theorem fillB_zero (l : List UInt8) (n : Nat) : fillB l 0 n = List.replicate n (.int .u8 0) := by simp [fillB, bv]
theorem fillB_all (l : List UInt8) : fillB l l.length l.length = bv l := by simp [fillB]
theorem len_fillB {l : List UInt8} {k n : Nat} (h : k ≤ l.length) (h2 : k ≤ n) : (fillB l k n).length = n := by
  simp [fillB, Nat.min_eq_left h]; omega
theorem fillB_set {l : List UInt8} {k n : Nat} (h : k < l.length) (h2 : k < n) : (fillB l k n).set k (.int .u8 l[k].toNat) = fillB l (k + 1) n := by
  have hk : (bv (l.take k)).length = k := by simp; omega
  unfold fillB
  rw [List.set_append_right _ _ (by omega), hk, Nat.sub_self]
  have hn : n - k = (n - (k + 1)) + 1 := by omega
  rw [hn, List.replicate_succ, List.set_cons_zero, List.take_succ_eq_append_getElem h, bv_append, List.append_assoc]
  rfl

section
variable {P : Program} {w : World}

theorem run_part_byte {E : TypeId} (hE : plainT P E = true) (l : List UInt8) (i : Nat) (hi : i < l.length) : (part E (bv l).toArray i).run P w = .ok (.int .u8 l[i].toNat) w := by
  have hc : (bv l).toArray[i]? = some (.int .u8 l[i].toNat) := by simpa using bv_get l i hi
  simp [part, run_isAgg_plain hE, hc]

theorem run_equal_bytes {n : Nat} {T E : TypeId} (hT : P.underlying T = some (.array n E)) (hE : P.underlying E = some (.int .u8)) (hs : sizeT P E = some 1) (d : Nat) (l m : List UInt8) (hl : l.length = n) (hm : m.length = n) :
    (Op.equalIn (d + 2) T (.agg (bv l).toArray) (.agg (bv m).toArray)).run P w = .ok (decide (l = m)) w := by
  have hp : plainT P E = true := by simp [plainT, hE]
  have key : ∀ (k j : Nat), j + k = n → l.take j = m.take j →
      ((forIn (m := Sem) (List.range' j k) ((none, ()) : Option Bool × Unit) fun i _ => do
        let a ← part E (bv l).toArray (i * 1)
        let b ← part E (bv m).toArray (i * 1)
        let r ← Op.equalIn (d + 1) E a b
        if (!r) = true then pure (ForInStep.done (some false, ())) else pure (ForInStep.yield (none, ()))).run P w) = .ok (if l = m then (none, ()) else (some false, ())) w := by
    intro k
    induction k with
    | zero =>
      intro j hj ht
      have : l = m := by
        rw [List.take_of_length_le (by omega), List.take_of_length_le (by omega)] at ht
        exact ht
      simp [this]
    | succ k ih =>
      intro j hj ht
      have hjl : j < l.length := by omega
      have hjm : j < m.length := by omega
      simp only [List.range'_succ, List.forIn_cons, Sem.run_bind, Nat.mul_one, run_part_byte hp l j hjl, run_part_byte hp m j hjm, Result.andThen_ok, run_equalIn_int w d E .u8 .u8 _ _ hE]
      by_cases hv : l[j] = m[j]
      · have hb : ((l[j].toNat : Int) == (m[j].toNat : Int)) = true := by simp [hv]
        have ht2 : l.take (j + 1) = m.take (j + 1) := by
          rw [List.take_succ_eq_append_getElem hjl, List.take_succ_eq_append_getElem hjm, ht, hv]
        have := ih (j + 1) (by omega) ht2
        simp only [Nat.mul_one] at this
        simp only [hb, Bool.not_true, Bool.false_eq_true, if_false, Sem.run_pure, Result.andThen_ok]
        exact this
      · have hb : ((l[j].toNat : Int) == (m[j].toNat : Int)) = false := by
          simp only [beq_eq_false_iff_ne, ne_eq]
          intro hc
          exact hv (UInt8.toNat_inj.1 (by omega))
        have hne : ¬ l = m := by rintro rfl; exact hv rfl
        simp [hb, hne]
  have h0 := key n 0 (by omega) (by simp)
  rw [Op.equalIn]
  simp only [Sem.run_bind, run_underlying hT, Result.andThen_ok, run_sizeOf hs]
  rw [Std.Legacy.Range.forIn_eq_forIn_range']
  simp only [Std.Legacy.Range.size, Nat.sub_zero, Nat.add_sub_cancel, Nat.div_one]
  rw [h0]
  by_cases hlm : l = m <;> simp [hlm]

theorem run_neq_bytes {n : Nat} {T E : TypeId} (hT : P.underlying T = some (.array n E)) (hE : P.underlying E = some (.int .u8)) (hs : sizeT P E = some 1) (l m : List UInt8) (hl : l.length = n) (hm : m.length = n) :
    (binOp .neq T (.agg (bv l).toArray) (.agg (bv m).toArray)).run P w = .ok (.bool !(decide (l = m))) w := by
  have := run_equal_bytes (P := P) (w := w) hT hE hs 9998 l m hl hm
  simp only [binOp]
  simp [Op.equal, Op.maxDepth, this]

end
end Go.Hp
