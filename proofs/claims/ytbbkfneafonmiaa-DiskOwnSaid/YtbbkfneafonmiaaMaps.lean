/-
  Maps whose keys are ints, whatever their elements: what a look-up tells, what a store does. Whatever the program.
-/
import Derived.Test.YtbbkfneafonmiaaMem
namespace Go.Hp
open Go.RowKit
set_option linter.unusedSimpArgs false

def keyIs (n : Int) (e : MapEntry) : Bool := match e.key with | .int _ m => n == m | _ => false

/-- A map's entries tell f. -/
def IMap (es : Array MapEntry) (f : Int → Option Value) : Prop :=
  (∀ e ∈ es.toList, ∃ n, e.key = .int .i64 n) ∧ ∀ n, f n = (es.toList.find? (keyIs n)).map (·.val)

theorem IMap.empty : IMap #[] (fun _ => none) := ⟨fun e h => by simp at h, fun n => by simp⟩

theorem findNow_int (n : Int) : ∀ (l : List MapEntry) (i : Nat), (∀ e ∈ l, ∃ m, e.key = .int .i64 m) →
    (l.find? (keyIs n) = none ∧ Instr.findNow (.int .i64) (.int .i64 n) l i = some none) ∨
    ∃ m e, l[m]? = some e ∧ l.find? (keyIs n) = some e ∧ keyIs n e = true ∧ (∀ j e', j < m → l[j]? = some e' → keyIs n e' = false) ∧ Instr.findNow (.int .i64) (.int .i64 n) l i = some (some (i + m, e.val))
  | [], i, _ => .inl ⟨rfl, rfl⟩
  | e :: l, i, h => by
    obtain ⟨m, hm⟩ := h e (by simp)
    by_cases hn : n = m
    · subst hn
      refine .inr ⟨0, e, rfl, ?_, ?_, ?_, ?_⟩
      · simp [List.find?, keyIs, hm]
      · simp [keyIs, hm]
      · intro j e' hj; omega
      · simp [Instr.findNow, Instr.sameNow, hm]
    · have hk : keyIs n e = false := by simp [keyIs, hm, hn]
      have hs : Instr.findNow (.int .i64) (.int .i64 n) (e :: l) i = Instr.findNow (.int .i64) (.int .i64 n) l (i + 1) := by
        have : (n == m) = false := by simp [hn]
        simp [Instr.findNow, Instr.sameNow, hm, this]
      rcases findNow_int n l (i + 1) (fun e' he' => h e' (by simp [he'])) with ⟨h1, h2⟩ | ⟨q, x, h1, h2, h3, h4, h5⟩
      · exact .inl ⟨by simp [List.find?, hk, h1], by rw [hs, h2]⟩
      · refine .inr ⟨q + 1, x, by simpa using h1, by simp [List.find?, hk, h2], h3, ?_, by rw [hs, h5]; simp; omega⟩
        intro j e' hj he'
        cases j with
        | zero => simp at he'; subst he'; exact hk
        | succ j => exact h4 j e' (by omega) (by simpa using he')

section
variable {P : Program} {w : World} {T K E : TypeId} {mb ck : Nat} {es : Array MapEntry} {f : Int → Option Value}

theorem run_checkKey_int {b : Bool} {n : Nat} {k : IntKind} {x : Int} (hK : P.underlying K = some (.int .i64)) : (Instr.checkKey b (n + 1) K (.int k x)).run P w = .ok () w := by
  simp [Instr.checkKey, run_underlying hK]

theorem run_getObj_map (hg : w.heap[mb]? = some (.map es ck)) : (getObj mb).run P w = .ok (.map es ck) w := by
  simp [getObj, Sem.run, hg]

theorem run_lookup_int (hT : P.underlying T = some (.map K E)) (hK : P.underlying K = some (.int .i64)) {z : Value} (hz : zeroT P E = some z)
    (hg : w.heap[mb]? = some (.map es ck)) (he : IMap es f) (n : Int) (ok : Bool) :
    (Instr.lookup T (.map (some mb)) (.int .i64 n) ok).run P w = .ok (if ok then .tuple #[(f n).getD z, .bool (f n).isSome] else (f n).getD z) w := by
  have hf := he.2 n
  rcases findNow_int n es.toList 0 he.1 with ⟨h1, h2⟩ | ⟨q, x, h1, h2, h3, h4, h5⟩
  · rw [h1] at hf
    simp [Instr.lookup, run_underlying hT, run_getObj_map hg, run_checkKey_int hK, Instr.findKey, run_underlying hK, h2, run_zeroValue hz, hf]
  · rw [h2] at hf
    simp [Instr.lookup, run_underlying hT, run_getObj_map hg, run_checkKey_int hK, Instr.findKey, run_underlying hK, h5, hf]

theorem run_keyThatStays_int (n : Int) : (Instr.keyThatStays (.int .i64 n) (.int .i64 n)).run P w = .ok (.int .i64 n) w := by
  simp [Instr.keyThatStays, Instr.sameBits]

/-- A store into the map: the world behind it, its entries, and what they tell. -/
theorem run_mapUpdate_int (hT : P.underlying T = some (.map K E)) (hK : P.underlying K = some (.int .i64))
    (hg : w.heap[mb]? = some (.map es ck)) (he : IMap es f) (n : Int) (v : Value) :
    ∃ es' ck', (Instr.mapUpdate T (.map (some mb)) (.int .i64 n) v).run P w = .ok () { w with heap := w.heap.setIfInBounds mb (.map es' ck') } ∧
      IMap es' (fun m => if m = n then some v else f m) := by
  rcases findNow_int n es.toList 0 he.1 with ⟨h1, h2⟩ | ⟨q, x, h1, h2, h3, h4, h5⟩
  · refine ⟨es.push { key := .int .i64 n, val := v, born := ck }, ck + 1, ?_, ?_, ?_⟩
    · simp [Instr.mapUpdate, run_underlying hT, run_getObj_map hg, run_checkKey_int hK, Instr.findKey, run_underlying hK, h2, setObj, Sem.run, hg]
    · intro e hm
      simp at hm
      rcases hm with hm | rfl
      · exact he.1 e (by simpa using hm)
      · exact ⟨n, rfl⟩
    · intro m
      simp only [Array.toList_push, List.find?_append]
      by_cases hmn : m = n
      · subst hmn
        simp [h1, keyIs]
      · have hk : keyIs m { key := .int .i64 n, val := v, born := ck } = false := by simp [keyIs, hmn]
        rw [if_neg hmn, he.2 m]
        simp [hk]
  · have hx : x.key = .int .i64 n := by
      obtain ⟨m, hm⟩ := he.1 x (List.mem_of_getElem? h1)
      simp [keyIs, hm] at h3
      rw [hm, h3]
    have hq : q < es.size := by
      rcases Nat.lt_or_ge q es.size with h | h
      · exact h
      · simp [List.getElem?_eq_none (show es.toList.length ≤ q by simpa using h)] at h1
    have hx2 : es[q]? = some x := by simpa using h1
    refine ⟨es.modify q fun e => { e with key := .int .i64 n, val := v }, ck, ?_, ?_, ?_⟩
    · simp [Instr.mapUpdate, run_underlying hT, run_getObj_map hg, run_checkKey_int hK, Instr.findKey, run_underlying hK, h5, hx2, hx, run_keyThatStays_int, setObj, Sem.run, hg]
    · intro e hm
      obtain ⟨j, hj⟩ := List.getElem?_of_mem hm
      rw [Array.getElem?_toList, Array.getElem?_modify] at hj
      split at hj
      · cases hy : es[j]? with
        | none => simp [hy] at hj
        | some y => simp [hy] at hj; subst hj; exact ⟨n, rfl⟩
      · exact he.1 e (List.mem_of_getElem? (by simpa using hj))
    · intro m
      have key : ∀ (l : List MapEntry) (q : Nat) (x : MapEntry), l[q]? = some x → x.key = .int .i64 n → (∀ j e', j < q → l[j]? = some e' → keyIs n e' = false) →
          ((l.set q { x with key := .int .i64 n, val := v }).find? (keyIs m)).map (·.val) = if m = n then some v else (l.find? (keyIs m)).map (·.val) := by
        intro l
        induction l with
        | nil => intro q x h; simp at h
        | cons y l ih =>
          intro q x hq hxk hbef
          cases q with
          | zero =>
            simp at hq
            subst hq
            by_cases hmn : m = n
            · subst hmn
              simp [List.find?, keyIs]
            · have e1 : keyIs m { y with key := .int .i64 n, val := v } = false := by simp [keyIs, hmn]
              have e2 : keyIs m y = false := by simp [keyIs, hxk, hmn]
              simp [List.find?, e1, e2, hmn]
          | succ q =>
            have hb0 := hbef 0 y (by omega) rfl
            have := ih q x (by simpa using hq) hxk (fun j e' hj he' => hbef (j + 1) e' (by omega) (by simpa using he'))
            simp only [List.set_cons_succ, List.find?]
            by_cases hmn : m = n
            · subst hmn
              simp only [hb0]
              simpa using this
            · cases hkm : keyIs m y with
              | true => simp [hmn]
              | false => simpa using this
      have := key es.toList q x h1 hx h4
      show (if m = n then some v else f m) = _
      rw [he.2 m, ← this]
      have e : (es.modify q fun e => { e with key := .int .i64 n, val := v }).toList = es.toList.set q { x with key := .int .i64 n, val := v } := by
        apply List.ext_getElem?
        intro j
        rw [Array.getElem?_toList, Array.getElem?_modify, List.getElem?_set]
        by_cases hjq : q = j
        · subst hjq
          have hb : es[q] = x := by simpa [hq] using hx2
          simp [hq, hb]
        · simp [hjq]
      rw [e]

end

section
variable {P : Program} {ops : Array Oper} {Q : Exit → Act → World → Prop} {a : Act} {w : World} {rest : List Oper} {o : Oper} {w0 : World} {L : List HProp}

theorem st_lookup (hw : Region.wanted o (yielded ops a.tmps) = true) (T : TypeId) (x y : Operand) (ok : Bool) (ho : o.op = .lookup T x y ok) (mb : Nat) (hx : a.eval x = .map (some mb)) (n : Int) (hy : a.eval y = .int .i64 n)
    (K E : TypeId) (hT : P.underlying T = some (.map K E)) (hK : P.underlying K = some (.int .i64)) (z : Value) (hz : zeroT P E = some z)
    (H : At w0 L w) (i : Nat) {es : Array MapEntry} {ck : Nat} (hL : L[i]? = some (Blk mb (.map es ck))) (f : Int → Option Value) (he : IMap es f)
    (h : ∀ K : Act → World → Prop, (∀ a w, wpList P ops Q rest a w → K a w) → K (a.put o.dst (if ok then .tuple #[(f n).getD z, .bool (f n).isSome] else (f n).getD z)) w) : wpList P ops Q (o :: rest) a w := by
  refine st_value hw (w' := w) ?_ (h _ fun _ _ h => h)
  simp [execOp, ho, hx, hy, run_lookup_int hT hK hz (H.get i hL) he]

theorem st_mapUpdate (hw : Region.wanted o (yielded ops a.tmps) = true) (T : TypeId) (x y v : Operand) (ho : o.op = .mapUpdate T x y v) (mb : Nat) (hx : a.eval x = .map (some mb)) (n : Int) (hy : a.eval y = .int .i64 n)
    (u : Value) (hv : a.eval v = u)
    (K E : TypeId) (hT : P.underlying T = some (.map K E)) (hK : P.underlying K = some (.int .i64))
    (H : At w0 L w) (i : Nat) {es : Array MapEntry} {ck : Nat} (hL : L[i]? = some (Blk mb (.map es ck))) (f : Int → Option Value) (he : IMap es f)
    (h : ∀ es' ck' w', At w0 (L.set i (Blk mb (.map es' ck'))) w' → IMap es' (fun m => if m = n then some u else f m) → ∀ K : Act → World → Prop, (∀ a w, wpList P ops Q rest a w → K a w) → K (a.put o.dst undef) w') :
    wpList P ops Q (o :: rest) a w := by
  obtain ⟨es', ck', hr, he'⟩ := run_mapUpdate_int (P := P) hT hK (H.get i hL) he n u
  refine st_skip hw (w' := _) ?_ (h es' ck' _ (H.setAt i hL fun h => h.setObj0) he' _ fun _ _ h => h)
  simp [execOp, ho, hx, hy, hv, hr]

end
end Go.Hp
