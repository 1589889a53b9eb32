/-
  A region that draws its order, where each operation yields the same whatever the order, and what is told of the world stays. Whatever the program.
-/
import Derived.Test.YtbbkfneafonmiaaReg
namespace Go.Hp
open Go.RowKit

section
variable {P : Program} {ops : Array Oper} {Q : Exit → Act → World → Prop}

/-- What the slots of those that are waited for hold. -/
def know (ops : Array Oper) (vs : Nat → Value) (T : Array Value) : List Edge → Prop
  | [] => True
  | e :: es => (if Region.binds .any e = true then match dstAt ops e.on with
    | some t => T[t]?.getD undef = vs e.on
    | none => True
    else True) ∧ know ops vs T es

def outer (ops : Array Oper) (t : Nat) : Bool := ops.toList.all fun o => o.dst != some t

theorem know_of {vs : Nat → Value} {T : Array Value} : ∀ {l : List Edge}, (∀ e ∈ l, Region.binds .any e = true → ∀ t, dstAt ops e.on = some t → T[t]?.getD undef = vs e.on) → know ops vs T l
  | [], _ => trivial
  | e :: es, h => by
    refine ⟨?_, know_of fun e' he => h e' (by simp [he])⟩
    split
    · rename_i hb
      split
      · rename_i t ht
        exact h e (by simp) hb t ht
      · trivial
    · trivial

/-- One operation's share: what it yields, from what it waits for. -/
def RegOp (P : Program) (ops : Array Oper) (a : Act) (vs : Nat → Value) (J : World → Prop) (Q : Exit → Act → World → Prop) (i : Nat) (o : Oper) : Prop :=
  if runs o vs = true then ∀ (T : Array Value) (ds : List Deferred) (w : World) (K : Act → World → Prop), J w → know ops vs T o.after.toList → (∀ t, outer ops t = true → T[t]?.getD undef = a.tmps[t]?.getD undef) →
    (∀ w', J w' → K (Act.put ⟨T, ds⟩ o.dst (vs i)) w') → o.wp P ⟨T, ds⟩ w K Q
  else vs i = undef

def RegAll (P : Program) (ops : Array Oper) (a : Act) (vs : Nat → Value) (J : World → Prop) (Q : Exit → Act → World → Prop) : Nat → List Oper → Prop
  | _, [] => True
  | i, o :: l => RegOp P ops a vs J Q i o ∧ RegAll P ops a vs J Q (i + 1) l

theorem RegAll.get {a : Act} {vs : Nat → Value} {J : World → Prop} : ∀ {l : List Oper} {k i : Nat} {o : Oper}, RegAll P ops a vs J Q k l → l[i]? = some o → RegOp P ops a vs J Q (k + i) o
  | [], _, _, _, _, h => by simp at h
  | x :: l, k, 0, o, h, hi => by
    simp at hi
    subst hi
    exact h.1
  | x :: l, k, i + 1, o, h, hi => by
    have := RegAll.get (k := k + 1) (i := i) h.2 (by simpa using hi)
    rwa [show k + 1 + i = k + (i + 1) by omega] at this

theorem putAll_congr {val val' : Nat → Value} : ∀ (l : List Oper) (i : Nat) (a : Act), (∀ j, i ≤ j → j < i + l.length → val j = val' j) → putAll a val i l = putAll a val' i l
  | [], _, _, _ => rfl
  | o :: l, i, a, h => by
    rw [putAll, putAll, h i (Nat.le_refl _) (by simp), putAll_congr l (i + 1) _ (fun j h1 h2 => h j (by omega) (by simp at h2 ⊢; omega))]

theorem wp_region_const {id : Nat} {a : Act} {w : World} (vs : Nat → Value) (J : World → Prop) (hm : P.follows .mixedOrders = true) (hok : regOk ops a.tmps.size = true) (h0 : J w.drew)
    (step : RegAll P ops a vs J Q 0 ops.toList) (fin : ∀ w, J w → Q .normal (putAll a vs 0 ops.toList) w) : (Code.region id ops true).wp P Q a w := by
  refine wp_region_vals hm hok (fun E val w => J w ∧ ∀ j, E j = true → val j = vs j) ⟨h0, fun _ h => Bool.noConfusion h⟩ ?_ ?_
  · rintro E val a' w i o hi hE hdeps ⟨hJ, hv⟩ hdone hold
    have hop := RegAll.get step (by simpa using hi : ops.toList[i]? = some o)
    rw [Nat.zero_add] at hop
    have hilt : i < ops.size := (Array.getElem?_eq_some_iff.1 hi).1
    have hruns : runs o val = runs o vs := by
      unfold runs
      cases hg : o.guard with
      | none => rfl
      | some g =>
        obtain ⟨j, want⟩ := g
        obtain ⟨⟨e, he, hon, hb⟩, hs⟩ := (regOk_at hok hilt).2 o j want hi hg
        have hEj : E j = true := by rw [← hon]; exact hdeps e he hb
        simp only [hv j hEj]
    rw [hruns]
    unfold RegOp at hop
    have inval : ∀ j, (j == i || E j) = true → (if j = i then vs i else val j) = vs j := by
      intro j hj
      by_cases hji : j = i
      · subst hji; simp
      · rw [if_neg hji]
        exact hv j (by simpa [hji] using hj)
    split
    · rename_i hr
      rw [if_pos hr] at hop
      obtain ⟨T, ds⟩ := a'
      refine hop T ds w _ hJ (know_of fun e he hb t ht => ?_) (fun t ht => ?_) (fun w' hJ' => ⟨vs i, rfl, hJ', inval⟩)
      · have hEj := hdeps e (by simpa using he) hb
        have h1 := hdone e.on t ht hEj
        rw [hv _ hEj] at h1
        simpa [Act.eval] using h1
      · have h1 := hold t fun j hj => by
          unfold dstAt at hj
          cases ho : ops[j]? with
          | none => simp [ho] at hj
          | some o' =>
            simp [ho] at hj
            have := List.all_eq_true.1 ht o' (List.mem_of_getElem? (i := j) (by simpa using ho))
            simp [hj] at this
        simpa [Act.eval] using h1
    · rename_i hr
      rw [if_neg hr] at hop
      refine ⟨hJ, fun j hj => ?_⟩
      rw [← hop]
      exact inval j hj
  · rintro E val w hall ⟨hJ, hv⟩
    rw [putAll_congr (val' := vs) _ _ _ (fun j _ h2 => hv j (hall j (by simpa using h2)))]
    exact fin w hJ

section
variable {o : Oper} {a : Act} {w w0 : World} {L : List HProp} {K : Act → World → Prop}

theorem op_value {v : Value} {w' : World} (hr : (execOp a.eval o).run P w = .ok (.value v) w') (h : K (a.put o.dst v) w') : o.wp P a w K Q := by
  unfold Oper.wp
  rw [hr]
  exact h

theorem op_load (T : TypeId) (x : Operand) (ho : o.op = .load T x) (g off : Nat) (hx : a.eval x = .pointer (some ⟨g, off, none⟩))
    (hT : plainT P T = true) (H : At w0 L w) (i : Nat) {c : Array Value} {t : TypeId} {fr : Nat × Nat} (hL : L[i]? = some (Blk g (.cells c t fr))) {v : Value} (hc : c[off]? = some v)
    (h : K (a.put o.dst v) w) : o.wp P a w K Q := by
  refine op_value (v := v) (w' := w) ?_ h
  simp [execOp, ho, hx, Instr.loadAt, Instr.sureAddr, run_loadVar_cell hT (H.get i hL) hc]

theorem op_loads (T : TypeId) (x : Operand) (ho : o.op = .load T x) (g off : Nat) (hx : a.eval x = .pointer (some ⟨g, off, none⟩))
    (hT : aggT P T = true) (n : Nat) (hn : sizeT P T = some n) (H : At w0 L w) (i : Nat) {c : Array Value} {t : TypeId} {fr : Nat × Nat} (hL : L[i]? = some (Blk g (.cells c t fr))) (hc : off + n ≤ c.size)
    (h : K (a.put o.dst (.agg (c.extract off (off + n)))) w) : o.wp P a w K Q := by
  refine op_value (v := .agg (c.extract off (off + n))) (w' := w) ?_ h
  simp [execOp, ho, hx, Instr.loadAt, Instr.sureAddr, run_loadVar_agg hT hn (H.get i hL) hc]
end
end

section
variable {P : Program} {ops : Array Oper} {Q : Exit → Act → World → Prop} {a : Act} {w : World} {rest : List Oper} {o : Oper} {w0 : World} {L : List HProp}

/-- A slice's literal: a new block. -/
theorem st_lit (hw : Region.wanted o (yielded ops a.tmps) = true) (T : TypeId) (k : Nat) (ps : Array (Nat × Operand)) (_ : o.op = .buildSlice T k ps) (cs : Array Value) (e : TypeId) (n : Nat) (H : At w0 L w)
    (hr : (execOp a.eval o).run P w = .ok (.value (.slice (some ⟨w.heap.size, 0, none⟩) n n)) (w.alloc (.cells cs e)))
    (h : ∀ g w', At w0 (Blk g (.cells cs e (0, 0)) :: L) w' → ∀ K : Act → World → Prop, (∀ a w, wpList P ops Q rest a w → K a w) → K (a.put o.dst (.slice (some ⟨g, 0, none⟩) n n)) w') : wpList P ops Q (o :: rest) a w :=
  st_value hw hr (h _ _ (H.alloc _) _ fun _ _ h => h)
end
end Go.Hp
