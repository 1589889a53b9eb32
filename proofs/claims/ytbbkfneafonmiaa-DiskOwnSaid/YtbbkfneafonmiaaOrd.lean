/-
  A region that draws its order, by an invariant over what has been done: whatever the program.
-/
import Derived.Test.YtbbkfneafonmiaaMem
import Derived.Orders
import Derived.StillTailTactics
namespace Go.Hp
open Go.RowKit

/-- Every operation waits for earlier ones alone. -/
def depsOk (ops : Array Oper) : Bool := ops.toList.zipIdx.all fun (o, i) => o.after.all fun e => !Region.binds .any e || decide (e.on < i)

theorem depsOk_at {ops : Array Oper} (h : depsOk ops = true) {i : Nat} {o : Oper} (hi : ops[i]? = some o) : ∀ e ∈ o.after, Region.binds .any e = true → e.on < i := by
  intro e he hb
  unfold depsOk at h
  rw [List.all_eq_true] at h
  have hm : (o, i) ∈ ops.toList.zipIdx := by
    rw [List.mem_zipIdx_iff_getElem?]
    simpa using hi
  have h1 := h _ hm
  simp only [Array.all_eq_true'] at h1
  have h2 := h1 e he
  simpa [hb] using h2

section
variable {P : Program} {ops : Array Oper} {Q : Exit → Act → World → Prop}

/-- How many are not listed. -/
def left (l : Array Bool) : Nat := l.toList.count false

theorem left_set {l : Array Bool} {i : Nat} (h : l.getD i true = false) : left (l.setIfInBounds i true) + 1 = left l := by
  have hi : i < l.size := by
    rcases Nat.lt_or_ge i l.size with h' | h'
    · exact h'
    · simp [Array.getElem?_eq_none h'] at h
  have hv : l.toList[i]? = some false := by
    simp [hi] at h ⊢
    exact h
  unfold left
  rw [Array.toList_setIfInBounds]
  generalize l.toList = L at hv
  clear h hi
  induction L generalizing i with
  | nil => simp at hv
  | cons b L ih =>
    cases i with
    | zero =>
      simp at hv
      subst hv
      simp
    | succ i =>
      have := ih (i := i) (by simpa using hv)
      cases b <;> simp <;> omega

theorem left_zero {l : Array Bool} (h : left l = 0) (j : Nat) (hj : j < l.size) : l.getD j false = true := by
  unfold left at h
  rw [List.count_eq_zero] at h
  cases hv : l.getD j false with
  | true => rfl
  | false =>
    exfalso
    refine h ?_
    have : l[j]? = some false := by simp [hj] at hv ⊢; exact hv
    exact List.mem_of_getElem? (l := l.toList) (i := j) (by simpa using this)

theorem wp_region_inv {id : Nat} {a : Act} {w : World} (hm : P.follows .mixedOrders = true) (hok : depsOk ops = true) (I : (Nat → Bool) → Act → World → Prop) (h0 : I (fun _ => false) a w.drew)
    (step : ∀ (E : Nat → Bool) (a : Act) (w : World) (i : Nat) (o : Oper), ops[i]? = some o → E i = false → (∀ e ∈ o.after, Region.binds .any e = true → E e.on = true) → I E a w →
      if Region.wanted o (yielded ops a.tmps) = true then o.wp P a w (I fun j => j == i || E j) Q else I (fun j => j == i || E j) (a.put o.dst undef) w)
    (fin : ∀ (E : Nat → Bool) (a : Act) (w : World), (∀ j, j < ops.size → E j = true) → I E a w → Q .normal a w) : (Code.region id ops true).wp P Q a w := by
  refine wp_region_any hm ?_
  have main : ∀ (fuel : Nat) (listed : Array Bool) (a : Act) (w : World), listed.size = ops.size → left listed = fuel → I (fun j => listed.getD j false) a w → wpAny P .any ops Q fuel listed a w := by
    intro fuel
    induction fuel with
    | zero =>
      intro listed a w hs hl hI
      have hall := left_zero hl
      refine ⟨?_, fin _ a w (fun j hj => hall j (by omega)) hI⟩
      cases hr : Region.ready .any ops listed with
      | nil => rfl
      | cons i r =>
        exfalso
        have hi : i ∈ Region.ready .any ops listed := by rw [hr]; simp
        obtain ⟨h1, o, h2, _⟩ := mem_ready.1 hi
        have hlt : i < listed.size := by rw [hs]; exact (Array.getElem?_eq_some_iff.1 h2).1
        have h3 := hall i hlt
        simp [hlt] at h1 h3
        rw [h1] at h3
        cases h3
    | succ fuel ih =>
      intro listed a w hs hl hI
      refine ⟨fun hr => ?_, fun i hi => ?_⟩
      · refine fin _ a w (fun j hj => ?_) hI
        have key : ∀ n j, j ≤ n → j < ops.size → listed.getD j false = true := by
          intro n
          induction n with
          | zero =>
            intro j hjn hj
            obtain rfl : j = 0 := by omega
            cases hv : listed.getD 0 false with
            | true => rfl
            | false =>
              exfalso
              have hin : 0 ∈ Region.ready .any ops listed := by
                refine mem_ready.2 ⟨getD_in (by omega) hv, ops[0], by simp [hj], fun e he hb => ?_⟩
                have := depsOk_at hok (i := 0) (o := ops[0]) (by simp [hj]) e he hb
                omega
              rw [hr] at hin
              cases hin
          | succ n ihn =>
            intro j hjn hj
            cases hv : listed.getD j false with
            | true => rfl
            | false =>
              exfalso
              have hin : j ∈ Region.ready .any ops listed := by
                refine mem_ready.2 ⟨getD_in (by omega) hv, ops[j], by simp [hj], fun e he hb => ?_⟩
                have := depsOk_at hok (i := j) (o := ops[j]) (by simp [hj]) e he hb
                exact ihn e.on (by omega) (by omega)
              rw [hr] at hin
              cases hin
        exact key j j (Nat.le_refl _) hj
      · obtain ⟨h1, o, h2, h3⟩ := mem_ready.1 hi
        have hlt : i < listed.size := by rw [hs]; exact (Array.getElem?_eq_some_iff.1 h2).1
        have hst := step _ a w i o h2 (getD_both h1) (fun e he hb => h3 e he hb) hI
        have hE : (fun j => j == i || listed.getD j false) = fun j => (listed.setIfInBounds i true).getD j false := by
          funext j
          by_cases hji : j = i
          · subst hji
            simp [hlt]
          · have : (j == i) = false := by simp [hji]
            rw [this, Bool.false_or, getD_set_ne false (fun e => hji e.symm)]
        rw [hE] at hst
        unfold wpOp
        rw [h2]
        dsimp only
        have hnext : ∀ a w, I (fun j => (listed.setIfInBounds i true).getD j false) a w → wpAny P .any ops Q fuel (listed.setIfInBounds i true) a w := fun a w h =>
          ih _ a w (by simp [hs]) (by have := left_set h1; omega) h
        split
        · rename_i hw
          rw [if_pos hw] at hst
          exact .inl (Oper.wp_mono hnext hst)
        · rename_i hw
          rw [if_neg hw] at hst
          exact hnext _ _ hst
  refine main _ _ a _ (by simp) ?_ ?_
  · simp [left]
  · have : (fun j => (Array.replicate ops.size false).getD j false) = fun _ => false := by
      funext j
      exact getD_replicate_false _ _
    rw [this]
    exact h0

/-- A region whose operations but the last ones read: those in the text's order, the world behind the draw a variable. -/
theorem wp_region_tail_at {id : Nat} {a : Act} {w w0 : World} {L : List HProp} {l : List Oper} (n : Nat) (hm : P.follows .mixedOrders = true) (hB : Region.lexTailB .any l.toArray n = true) (H : At w0 L w)
    (h : ∀ w', At w0 L w' → wpStill P l.toArray w' (fun a' => wpList P l.toArray Q (l.drop n) a' w') (l.take n) a) : (Code.region id l.toArray true).wp P Q a w :=
  wp_region_still_tail n hm hB (h { w with drawn := w.drawn + 1 } H)

section
variable {w w0 : World} {L : List HProp} {a : Act} {o : Oper} {rest : List Oper} {R : Act → Prop}

theorem sl_value (hw : Region.wanted o (yielded ops a.tmps) = true) {v : Value} (hr : (execOp a.eval o).run P w = .ok (.value v) w)
    (h : ∀ K : Act → Prop, (∀ a, wpStill P ops w R rest a → K a) → K (a.put o.dst v)) : wpStill P ops w R (o :: rest) a := by
  unfold wpStill
  rw [if_pos hw]
  unfold Oper.still
  rw [hr, Oper.stillUpon_value]
  exact h _ fun _ h => h

theorem sl_load (hw : Region.wanted o (yielded ops a.tmps) = true) (T : TypeId) (x : Operand) (ho : o.op = .load T x) (g off : Nat) (hx : a.eval x = .pointer (some ⟨g, off, none⟩))
    (hT : plainT P T = true) (H : At w0 L w) (i : Nat) {c : Array Value} {t : TypeId} {fr : Nat × Nat} (hL : L[i]? = some (Blk g (.cells c t fr))) {v : Value} (hc : c[off]? = some v)
    (h : ∀ K : Act → Prop, (∀ a, wpStill P ops w R rest a → K a) → K (a.put o.dst v)) : wpStill P ops w R (o :: rest) a := by
  refine sl_value hw (v := v) ?_ h
  simp [execOp, ho, hx, Instr.loadAt, Instr.sureAddr, run_loadVar_cell hT (H.get i hL) hc]

theorem sl_loads (hw : Region.wanted o (yielded ops a.tmps) = true) (T : TypeId) (x : Operand) (ho : o.op = .load T x) (g off : Nat) (hx : a.eval x = .pointer (some ⟨g, off, none⟩))
    (hT : aggT P T = true) (n : Nat) (hn : sizeT P T = some n) (H : At w0 L w) (i : Nat) {c : Array Value} {t : TypeId} {fr : Nat × Nat} (hL : L[i]? = some (Blk g (.cells c t fr))) (hc : off + n ≤ c.size)
    (h : ∀ K : Act → Prop, (∀ a, wpStill P ops w R rest a → K a) → K (a.put o.dst (.agg (c.extract off (off + n))))) : wpStill P ops w R (o :: rest) a := by
  refine sl_value hw (v := .agg (c.extract off (off + n))) ?_ h
  simp [execOp, ho, hx, Instr.loadAt, Instr.sureAddr, run_loadVar_agg hT hn (H.get i hL) hc]

theorem sl_row (hw : Region.wanted o (yielded ops a.tmps) = true) (T : TypeId) (x : Operand) (ho : o.op = .load T x) (g : Nat) (hx : a.eval x = .pointer (some ⟨g, 0, none⟩))
    (hT : aggT P T = true) (n : Nat) (hn : sizeT P T = some n) (H : At w0 L w) (i : Nat) {c : Array Value} {t : TypeId} {fr : Nat × Nat} (hL : L[i]? = some (Blk g (.cells c t fr))) (hc : c.size = n)
    (h : ∀ K : Act → Prop, (∀ a, wpStill P ops w R rest a → K a) → K (a.put o.dst (.agg c))) : wpStill P ops w R (o :: rest) a := by
  refine sl_loads hw T x ho g 0 hx hT n hn H i hL (by omega) ?_
  have e : c.extract 0 (0 + n) = c := by rw [Nat.zero_add, ← hc, Array.extract_size]
  rw [e]
  exact h

end
end
end Go.Hp
