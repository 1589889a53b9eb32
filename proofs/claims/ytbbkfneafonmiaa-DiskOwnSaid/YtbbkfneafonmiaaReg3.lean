/-
  A region that draws its order, in which one operation makes something: what waits for it, what does not. Whatever the program.
-/
import Derived.Test.YtbbkfneafonmiaaReg2
namespace Go.Hp
open Go.RowKit

section
variable {P : Program} {ops : Array Oper} {Q : Exit → Act → World → Prop}

/-- Those of 'nd' wait for the m-th, at once or through others. -/
def ndOk (ops : Array Oper) (m : Nat) (nd : Nat → Bool) : Bool :=
  (List.range ops.size).all fun i => !nd i || (ops[i]?).any fun o => o.after.any fun e => Region.binds .any e && (e.on == m || nd e.on)

def StageOp (P : Program) (ops : Array Oper) (a : Act) (vs : Nat → Value) (J J' : World → Prop) (Q : Exit → Act → World → Prop) (i : Nat) (o : Oper) : Prop :=
  if runs o vs = true then ∀ (T : Array Value) (ds : List Deferred) (w : World) (K : Act → World → Prop), J w → know ops vs T o.after.toList → (∀ t, outer ops t = true → T[t]?.getD undef = a.tmps[t]?.getD undef) →
    (∀ w', J' w' → K (Act.put ⟨T, ds⟩ o.dst (vs i)) w') → o.wp P ⟨T, ds⟩ w K Q
  else vs i = undef

def StageAll (P : Program) (ops : Array Oper) (a : Act) (vs : Nat → Value) (m : Nat) (nd : Nat → Bool) (J : Bool → World → Prop) (Q : Exit → Act → World → Prop) : Nat → List Oper → Prop
  | _, [] => True
  | i, o :: l => (if i = m then runs o vs = true ∧ StageOp P ops a vs (J false) (J true) Q i o else if nd i = true then StageOp P ops a vs (J true) (J true) Q i o else ∀ b, StageOp P ops a vs (J b) (J b) Q i o) ∧
    StageAll P ops a vs m nd J Q (i + 1) l

theorem StageAll.get {a : Act} {vs : Nat → Value} {m : Nat} {nd : Nat → Bool} {J : Bool → World → Prop} : ∀ {l : List Oper} {k i : Nat} {o : Oper}, StageAll P ops a vs m nd J Q k l → l[i]? = some o →
    if k + i = m then runs o vs = true ∧ StageOp P ops a vs (J false) (J true) Q (k + i) o else if nd (k + i) = true then StageOp P ops a vs (J true) (J true) Q (k + i) o else ∀ b, StageOp P ops a vs (J b) (J b) Q (k + i) o
  | [], _, _, _, _, h => by simp at h
  | x :: l, k, 0, o, h, hi => by
    simp at hi
    subst hi
    exact h.1
  | x :: l, k, i + 1, o, h, hi => by
    have := StageAll.get (k := k + 1) (i := i) h.2 (by simpa using hi)
    rwa [show k + 1 + i = k + (i + 1) by omega] at this

theorem wp_region_stage {id : Nat} {a : Act} {w : World} (m : Nat) (nd : Nat → Bool) (vs : Nat → Value) (J : Bool → World → Prop) (hm : P.follows .mixedOrders = true) (hok : regOk ops a.tmps.size = true) (hmlt : m < ops.size) (hnd : ndOk ops m nd = true)
    (h0 : J false w.drew) (step : StageAll P ops a vs m nd J Q 0 ops.toList) (fin : ∀ w, J true w → Q .normal (putAll a vs 0 ops.toList) w) : (Code.region id ops true).wp P Q a w := by
  refine wp_region_vals hm hok (fun E val w => J (E m) w ∧ (∀ j, E j = true → val j = vs j) ∧ ∀ j, E j = true → nd j = true → E m = true) ⟨h0, fun _ h => Bool.noConfusion h, fun _ h => Bool.noConfusion h⟩ ?_ ?_
  · rintro E val a' w i o hi hE hdeps ⟨hJ, hv, hcl⟩ hdone hold
    have hop := StageAll.get step (by simpa using hi : ops.toList[i]? = some o)
    rw [Nat.zero_add] at hop
    have hilt : i < ops.size := (Array.getElem?_eq_some_iff.1 hi).1
    have hruns : runs o val = runs o vs := by
      unfold runs
      cases hg : o.guard with
      | none => rfl
      | some g =>
        obtain ⟨j, want⟩ := g
        obtain ⟨⟨e, he, hon, hb⟩, hs⟩ := (regOk_at hok hilt).2 o j want hi hg
        have hEj : E j = true := by rw [← hon]; exact hdeps e he hb
        simp only [hv j hEj]
    have hndi : nd i = true → E m = true := by
      intro hn
      unfold ndOk at hnd
      have := List.all_eq_true.1 hnd i (List.mem_range.2 hilt)
      rw [hn, hi] at this
      simp only [Bool.not_true, Bool.false_or, Option.any_some, Array.any_eq_true', Bool.and_eq_true, Bool.or_eq_true, beq_iff_eq] at this
      obtain ⟨e, he, hb, h1 | h1⟩ := this
      · rw [← h1]; exact hdeps e he hb
      · exact hcl _ (hdeps e he hb) h1
    have inval : ∀ j, (j == i || E j) = true → (if j = i then vs i else val j) = vs j := by
      intro j hj
      by_cases hji : j = i
      · subst hji; simp
      · rw [if_neg hji]
        exact hv j (by simpa [hji] using hj)
    have inclo : ∀ b : Bool, (b = true → (m == i || E m) = true) → ∀ j, (j == i || E j) = true → nd j = true → (m == i || E m) = true := by
      intro b _ j hj hn
      by_cases hji : j = i
      · subst hji; rw [hndi hn]; simp
      · rw [hcl j (by simpa [hji] using hj) hn]; simp
    rw [hruns]
    -- one operation
    have run : ∀ (Jb Jb' : World → Prop), Jb w → StageOp P ops a vs Jb Jb' Q i o → (runs o vs = true → ∀ w', Jb' w' → J (m == i || E m) w') → (runs o vs = false → J (m == i || E m) w) →
        if runs o vs = true then o.wp P a' w (fun a'' w'' => ∃ v, a'' = a'.put o.dst v ∧ J (m == i || E m) w'' ∧ (∀ j, (j == i || E j) = true → (if j = i then v else val j) = vs j) ∧ ∀ j, (j == i || E j) = true → nd j = true → (m == i || E m) = true) Q
        else J (m == i || E m) w ∧ (∀ j, (j == i || E j) = true → (if j = i then undef else val j) = vs j) ∧ ∀ j, (j == i || E j) = true → nd j = true → (m == i || E m) = true := by
      intro Jb Jb' hJb hs hn hn2
      unfold StageOp at hs
      split
      · rename_i hr
        rw [if_pos hr] at hs
        obtain ⟨T, ds⟩ := a'
        refine hs T ds w _ hJb (know_of fun e he hb t ht => ?_) (fun t ht => ?_) (fun w' hJ' => ⟨vs i, rfl, hn hr w' hJ', inval, inclo false (fun h => Bool.noConfusion h)⟩)
        · have hEj := hdeps e (by simpa using he) hb
          have h1 := hdone e.on t ht hEj
          rw [hv _ hEj] at h1
          simpa [Act.eval] using h1
        · have h1 := hold t fun j hj => by
            unfold dstAt at hj
            cases ho : ops[j]? with
            | none => simp [ho] at hj
            | some o' =>
              simp [ho] at hj
              have := List.all_eq_true.1 ht o' (List.mem_of_getElem? (i := j) (by simpa using ho))
              simp [hj] at this
          simpa [Act.eval] using h1
      · rename_i hr
        rw [if_neg hr] at hs
        refine ⟨hn2 (by simpa using hr), fun j hj => ?_, inclo false (fun h => Bool.noConfusion h)⟩
        rw [← hs]
        exact inval j hj
    by_cases him : i = m
    · subst him
      rw [if_pos rfl] at hop
      rw [hE] at hJ
      exact run _ _ hJ hop.2 (fun _ w' h => by simpa using h) (fun h => by rw [hop.1] at h; cases h)
    · rw [if_neg him] at hop
      have hmi : (m == i || E m) = E m := by
        have : (m == i) = false := by simp; exact fun h => him h.symm
        rw [this, Bool.false_or]
      by_cases hn : nd i = true
      · rw [if_pos hn] at hop
        have hEm := hndi hn
        rw [hEm] at hJ
        exact run _ _ hJ hop (fun _ w' h => by rw [hmi, hEm]; exact h) (fun _ => by rw [hmi, hEm]; exact hJ)
      · rw [if_neg hn] at hop
        exact run _ _ hJ (hop (E m)) (fun _ w' h => by rw [hmi]; exact h) (fun _ => by rw [hmi]; exact hJ)
  · rintro E val w hall ⟨hJ, hv, _⟩
    rw [hall m hmlt] at hJ
    rw [putAll_congr (val' := vs) _ _ _ (fun j _ h2 => hv j (hall j (by simpa using h2)))]
    exact fin w hJ
end

section
variable {P : Program} {Q : Exit → Act → World → Prop} {o : Oper} {a : Act} {w : World} {K : Act → World → Prop}

theorem op_make (T : TypeId) (x y : Operand) (ho : o.op = .makeSlice T x y) (kl kc : IntKind) (l c : Int) (hx : a.eval x = .int kl l) (hy : a.eval y = .int kc c)
    (e : TypeId) (ht : P.underlying T = some (.slice e)) (bytes : Nat) (hb : (P.info? e).map (·.bytes) = some bytes) (size : Nat) (hs : sizeT P e = some size) (z : Value) (hz : zeroT P e = some z)
    (h0 : 0 ≤ l) (hlc : l ≤ c) (hbytes : (bytes : Int) * c ≤ 281474976710656) (h63 : c ≤ 9223372036854775807)
    (h : K (a.put o.dst (.slice (some ⟨w.heap.size, 0, none⟩) l.toNat c.toNat)) (w.alloc (.cells (madeCells z.cells (c.toNat * size)) e))) : o.wp P a w K Q := by
  unfold zeroT at hz
  unfold sizeT at hs
  cases hi : P.info? e with
  | none => simp [hi] at hs
  | some i =>
    simp [hi] at hb hs hz
    subst hb hs
    have hr := run_make (P := P) w T e i z ht hi hz kl kc l c h0 hlc hbytes h63
    refine op_value (v := .slice (some ⟨w.heap.size, 0, none⟩) l.toNat c.toNat) (w' := w.alloc (.cells (madeCells z.cells (c.toNat * i.size)) e)) ?_ h
    simp [execOp, ho, hx, hy, hr]
end

/-- Ahead of a 'make' the heap is of that size; behind it its block is there. -/
def jmade (S : Nat) (B : HProp) (w0 : World) (L : List HProp) : Bool → World → Prop
  | true => fun w => At w0 (B :: L) w
  | false => fun w => w.heap.size = S ∧ At w0 L w

theorem jmade0 {B : HProp} {w0 w : World} {L : List HProp} (H : At w0 L w) : jmade w.heap.size B w0 L false w.drew := ⟨rfl, H⟩
end Go.Hp
