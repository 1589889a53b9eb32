/-
  A region that draws its order, operation by operation: what each yields is known once what it waits for is done. Whatever the program.
-/
import Derived.Test.YtbbkfneafonmiaaOrd
namespace Go.Hp
open Go.RowKit

def dstAt (ops : Array Oper) (i : Nat) : Option Tmp := (ops[i]?).bind (·.dst)

/-- What is asked of the region's form: edges lead back, slots are unlike and in the frame, a guard is waited for and yields. -/
def regOk (ops : Array Oper) (n : Nat) : Bool :=
  depsOk ops && ((List.range ops.size).all fun i => (match dstAt ops i with
    | some t => decide (t < n) && (List.range i).all fun j => dstAt ops j != some t
    | none => true) && match (ops[i]?).bind (·.guard) with
    | some (j, _) => ((ops[i]?).any fun o => o.after.any fun e => e.on == j && Region.binds .any e) && (dstAt ops j).isSome
    | none => true)

/-- Does the operation run, by what has been yielded? -/
def runs (o : Oper) (val : Nat → Value) : Bool := match o.guard with
  | none => true
  | some (j, want) => match val j with | .bool b => b == want | _ => false

/-- The frame behind all: the values put in the text's order. -/
def putAll (a : Act) (val : Nat → Value) : Nat → List Oper → Act
  | _, [] => a
  | i, o :: l => putAll (a.put o.dst (val i)) val (i + 1) l

theorem put_defers (a : Act) (d : Option Tmp) (v : Value) : (a.put d v).defers = a.defers := by cases d <;> rfl
theorem put_size (a : Act) (d : Option Tmp) (v : Value) : (a.put d v).tmps.size = a.tmps.size := by cases d <;> simp [Act.put]
theorem put_get (a : Act) (d : Option Tmp) (v : Value) (t : Nat) (ht : t < a.tmps.size) : (a.put d v).tmps[t]? = if d = some t then some v else a.tmps[t]? := by
  cases d with
  | none => simp [Act.put]
  | some d =>
    simp only [Act.put, Array.getElem?_setIfInBounds]
    by_cases h : d = t
    · subst h; simp [ht]
    · simp [h]

theorem putAll_defers (val : Nat → Value) : ∀ (l : List Oper) (i : Nat) (a : Act), (putAll a val i l).defers = a.defers
  | [], _, _ => rfl
  | o :: l, i, a => by rw [putAll, putAll_defers val l, put_defers]
theorem putAll_size (val : Nat → Value) : ∀ (l : List Oper) (i : Nat) (a : Act), (putAll a val i l).tmps.size = a.tmps.size
  | [], _, _ => rfl
  | o :: l, i, a => by rw [putAll, putAll_size val l, put_size]

theorem putAll_other (val : Nat → Value) (t : Nat) : ∀ (l : List Oper) (i : Nat) (a : Act), t < a.tmps.size → (∀ o ∈ l, o.dst ≠ some t) → (putAll a val i l).tmps[t]? = a.tmps[t]?
  | [], _, _, _, _ => rfl
  | o :: l, i, a, ht, h => by
    rw [putAll, putAll_other val t l _ _ (by rw [put_size]; exact ht) (fun o ho => h o (by simp [ho])), put_get _ _ _ _ ht, if_neg (h o (by simp))]

theorem putAll_at (val : Nat → Value) (t : Nat) : ∀ (l : List Oper) (i j : Nat) (a : Act) (o : Oper), t < a.tmps.size → l[j]? = some o → o.dst = some t → (∀ k o', j < k → l[k]? = some o' → o'.dst ≠ some t) →
    (putAll a val i l).tmps[t]? = some (val (i + j))
  | [], _, _, _, _, _, h, _, _ => by simp at h
  | x :: l, i, 0, a, o, ht, h, hd, hn => by
    simp at h
    subst h
    rw [putAll, putAll_other val t l _ _ (by rw [put_size]; exact ht) (fun o' ho => by
      obtain ⟨k, hk⟩ := List.getElem?_of_mem ho
      exact hn (k + 1) o' (by omega) (by simpa using hk)), put_get _ _ _ _ ht, if_pos hd]
    rfl
  | x :: l, i, j + 1, a, o, ht, h, hd, hn => by
    rw [putAll, putAll_at val t l (i + 1) j _ o (by rw [put_size]; exact ht) (by simpa using h) hd (fun k o' hk ho => hn (k + 1) o' (by omega) (by simpa using ho))]
    congr 2
    omega

section
variable {P : Program} {ops : Array Oper} {Q : Exit → Act → World → Prop}

theorem regOk_deps {n : Nat} (h : regOk ops n = true) : depsOk ops = true := by unfold regOk at h; rw [Bool.and_eq_true] at h; exact h.1
theorem regOk_at {n i : Nat} (h : regOk ops n = true) (hi : i < ops.size) : (∀ t, dstAt ops i = some t → t < n ∧ ∀ j, j < i → dstAt ops j ≠ some t) ∧
    (∀ o j want, ops[i]? = some o → o.guard = some (j, want) → (∃ e ∈ o.after, e.on = j ∧ Region.binds .any e = true) ∧ (dstAt ops j).isSome = true) := by
  unfold regOk at h
  rw [Bool.and_eq_true, List.all_eq_true] at h
  have h1 := h.2 i (List.mem_range.2 hi)
  rw [Bool.and_eq_true] at h1
  obtain ⟨ha, hb⟩ := h1
  constructor
  · intro t ht
    rw [ht] at ha
    simp only [Bool.and_eq_true, decide_eq_true_eq, List.all_eq_true, List.mem_range, bne_iff_ne] at ha
    exact ha
  · intro o j want ho hg
    rw [ho] at hb
    simp only [Option.bind_some, hg, Bool.and_eq_true, Option.any_some, Array.any_eq_true'] at hb
    obtain ⟨⟨e, he, h2⟩, h3⟩ := hb
    simp only [beq_iff_eq] at h2
    exact ⟨⟨e, he, h2.1, h2.2⟩, h3⟩

theorem wp_region_vals {id : Nat} {a : Act} {w : World} (hm : P.follows .mixedOrders = true) (hok : regOk ops a.tmps.size = true) (R : (Nat → Bool) → (Nat → Value) → World → Prop)
    (h0 : R (fun _ => false) (fun _ => undef) w.drew)
    (step : ∀ (E : Nat → Bool) (val : Nat → Value) (a' : Act) (w : World) (i : Nat) (o : Oper), ops[i]? = some o → E i = false → (∀ e ∈ o.after, Region.binds .any e = true → E e.on = true) → R E val w →
      (∀ j t, dstAt ops j = some t → E j = true → a'.eval (.tmp t) = val j) → (∀ t, (∀ j, dstAt ops j ≠ some t) → a'.eval (.tmp t) = a.eval (.tmp t)) →
      if runs o val = true then o.wp P a' w (fun a'' w'' => ∃ v, a'' = a'.put o.dst v ∧ R (fun j => j == i || E j) (fun j => if j = i then v else val j) w'') Q
      else R (fun j => j == i || E j) (fun j => if j = i then undef else val j) w)
    (fin : ∀ (E : Nat → Bool) (val : Nat → Value) (w : World), (∀ j, j < ops.size → E j = true) → R E val w → Q .normal (putAll a val 0 ops.toList) w) : (Code.region id ops true).wp P Q a w := by
  have inb : ∀ {j t}, dstAt ops j = some t → j < ops.size := by
    intro j t h
    rcases Nat.lt_or_ge j ops.size with h' | h'
    · exact h'
    · simp [dstAt, Array.getElem?_eq_none h'] at h
  have uniq : ∀ {j k t}, dstAt ops j = some t → dstAt ops k = some t → j = k := by
    intro j k t h1 h2
    rcases Nat.lt_trichotomy j k with h | h | h
    · exact absurd h1 (((regOk_at hok (inb h2)).1 t h2).2 j h)
    · exact h
    · exact absurd h2 (((regOk_at hok (inb h1)).1 t h1).2 k h)
  refine wp_region_inv hm (regOk_deps hok) (fun E a' w' => ∃ val, R E val w' ∧ a'.defers = a.defers ∧ a'.tmps.size = a.tmps.size ∧ (∀ j t, dstAt ops j = some t → E j = true → a'.tmps[t]? = some (val j)) ∧
    (∀ t, (∀ j, dstAt ops j = some t → E j = false) → a'.tmps[t]? = a.tmps[t]?)) ?_ ?_ ?_
  · exact ⟨_, h0, rfl, rfl, fun _ _ _ h => Bool.noConfusion h, fun _ _ => rfl⟩
  · rintro E a' w' i o hi hE hdeps ⟨val, hR, hdf, hsz, hdone, hold⟩
    have hilt : i < ops.size := (Array.getElem?_eq_some_iff.1 hi).1
    have hdi : dstAt ops i = o.dst := by simp [dstAt, hi]
    have hst := step E val a' w' i o hi hE hdeps hR (fun j t hj hEj => by simp [Act.eval, hdone j t hj hEj])
      (fun t ht => by simp only [Act.eval, Array.getD_eq_getD_getElem?]; rw [hold t (fun j hj => absurd hj (ht j))])
    have hwant : Region.wanted o (yielded ops a'.tmps) = runs o val := by
      unfold Region.wanted runs
      cases hg : o.guard with
      | none => rfl
      | some g =>
        obtain ⟨j, want⟩ := g
        obtain ⟨⟨e, he, hon, hb⟩, hs⟩ := (regOk_at hok hilt).2 o j want hi hg
        have hEj : E j = true := by rw [← hon]; exact hdeps e he hb
        obtain ⟨t, ht⟩ := Option.isSome_iff_exists.1 hs
        have hv := hdone j t ht hEj
        have hd : (ops[j]?).bind (·.dst) = some t := ht
        simp only [yielded, hd, Option.bind_some, hv]
        cases val j <;> simp
    have next : ∀ (v : Value) (w'' : World), R (fun j => j == i || E j) (fun j => if j = i then v else val j) w'' → ∃ val', R (fun j => j == i || E j) val' w'' ∧ (a'.put o.dst v).defers = a.defers ∧ (a'.put o.dst v).tmps.size = a.tmps.size ∧
        (∀ j t, dstAt ops j = some t → (j == i || E j) = true → (a'.put o.dst v).tmps[t]? = some (val' j)) ∧ (∀ t, (∀ j, dstAt ops j = some t → (j == i || E j) = false) → (a'.put o.dst v).tmps[t]? = a.tmps[t]?) := by
      intro v w'' hR'
      refine ⟨_, hR', by rw [put_defers]; exact hdf, by rw [put_size]; exact hsz, ?_, ?_⟩
      · intro j t hj hEj
        have htn : t < a'.tmps.size := by rw [hsz]; exact ((regOk_at hok (inb hj)).1 t hj).1
        rw [put_get _ _ _ _ htn]
        by_cases hji : j = i
        · subst hji
          rw [if_pos (by rw [← hdi]; exact hj)]
          simp
        · rw [if_neg (fun h => hji (uniq hj (hdi.trans h)))]
          have : E j = true := by simpa [hji] using hEj
          simpa [hji] using hdone j t hj this
      · intro t ht
        by_cases htn : t < a'.tmps.size
        · rw [put_get _ _ _ _ htn, if_neg (fun h => by have := ht i (hdi.trans h); simp at this)]
          refine hold t fun j hj => ?_
          have := ht j hj
          simp only [Bool.or_eq_false_iff] at this
          exact this.2
        · rw [Array.getElem?_eq_none (by rw [put_size]; exact Nat.le_of_not_lt htn), Array.getElem?_eq_none (by rw [← hsz]; exact Nat.le_of_not_lt htn)]
    rw [hwant]
    split
    · rename_i hr
      rw [if_pos hr] at hst
      refine Oper.wp_mono ?_ hst
      rintro a'' w'' ⟨v, rfl, hR'⟩
      exact next v w'' hR'
    · rename_i hr
      rw [if_neg hr] at hst
      exact next undef w' hst
  · rintro E a' w' hall ⟨val, hR, hdf, hsz, hdone, hold⟩
    have he : a' = putAll a val 0 ops.toList := by
      have ht : a'.tmps = (putAll a val 0 ops.toList).tmps := by
        apply Array.ext_getElem?
        intro t
        by_cases htn : t < a.tmps.size
        · by_cases hj : ∃ j, dstAt ops j = some t
          · obtain ⟨j, hj⟩ := hj
            have hjl := inb hj
            have hoj : ops.toList[j]? = some ops[j] := by simp [hjl]
            have hdj : ops[j].dst = some t := by simpa [dstAt, hjl] using hj
            rw [hdone j t hj (hall j hjl), putAll_at val t ops.toList 0 j a ops[j] htn hoj hdj ?_, Nat.zero_add]
            intro k o' hk ho' hd'
            have hkd : dstAt ops k = some t := by
              have : ops[k]? = some o' := by simpa using ho'
              simp [dstAt, this, hd']
            have := uniq hj hkd
            omega
          · have hn : ∀ j, dstAt ops j ≠ some t := fun j h => hj ⟨j, h⟩
            rw [hold t (fun j h => absurd h (hn j)), putAll_other val t ops.toList 0 a htn]
            intro o' ho' hd'
            obtain ⟨k, hk⟩ := List.getElem?_of_mem ho'
            refine hn k ?_
            have : ops[k]? = some o' := by simpa using hk
            simp [dstAt, this, hd']
        · rw [Array.getElem?_eq_none (by omega), Array.getElem?_eq_none (by rw [putAll_size]; omega)]
      have hd : a'.defers = (putAll a val 0 ops.toList).defers := by rw [hdf, putAll_defers]
      cases a'
      cases hx : putAll a val 0 ops.toList
      rw [hx] at ht hd
      simp only at ht hd
      rw [ht, hd]
    rw [he]
    exact fin E val w' hall hR

end
end Go.Hp
