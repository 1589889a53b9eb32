/-
  Regions that draw their order, within a round of a range over a function: no call of a deferred one. Whatever the program.
-/
import Derived.Test.YtohfboolicheeaaEng
import Derived.OrdersIn
namespace Go.Hp
open Go.RowKit
set_option linter.unusedVariables false
set_option linter.unusedSimpArgs false

section
variable {P : Program} {ops : Array Oper} {Q : Exit → Act → World → Prop}

theorem any_inv {a : Act} {w : World} (hok : depsOk ops = true) (I : (Nat → Bool) → Act → World → Prop) (h0 : I (fun _ => false) a w.drew)
    (step : ∀ (E : Nat → Bool) (a : Act) (w : World) (i : Nat) (o : Oper), ops[i]? = some o → E i = false → (∀ e ∈ o.after, Region.binds .any e = true → E e.on = true) → I E a w →
      if Region.wanted o (yielded ops a.tmps) = true then o.wp P a w (I fun j => j == i || E j) Q else I (fun j => j == i || E j) (a.put o.dst undef) w)
    (fin : ∀ (E : Nat → Bool) (a : Act) (w : World), (∀ j, j < ops.size → E j = true) → I E a w → Q .normal a w) : wpAny P .any ops Q ops.size (Array.replicate ops.size false) a w.drew := by
  have main : ∀ (fuel : Nat) (listed : Array Bool) (a : Act) (w : World), listed.size = ops.size → left listed = fuel → I (fun j => listed.getD j false) a w → wpAny P .any ops Q fuel listed a w := by
    intro fuel
    induction fuel with
    | zero =>
      intro listed a w hs hl hI
      have hall := left_zero hl
      refine ⟨?_, fin _ a w (fun j hj => hall j (by omega)) hI⟩
      cases hr : Region.ready .any ops listed with
      | nil => rfl
      | cons i r =>
        exfalso
        have hi : i ∈ Region.ready .any ops listed := by rw [hr]; simp
        obtain ⟨h1, o, h2, _⟩ := mem_ready.1 hi
        have hlt : i < listed.size := by rw [hs]; exact (Array.getElem?_eq_some_iff.1 h2).1
        have h3 := hall i hlt
        simp [hlt] at h1 h3
        rw [h1] at h3
        cases h3
    | succ fuel ih =>
      intro listed a w hs hl hI
      refine ⟨fun hr => ?_, fun i hi => ?_⟩
      · refine fin _ a w (fun j hj => ?_) hI
        have key : ∀ n j, j ≤ n → j < ops.size → listed.getD j false = true := by
          intro n
          induction n with
          | zero =>
            intro j hjn hj
            obtain rfl : j = 0 := by omega
            cases hv : listed.getD 0 false with
            | true => rfl
            | false =>
              exfalso
              have hin : 0 ∈ Region.ready .any ops listed := by
                refine mem_ready.2 ⟨getD_in (by omega) hv, ops[0], by simp [hj], fun e he hb => ?_⟩
                have := depsOk_at hok (i := 0) (o := ops[0]) (by simp [hj]) e he hb
                omega
              rw [hr] at hin
              cases hin
          | succ n ihn =>
            intro j hjn hj
            cases hv : listed.getD j false with
            | true => rfl
            | false =>
              exfalso
              have hin : j ∈ Region.ready .any ops listed := by
                refine mem_ready.2 ⟨getD_in (by omega) hv, ops[j], by simp [hj], fun e he hb => ?_⟩
                have := depsOk_at hok (i := j) (o := ops[j]) (by simp [hj]) e he hb
                exact ihn e.on (by omega) (by omega)
              rw [hr] at hin
              cases hin
        exact key j j (Nat.le_refl _) hj
      · obtain ⟨h1, o, h2, h3⟩ := mem_ready.1 hi
        have hlt : i < listed.size := by rw [hs]; exact (Array.getElem?_eq_some_iff.1 h2).1
        have hst := step _ a w i o h2 (getD_both h1) (fun e he hb => h3 e he hb) hI
        have hE : (fun j => j == i || listed.getD j false) = fun j => (listed.setIfInBounds i true).getD j false := by
          funext j
          by_cases hji : j = i
          · subst hji
            simp [hlt]
          · have : (j == i) = false := by simp [hji]
            rw [this, Bool.false_or, getD_set_ne false (fun e => hji e.symm)]
        rw [hE] at hst
        unfold wpOp
        rw [h2]
        dsimp only
        have hnext : ∀ a w, I (fun j => (listed.setIfInBounds i true).getD j false) a w → wpAny P .any ops Q fuel (listed.setIfInBounds i true) a w := fun a w h =>
          ih _ a w (by simp [hs]) (by have := left_set h1; omega) h
        split
        · rename_i hw
          rw [if_pos hw] at hst
          exact .inl (Oper.wp_mono hnext hst)
        · rename_i hw
          rw [if_neg hw] at hst
          exact hnext _ _ hst
  refine main _ _ a _ (by simp) ?_ ?_
  · simp [left]
  · have : (fun j => (Array.replicate ops.size false).getD j false) = fun _ => false := by
      funext j
      exact getD_replicate_false _ _
    rw [this]
    exact h0

theorem any_vals {a : Act} {w : World} (hok : regOk ops a.tmps.size = true) (R : (Nat → Bool) → (Nat → Value) → World → Prop)
    (h0 : R (fun _ => false) (fun _ => undef) w.drew)
    (step : ∀ (E : Nat → Bool) (val : Nat → Value) (a' : Act) (w : World) (i : Nat) (o : Oper), ops[i]? = some o → E i = false → (∀ e ∈ o.after, Region.binds .any e = true → E e.on = true) → R E val w →
      (∀ j t, dstAt ops j = some t → E j = true → a'.eval (.tmp t) = val j) → (∀ t, (∀ j, dstAt ops j ≠ some t) → a'.eval (.tmp t) = a.eval (.tmp t)) →
      if runs o val = true then o.wp P a' w (fun a'' w'' => ∃ v, a'' = a'.put o.dst v ∧ R (fun j => j == i || E j) (fun j => if j = i then v else val j) w'') Q
      else R (fun j => j == i || E j) (fun j => if j = i then undef else val j) w)
    (fin : ∀ (E : Nat → Bool) (val : Nat → Value) (w : World), (∀ j, j < ops.size → E j = true) → R E val w → Q .normal (putAll a val 0 ops.toList) w) : wpAny P .any ops Q ops.size (Array.replicate ops.size false) a w.drew := by
  have inb : ∀ {j t}, dstAt ops j = some t → j < ops.size := by
    intro j t h
    rcases Nat.lt_or_ge j ops.size with h' | h'
    · exact h'
    · simp [dstAt, Array.getElem?_eq_none h'] at h
  have uniq : ∀ {j k t}, dstAt ops j = some t → dstAt ops k = some t → j = k := by
    intro j k t h1 h2
    rcases Nat.lt_trichotomy j k with h | h | h
    · exact absurd h1 (((regOk_at hok (inb h2)).1 t h2).2 j h)
    · exact h
    · exact absurd h2 (((regOk_at hok (inb h1)).1 t h1).2 k h)
  refine any_inv (regOk_deps hok) (fun E a' w' => ∃ val, R E val w' ∧ a'.defers = a.defers ∧ a'.tmps.size = a.tmps.size ∧ (∀ j t, dstAt ops j = some t → E j = true → a'.tmps[t]? = some (val j)) ∧
    (∀ t, (∀ j, dstAt ops j = some t → E j = false) → a'.tmps[t]? = a.tmps[t]?)) ?_ ?_ ?_
  · exact ⟨_, h0, rfl, rfl, fun _ _ _ h => Bool.noConfusion h, fun _ _ => rfl⟩
  · rintro E a' w' i o hi hE hdeps ⟨val, hR, hdf, hsz, hdone, hold⟩
    have hilt : i < ops.size := (Array.getElem?_eq_some_iff.1 hi).1
    have hdi : dstAt ops i = o.dst := by simp [dstAt, hi]
    have hst := step E val a' w' i o hi hE hdeps hR (fun j t hj hEj => by simp [Act.eval, hdone j t hj hEj])
      (fun t ht => by simp only [Act.eval, Array.getD_eq_getD_getElem?]; rw [hold t (fun j hj => absurd hj (ht j))])
    have hwant : Region.wanted o (yielded ops a'.tmps) = runs o val := by
      unfold Region.wanted runs
      cases hg : o.guard with
      | none => rfl
      | some g =>
        obtain ⟨j, want⟩ := g
        obtain ⟨⟨e, he, hon, hb⟩, hs⟩ := (regOk_at hok hilt).2 o j want hi hg
        have hEj : E j = true := by rw [← hon]; exact hdeps e he hb
        obtain ⟨t, ht⟩ := Option.isSome_iff_exists.1 hs
        have hv := hdone j t ht hEj
        have hd : (ops[j]?).bind (·.dst) = some t := ht
        simp only [yielded, hd, Option.bind_some, hv]
        cases val j <;> simp
    have next : ∀ (v : Value) (w'' : World), R (fun j => j == i || E j) (fun j => if j = i then v else val j) w'' → ∃ val', R (fun j => j == i || E j) val' w'' ∧ (a'.put o.dst v).defers = a.defers ∧ (a'.put o.dst v).tmps.size = a.tmps.size ∧
        (∀ j t, dstAt ops j = some t → (j == i || E j) = true → (a'.put o.dst v).tmps[t]? = some (val' j)) ∧ (∀ t, (∀ j, dstAt ops j = some t → (j == i || E j) = false) → (a'.put o.dst v).tmps[t]? = a.tmps[t]?) := by
      intro v w'' hR'
      refine ⟨_, hR', by rw [put_defers]; exact hdf, by rw [put_size]; exact hsz, ?_, ?_⟩
      · intro j t hj hEj
        have htn : t < a'.tmps.size := by rw [hsz]; exact ((regOk_at hok (inb hj)).1 t hj).1
        rw [put_get _ _ _ _ htn]
        by_cases hji : j = i
        · subst hji
          rw [if_pos (by rw [← hdi]; exact hj)]
          simp
        · rw [if_neg (fun h => hji (uniq hj (hdi.trans h)))]
          have : E j = true := by simpa [hji] using hEj
          simpa [hji] using hdone j t hj this
      · intro t ht
        by_cases htn : t < a'.tmps.size
        · rw [put_get _ _ _ _ htn, if_neg (fun h => by have := ht i (hdi.trans h); simp at this)]
          refine hold t fun j hj => ?_
          have := ht j hj
          simp only [Bool.or_eq_false_iff] at this
          exact this.2
        · rw [Array.getElem?_eq_none (by rw [put_size]; exact Nat.le_of_not_lt htn), Array.getElem?_eq_none (by rw [← hsz]; exact Nat.le_of_not_lt htn)]
    rw [hwant]
    split
    · rename_i hr
      rw [if_pos hr] at hst
      refine Oper.wp_mono ?_ hst
      rintro a'' w'' ⟨v, rfl, hR'⟩
      exact next v w'' hR'
    · rename_i hr
      rw [if_neg hr] at hst
      exact next undef w' hst
  · rintro E a' w' hall ⟨val, hR, hdf, hsz, hdone, hold⟩
    have he : a' = putAll a val 0 ops.toList := by
      have ht : a'.tmps = (putAll a val 0 ops.toList).tmps := by
        apply Array.ext_getElem?
        intro t
        by_cases htn : t < a.tmps.size
        · by_cases hj : ∃ j, dstAt ops j = some t
          · obtain ⟨j, hj⟩ := hj
            have hjl := inb hj
            have hoj : ops.toList[j]? = some ops[j] := by simp [hjl]
            have hdj : ops[j].dst = some t := by simpa [dstAt, hjl] using hj
            rw [hdone j t hj (hall j hjl), putAll_at val t ops.toList 0 j a ops[j] htn hoj hdj ?_, Nat.zero_add]
            intro k o' hk ho' hd'
            have hkd : dstAt ops k = some t := by
              have : ops[k]? = some o' := by simpa using ho'
              simp [dstAt, this, hd']
            have := uniq hj hkd
            omega
          · have hn : ∀ j, dstAt ops j ≠ some t := fun j h => hj ⟨j, h⟩
            rw [hold t (fun j h => absurd h (hn j)), putAll_other val t ops.toList 0 a htn]
            intro o' ho' hd'
            obtain ⟨k, hk⟩ := List.getElem?_of_mem ho'
            refine hn k ?_
            have : ops[k]? = some o' := by simpa using hk
            simp [dstAt, this, hd']
        · rw [Array.getElem?_eq_none (by omega), Array.getElem?_eq_none (by rw [putAll_size]; omega)]
      have hd : a'.defers = (putAll a val 0 ops.toList).defers := by rw [hdf, putAll_defers]
      cases a'
      cases hx : putAll a val 0 ops.toList
      rw [hx] at ht hd
      simp only at ht hd
      rw [ht, hd]
    rw [he]
    exact fin E val w' hall hR

theorem any_eff {a : Act} {w : World} (eff : List Nat) (need : Nat → List Nat) (vs : (Nat → Value) → Nat → Value) (J : (Nat → Bool) → (Nat → Value) → World → Prop) (hok : regOk ops a.tmps.size = true)
    (hnd : needOk ops eff need = true) (hlt : (eff.all fun m => decide (m < ops.size)) = true) (h0 : J (fun _ => false) (fun _ => undef) w.drew) (step : EffAll P ops a eff need vs J Q 0 ops.toList) (ins : InsL eff need vs 0 ops.size) (jns : JL eff J 0 ops.size)
    (fin : ∀ E val w, (∀ m ∈ eff, E m = true) → J E val w → Q .normal (putAll a (vs val) 0 ops.toList) w) : wpAny P .any ops Q ops.size (Array.replicate ops.size false) a w.drew := by
  have stab : ∀ {j : Nat}, j < ops.size → ∀ {E : Nat → Bool} {val : Nat → Value} {i : Nat} {v : Value}, E i = false → (E j = true) → (∀ m ∈ need j, E m = true) → vs (updV val i v) j = vs val j := by
    intro j hj E val i v hi hEj hn
    have hop := InsL.get ins hj
    rw [Nat.zero_add] at hop
    have hji : j ≠ i := by rintro rfl; rw [hi] at hEj; cases hEj
    unfold InsOp at hop
    split at hop
    · rw [hop, hop]
      simp [updV, hji]
    · refine hop _ _ fun m hm => ?_
      have hmi : m ≠ i := by rintro rfl; have := hn m hm; rw [hi] at this; cases this
      simp [updV, hmi]
  refine any_vals hok (fun E val w => ∃ vm, J E vm w ∧ (∀ j, j < ops.size → E j = true → val j = vs vm j ∧ ∀ m ∈ need j, E m = true) ∧ ∀ j, E j = true → j < ops.size) ⟨_, h0, fun _ _ h => Bool.noConfusion h, fun _ h => Bool.noConfusion h⟩ ?_ ?_
  · rintro E val a' w i o hi hE hdeps ⟨vm, hJ, hv, hin⟩ hdone hold
    have hilt : i < ops.size := (Array.getElem?_eq_some_iff.1 hi).1
    have hop := EffAll.get step (by simpa using hi : ops.toList[i]? = some o)
    rw [Nat.zero_add] at hop
    have hneed : ∀ m ∈ need i, E m = true := by
      intro m hm'
      have h1 := List.all_eq_true.1 hnd i (List.mem_range.2 hilt)
      have h2 := List.all_eq_true.1 h1 m hm'
      rw [hi] at h2
      simp only [Option.any_some, Array.any_eq_true', Bool.and_eq_true, Bool.or_eq_true] at h2
      obtain ⟨_, e, he, hb, h3⟩ := h2
      have hEe := hdeps e he hb
      rcases h3 with h3 | h3
      · have h3 : e.on = m := by simpa using h3
        rw [← h3]; exact hEe
      · exact (hv _ (hin _ hEe) hEe).2 m (by simpa using h3)
    have hruns : runs o val = runs o (vs vm) := by
      unfold runs
      cases hg : o.guard with
      | none => rfl
      | some g =>
        obtain ⟨j, want⟩ := g
        obtain ⟨⟨e, he, hon, hb⟩, hs⟩ := (regOk_at hok hilt).2 o j want hi hg
        have hEj : E j = true := by rw [← hon]; exact hdeps e he hb
        simp only [(hv j (hin j hEj) hEj).1]
    have hkn : know ops (vs vm) a'.tmps o.after.toList := know_of fun e he hb t ht => by
      have hEj := hdeps e (by simpa using he) hb
      have h1 := hdone e.on t ht hEj
      rw [(hv _ (hin _ hEj) hEj).1] at h1
      simpa [Act.eval] using h1
    have hou : ∀ t, outer ops t = true → a'.tmps[t]?.getD undef = a.tmps[t]?.getD undef := fun t ht => by
      have h1 := hold t fun j hj => by
        unfold dstAt at hj
        cases ho : ops[j]? with
        | none => simp [ho] at hj
        | some o' =>
          simp [ho] at hj
          have := List.all_eq_true.1 ht o' (List.mem_of_getElem? (i := j) (by simpa using ho))
          simp [hj] at this
      simpa [Act.eval] using h1
    have hin' : ∀ j, (j == i || E j) = true → j < ops.size := by
      intro j hj
      by_cases hji : j = i
      · rw [hji]; exact hilt
      · exact hin j (by simpa [hji] using hj)
    rw [hruns]
    have next : ∀ x, (vs (updV vm i x) i = x) → ∀ j, j < ops.size → (j == i || E j) = true → (if j = i then x else val j) = vs (updV vm i x) j ∧ ∀ m ∈ need j, (m == i || E m) = true := by
      intro x hx j hj hEj
      by_cases hji : j = i
      · subst hji
        exact ⟨by rw [if_pos rfl, hx], fun m hm => by rw [hneed m hm]; simp⟩
      · have hEj' : E j = true := by simpa [hji] using hEj
        obtain ⟨h1, h2⟩ := hv j hj hEj'
        exact ⟨by rw [if_neg hji, h1, stab hj hE hEj' h2], fun m hm => by rw [h2 m hm]; simp⟩
    have hinsi := InsL.get ins hilt
    have hjnsi := JL.get jns hilt
    rw [Nat.zero_add] at hinsi hjnsi
    unfold EffOp at hop
    unfold InsOp at hinsi
    split at hop
    · rename_i hci
      rw [if_pos hci] at hinsi
      obtain ⟨hr, hop⟩ := hop E vm hE (fun j hj hEj => (hv j hj hEj).2) hneed
      rw [if_pos hr]
      obtain ⟨T, ds⟩ := a'
      exact hop T ds w _ hJ hkn hou fun x w' hJ' => ⟨x, rfl, _, hJ', next x (by rw [hinsi, updV_same]), hin'⟩
    · rename_i hci
      rw [if_neg hci] at hinsi
      have hJi := hjnsi (by simpa using hci)
      have hop := hop E vm hneed
      have hself : ∀ x, vs (updV vm i x) i = vs vm i := fun x => hinsi _ _ fun m hm => by
        have hmi : m ≠ i := by rintro rfl; have := hneed m hm; rw [hE] at this; cases this
        simp [updV, hmi]
      split
      · rename_i hr
        rw [if_pos hr] at hop
        obtain ⟨T, ds⟩ := a'
        refine hop T ds w _ hJ hkn hou fun w' hJ' => ⟨_, rfl, updV vm i (vs vm i), ?_, next _ (hself _), hin'⟩
        show J (updE E i) _ w'
        rw [hJi]; exact hJ'
      · rename_i hr
        rw [if_neg hr] at hop
        refine ⟨updV vm i undef, ?_, ?_, hin'⟩
        · show J (updE E i) _ w
          rw [hJi]; exact hJ
        · exact next undef (by rw [hself, hop])
  · rintro E val w hall ⟨vm, hJ, hv, hin⟩
    rw [putAll_congr (val' := vs vm) _ _ _ (fun j _ h2 => (hv j (by simpa using h2) (hall j (by simpa using h2))).1)]
    exact fin E vm w (fun m hm => hall m (by simpa using List.all_eq_true.1 hlt m hm)) hJ

theorem any_in {r : Option Nat} {n : Nat} {md : Region.Mode} (hd : ∀ (i : Nat) (o : Oper), ops[i]? = some o → notDefer o = true) : ∀ (fuel : Nat) (listed : Array Bool) (a : Act) (w : World),
    wpAny P md ops (Exit.then (Q .normal) (fun _ _ _ => False)) fuel listed a w → wpAnyIn (wideAt r) n P md ops Q fuel listed a w
  | 0, listed, a, w, h => h
  | fuel + 1, listed, a, w, h => by
    refine ⟨h.1, fun i hi => ?_⟩
    have h2 := h.2 i hi
    unfold wpOp at h2
    unfold wpOpIn
    cases ho : ops[i]? with
    | none =>
      rw [ho] at h2
      exact any_in hd fuel _ a w h2
    | some o =>
      rw [ho] at h2
      simp only at h2 ⊢
      split at h2
      · rename_i hw
        rw [if_pos hw]
        rcases h2 with h2 | ⟨_, _, _, h2⟩
        · exact oper_in (hd i o ho) (fun _ _ h => h) (fun _ _ _ h => h) (fun a w h => any_in hd fuel _ a w h) h2
        · exact h2.elim
      · rename_i hw
        rw [if_neg hw]
        exact ⟨fun _ _ => trivial, any_in hd fuel _ _ w h2⟩

theorem wpIn_region_eff {r : Option Nat} {n : Nat} {id : Nat} {a : Act} {w : World} (eff : List Nat) (need : Nat → List Nat) (vs : (Nat → Value) → Nat → Value) (J : (Nat → Bool) → (Nat → Value) → World → Prop) (hm : P.follows .mixedOrders = true) (hok : regOk ops a.tmps.size = true)
    (hnd : needOk ops eff need = true) (hlt : (eff.all fun m => decide (m < ops.size)) = true) (hdf : (ops.toList.all notDefer) = true) (h0 : J (fun _ => false) (fun _ => undef) w.drew) (step : EffAll P ops a eff need vs J (Exit.then (Q .normal) (fun _ _ _ => False)) 0 ops.toList) (ins : InsL eff need vs 0 ops.size) (jns : JL eff J 0 ops.size)
    (fin : ∀ E val w, (∀ m ∈ eff, E m = true) → J E val w → Q .normal (putAll a (vs val) 0 ops.toList) w) : (Code.region id ops true).wpIn (wideAt r) n P Q a w :=
  wpIn_region_any hm (any_in (fun i o ho => List.all_eq_true.1 hdf o (List.mem_of_getElem? (i := i) (by simpa using ho))) _ _ _ _ (any_eff eff need vs J hok hnd hlt h0 step ins jns fin))
end
end Go.Hp
