/-
  A region that draws its order, in which some operations, one after another, make something: the others yield what hangs on the makers alone. Whatever the program.
-/
import Derived.Test.YtbbkfneafonmiaaReg3
import Derived.Test.YtbbkfneafonmiaaArr
namespace Go.Hp
open Go.RowKit

section
variable {P : Program} {ops : Array Oper} {Q : Exit → Act → World → Prop}

/-- How many makers are done where the i-th may run. -/
def preOf (ms : List Nat) (need : Nat → Nat) (i : Nat) : Nat := match ms.idxOf? i with | some k => k | none => need i

def chainOk (ops : Array Oper) (ms : List Nat) (need : Nat → Nat) : Bool :=
  ((List.range ops.size).all fun i => decide (preOf ms need i = 0) || (ops[i]?).any fun o => o.after.any fun e => Region.binds .any e && decide (preOf ms need i ≤ need e.on)) &&
  (ms.all fun m => decide (m < ops.size)) && ((List.range ms.length).all fun k => match ms[k]? with | some m => ms.idxOf? m == some k && need m == k + 1 | none => false)

def ChainOp (P : Program) (ops : Array Oper) (a : Act) (ms : List Nat) (need : Nat → Nat) (vs : List Value → Nat → Value) (J : List Value → World → Prop) (Q : Exit → Act → World → Prop) (i : Nat) (o : Oper) : Prop :=
  match ms.idxOf? i with
  | some k => ∀ xs : List Value, xs.length = k → runs o (vs xs) = true ∧ ∀ (T : Array Value) (ds : List Deferred) (w : World) (K : Act → World → Prop), J xs w → know ops (vs xs) T o.after.toList →
      (∀ t, outer ops t = true → T[t]?.getD undef = a.tmps[t]?.getD undef) → (∀ x w', J (xs ++ [x]) w' → K (Act.put ⟨T, ds⟩ o.dst x) w') → o.wp P ⟨T, ds⟩ w K Q
  | none => ∀ xs : List Value, need i ≤ xs.length → xs.length ≤ ms.length → if runs o (vs xs) = true then ∀ (T : Array Value) (ds : List Deferred) (w : World) (K : Act → World → Prop), J xs w → know ops (vs xs) T o.after.toList →
      (∀ t, outer ops t = true → T[t]?.getD undef = a.tmps[t]?.getD undef) → (∀ w', J xs w' → K (Act.put ⟨T, ds⟩ o.dst (vs xs i)) w') → o.wp P ⟨T, ds⟩ w K Q
      else vs xs i = undef

theorem chain_mk {a : Act} {ms : List Nat} {need : Nat → Nat} {vs : List Value → Nat → Value} {J : List Value → World → Prop} {i : Nat} {o : Oper} (k : Nat) (h : ms.idxOf? i = some k)
    (h2 : ∀ xs : List Value, xs.length = k → runs o (vs xs) = true ∧ ∀ (T : Array Value) (ds : List Deferred) (w : World) (K : Act → World → Prop), J xs w → know ops (vs xs) T o.after.toList →
      (∀ t, outer ops t = true → T[t]?.getD undef = a.tmps[t]?.getD undef) → (∀ x w', J (xs ++ [x]) w' → K (Act.put ⟨T, ds⟩ o.dst x) w') → o.wp P ⟨T, ds⟩ w K Q) : ChainOp P ops a ms need vs J Q i o := by
  unfold ChainOp
  rw [h]
  exact h2

theorem chain_pl {a : Act} {ms : List Nat} {need : Nat → Nat} {vs : List Value → Nat → Value} {J : List Value → World → Prop} {i : Nat} {o : Oper} (h : ms.idxOf? i = none)
    (h2 : ∀ xs : List Value, need i ≤ xs.length → xs.length ≤ ms.length → if runs o (vs xs) = true then ∀ (T : Array Value) (ds : List Deferred) (w : World) (K : Act → World → Prop), J xs w → know ops (vs xs) T o.after.toList →
      (∀ t, outer ops t = true → T[t]?.getD undef = a.tmps[t]?.getD undef) → (∀ w', J xs w' → K (Act.put ⟨T, ds⟩ o.dst (vs xs i)) w') → o.wp P ⟨T, ds⟩ w K Q
      else vs xs i = undef) : ChainOp P ops a ms need vs J Q i o := by
  unfold ChainOp
  rw [h]
  exact h2

def ChainAll (P : Program) (ops : Array Oper) (a : Act) (ms : List Nat) (need : Nat → Nat) (vs : List Value → Nat → Value) (J : List Value → World → Prop) (Q : Exit → Act → World → Prop) : Nat → List Oper → Prop
  | _, [] => True
  | i, o :: l => ChainOp P ops a ms need vs J Q i o ∧ ChainAll P ops a ms need vs J Q (i + 1) l

theorem ChainAll.get {a : Act} {ms : List Nat} {need : Nat → Nat} {vs : List Value → Nat → Value} {J : List Value → World → Prop} : ∀ {l : List Oper} {k i : Nat} {o : Oper}, ChainAll P ops a ms need vs J Q k l → l[i]? = some o →
    ChainOp P ops a ms need vs J Q (k + i) o
  | [], _, _, _, _, h => by simp at h
  | x :: l, k, 0, o, h, hi => by
    simp at hi
    subst hi
    exact h.1
  | x :: l, k, i + 1, o, h, hi => by
    have := ChainAll.get (k := k + 1) (i := i) h.2 (by simpa using hi)
    rwa [show k + 1 + i = k + (i + 1) by omega] at this

theorem wp_region_chain {id : Nat} {a : Act} {w : World} (ms : List Nat) (need : Nat → Nat) (vs : List Value → Nat → Value) (J : List Value → World → Prop) (hm : P.follows .mixedOrders = true) (hok : regOk ops a.tmps.size = true)
    (hch : chainOk ops ms need = true) (hst : ∀ xs x j, need j ≤ xs.length → vs (xs ++ [x]) j = vs xs j) (hmk : ∀ xs x m, xs.length < ms.length → ms[xs.length]? = some m → vs (xs ++ [x]) m = x)
    (h0 : J [] w.drew) (step : ChainAll P ops a ms need vs J Q 0 ops.toList) (fin : ∀ xs w, xs.length = ms.length → J xs w → Q .normal (putAll a (vs xs) 0 ops.toList) w) : (Code.region id ops true).wp P Q a w := by
  unfold chainOk at hch
  simp only [Bool.and_eq_true] at hch
  obtain ⟨⟨hpre, hlt⟩, hidx⟩ := hch
  have idx : ∀ k m, ms[k]? = some m → ms.idxOf? m = some k ∧ need m = k + 1 := by
    intro k m hkm
    have hk : k < ms.length := (List.getElem?_eq_some_iff.1 hkm).1
    have := List.all_eq_true.1 hidx k (List.mem_range.2 hk)
    rw [hkm] at this
    simpa using this
  refine wp_region_vals hm hok (fun E val w => ∃ xs, xs.length ≤ ms.length ∧ J xs w ∧ (∀ k m, ms[k]? = some m → (E m = true ↔ k < xs.length)) ∧ (∀ j, E j = true → val j = vs xs j) ∧ ∀ j, E j = true → need j ≤ xs.length) ?_ ?_ ?_
  · exact ⟨[], Nat.zero_le _, h0, fun k m _ => by simp, fun _ h => Bool.noConfusion h, fun _ h => Bool.noConfusion h⟩
  · rintro E val a' w i o hi hE hdeps ⟨xs, hxl, hJ, hEm, hv, hneed⟩ hdone hold
    have hop := ChainAll.get step (by simpa using hi : ops.toList[i]? = some o)
    rw [Nat.zero_add] at hop
    have hilt : i < ops.size := (Array.getElem?_eq_some_iff.1 hi).1
    have hruns : runs o val = runs o (vs xs) := by
      unfold runs
      cases hg : o.guard with
      | none => rfl
      | some g =>
        obtain ⟨j, want⟩ := g
        obtain ⟨⟨e, he, hon, hb⟩, hs⟩ := (regOk_at hok hilt).2 o j want hi hg
        have hEj : E j = true := by rw [← hon]; exact hdeps e he hb
        simp only [hv j hEj]
    have hp : preOf ms need i ≤ xs.length := by
      have := List.all_eq_true.1 hpre i (List.mem_range.2 hilt)
      rw [hi] at this
      simp only [Option.any_some, Array.any_eq_true', Bool.and_eq_true, Bool.or_eq_true, decide_eq_true_eq] at this
      rcases this with h | ⟨e, he, hb, h⟩
      · omega
      · exact Nat.le_trans h (hneed _ (hdeps e he hb))
    have hkn : know ops (vs xs) a'.tmps o.after.toList := know_of fun e he hb t ht => by
      have hEj := hdeps e (by simpa using he) hb
      have h1 := hdone e.on t ht hEj
      rw [hv _ hEj] at h1
      simpa [Act.eval] using h1
    have hou : ∀ t, outer ops t = true → a'.tmps[t]?.getD undef = a.tmps[t]?.getD undef := fun t ht => by
      have h1 := hold t fun j hj => by
        unfold dstAt at hj
        cases ho : ops[j]? with
        | none => simp [ho] at hj
        | some o' =>
          simp [ho] at hj
          have := List.all_eq_true.1 ht o' (List.mem_of_getElem? (i := j) (by simpa using ho))
          simp [hj] at this
      simpa [Act.eval] using h1
    rw [hruns]
    unfold ChainOp at hop
    unfold preOf at hp
    cases hmi : ms.idxOf? i with
    | some k =>
      rw [hmi] at hop hp
      dsimp only at hop hp
      have hki : ms[k]? = some i := by
        have h1 := List.findIdx?_eq_some_iff_getElem.1 (show ms.findIdx? (· == i) = some k from hmi)
        obtain ⟨h2, h3, _⟩ := h1
        rw [List.getElem?_eq_getElem h2]
        have h4 : ms[k] = i := by simpa using h3
        rw [h4]
      have hk : xs.length = k := by
        have h1 := hEm k i hki
        rw [hE] at h1
        have h2 : ¬ k < xs.length := fun h => Bool.noConfusion (h1.2 h)
        omega
      have hkl : xs.length < ms.length := by rw [hk]; exact (List.getElem?_eq_some_iff.1 hki).1
      obtain ⟨hr, hs⟩ := hop xs hk
      rw [if_pos hr]
      obtain ⟨T, ds⟩ := a'
      refine hs T ds w _ hJ hkn hou (fun x w' hJ' => ⟨x, rfl, xs ++ [x], by simp; omega, hJ', ?_, ?_, ?_⟩)
      · intro k' m' hm'
        have h1 := hEm k' m' hm'
        by_cases hmi' : m' = i
        · subst hmi'
          have : k' = k := by
            have h2 := (idx k' m' hm').1
            rw [hmi] at h2
            exact (Option.some.inj h2).symm
          simp; omega
        · have : k' ≠ k := by rintro rfl; rw [hki] at hm'; exact hmi' (Option.some.inj hm').symm
          have hb : (m' == i) = false := by simpa using hmi'
          show (m' == i || E m') = true ↔ _
          rw [hb, Bool.false_or, h1]
          simp; omega
      · intro j hj
        by_cases hji : j = i
        · subst hji
          show (if j = j then x else val j) = _
          rw [if_pos rfl]
          exact (hmk xs x j hkl (by rw [hk]; exact hki)).symm
        · show (if j = i then x else val j) = _
          rw [if_neg hji]
          have hEj : E j = true := by simpa [hji] using hj
          rw [hst xs x j (hneed j hEj)]
          exact hv j hEj
      · intro j hj
        by_cases hji : j = i
        · subst hji
          rw [(idx k j hki).2]
          simp; omega
        · have hEj : E j = true := by simpa [hji] using hj
          have := hneed j hEj
          simp; omega
    | none =>
      rw [hmi] at hop hp
      dsimp only at hop hp
      have hs := hop xs hp hxl
      have hem : ∀ k m, ms[k]? = some m → ((m == i || E m) = true ↔ k < xs.length) := by
        intro k m hkm
        have : m ≠ i := by
          rintro rfl
          rw [(idx k m hkm).1] at hmi
          cases hmi
        have hb : (m == i) = false := by simpa using this
        rw [hb, Bool.false_or]
        exact hEm k m hkm
      have hnd : ∀ j, (j == i || E j) = true → need j ≤ xs.length := by
        intro j hj
        by_cases hji : j = i
        · subst hji; exact hp
        · exact hneed j (by simpa [hji] using hj)
      split
      · rename_i hr
        rw [if_pos hr] at hs
        obtain ⟨T, ds⟩ := a'
        refine hs T ds w _ hJ hkn hou (fun w' hJ' => ⟨_, rfl, xs, hxl, hJ', hem, fun j hj => ?_, hnd⟩)
        by_cases hji : j = i
        · subst hji; simp
        · show (if j = i then _ else val j) = _
          rw [if_neg hji]; exact hv j (by simpa [hji] using hj)
      · rename_i hr
        rw [if_neg hr] at hs
        refine ⟨xs, hxl, hJ, hem, fun j hj => ?_, hnd⟩
        by_cases hji : j = i
        · subst hji; simp [hs]
        · show (if j = i then _ else val j) = _
          rw [if_neg hji]; exact hv j (by simpa [hji] using hj)
  · rintro E val w hall ⟨xs, hxl, hJ, hEm, hv, _⟩
    have hfull : xs.length = ms.length := by
      rcases Nat.lt_or_ge xs.length ms.length with h | h
      · have hm' : ms[xs.length]? = some ms[xs.length] := List.getElem?_eq_getElem h
        have h2 : ms[xs.length] < ops.size := by
          have := List.all_eq_true.1 hlt _ (List.mem_of_getElem? hm')
          simpa using this
        have := (hEm _ _ hm').1 (hall _ h2)
        omega
      · omega
    rw [putAll_congr (val' := vs xs) _ _ _ (fun j _ h2 => hv j (hall j (by simpa using h2)))]
    exact fin xs w hfull hJ
end

theorem getD_snoc {xs : List Value} {x d : Value} {k : Nat} (h : k < xs.length) : (xs ++ [x]).getD k d = xs.getD k d := by
  simp [List.getD, List.getElem?_append_left h]

section
variable {P : Program} {Q : Exit → Act → World → Prop} {o : Oper} {a : Act} {w w0 : World} {L : List HProp} {K : Act → World → Prop}

theorem op_append (s x : Operand) (t : TypeId) (ho : o.op = .call { callee := .builtin .append, args := #[s, x], argTypes := #[t, t] })
    (e : TypeId) (ht : P.underlying t = some (.slice e)) (size : Nat) (hsz : sizeT P e = some size) (bytes : Nat) (hby : bytesT P e = some bytes) (z : Value) (hz : zeroT P e = some z) (hzs : z.cells.size = size)
    (v : Value) (n : Nat) (xs : List Value) (hs : a.eval s = v) (H : At w0 (OwnRow e size v n xs :: L) w)
    (sp : Option Addr) (m c : Nat) (news : List Value) (hx : a.eval x = .slice sp m c) (hl : news.length = m * size) (hsp : 0 < m → ∃ ad, sp = some ad ∧ ∀ j u, news[j]? = some u → w.cell? (ad.add j) = some u)
    (h1 : ∀ u ∈ news, u.oneCell' = true) (h63 : n + m ≤ maxLen) (hbytes : (n + m) * bytes ≤ 140737488355328)
    (h : ∀ v' w', At w0 (OwnRow e size v' (n + m) (xs ++ news) :: L) w' → K (a.put o.dst v') w') : o.wp P a w K Q := by
  obtain ⟨v', w', hr, H'⟩ := run_append_at (P := P) (ty := o.type) ht hsz hby hz hzs H sp m c news hl hsp h1 h63 hbytes
  refine op_value (v := v') (w' := w') ?_ (h v' w' H')
  simp [execOp, ho, resolve, invoke, builtin, hs, hx, hr]
end
end Go.Hp
