/-
  Partial heaps and lists of what is owned: a small separation logic over the model's worlds. Plain Lean, no program in sight.
-/
import Derived.WalkKit
import Derived.Laws.Rows
import Derived.Laws.CopyOwn
import Derived.Laws.MakeOwn
import Derived.Lib.Hide
import Derived.Deep.QuietTactic
import Derived.BigQuiet
namespace Go.Hp

/-- A part of a heap. -/
abbrev Hp := Nat → Option Obj

/-- What is said of a part of a heap. -/
abbrev HProp := Hp → Prop

def disj (a b : Hp) : Prop := ∀ k, a k = none ∨ b k = none
def uni (a b : Hp) : Hp := fun k => match a k with | some o => some o | none => b k

/-- All of the list, each in its own part. -/
def Stars : List HProp → HProp
  | [] => fun h => ∀ k, h k = none
  | A :: L => fun h => ∃ a b, disj a b ∧ h = uni a b ∧ A a ∧ Stars L b

/-- One block. -/
def Blk (b : Nat) (o : Obj) : HProp := fun h => h = fun k => if k = b then some o else none

/-- All blocks of a world, as they are there. -/
def Arg (W : World) : HProp := fun h => h = fun k => W.heap[k]?

/-- The world w, whose streams are those of w0, holds all of the list, each in its own part (and perhaps more). -/
def At (w0 : World) (L : List HProp) (w : World) : Prop :=
  w.os = w0.os ∧ w.tape = w0.tape ∧ w.output = w0.output ∧ ∃ h : Hp, (∀ k o, h k = some o → w.heap[k]? = some o) ∧ Stars L h

theorem uni_some {a b : Hp} {k : Nat} {o : Obj} (hd : disj a b) : uni a b k = some o ↔ a k = some o ∨ b k = some o := by
  unfold uni
  rcases hd k with h | h <;> cases ha : a k <;> simp_all

theorem uni_none {a b : Hp} {k : Nat} : uni a b k = none ↔ a k = none ∧ b k = none := by
  unfold uni
  cases ha : a k <;> simp

theorem disj_comm {a b : Hp} (h : disj a b) : disj b a := fun k => (h k).symm

theorem uni_comm {a b : Hp} (h : disj a b) : uni a b = uni b a := by
  funext k
  unfold uni
  rcases h k with h | h <;> cases ha : a k <;> cases hb : b k <;> simp_all

theorem uni_assoc (a b c : Hp) : uni (uni a b) c = uni a (uni b c) := by
  funext k
  unfold uni
  cases a k <;> rfl

theorem disj_uni {a b c : Hp} : disj a (uni b c) ↔ disj a b ∧ disj a c := by
  constructor
  · intro h
    exact ⟨fun k => (h k).imp id (fun e => (uni_none.1 e).1), fun k => (h k).imp id (fun e => (uni_none.1 e).2)⟩
  · rintro ⟨h1, h2⟩ k
    rcases h1 k with e | e
    · exact .inl e
    · rcases h2 k with e2 | e2
      · exact .inl e2
      · exact .inr (uni_none.2 ⟨e, e2⟩)

theorem uni_empty (a : Hp) {b : Hp} (h : ∀ k, b k = none) : uni a b = a := by
  funext k
  unfold uni
  cases ha : a k <;> simp [h]

theorem empty_uni {a : Hp} (b : Hp) (h : ∀ k, a k = none) : uni a b = b := by
  funext k
  unfold uni
  simp [h]

theorem disj_empty (a : Hp) {b : Hp} (h : ∀ k, b k = none) : disj a b := fun k => .inr (h k)

theorem Stars_perm {L M : List HProp} (p : L.Perm M) : ∀ h, Stars L h → Stars M h := by
  induction p with
  | nil => exact fun _ h => h
  | cons A _ ih =>
    rintro h ⟨a, b, hd, rfl, hA, hb⟩
    exact ⟨a, b, hd, rfl, hA, ih _ hb⟩
  | swap A B L =>
    rintro h ⟨b, x, hd, rfl, hB, a, c, hd2, rfl, hA, hc⟩
    obtain ⟨h1, h2⟩ := disj_uni.1 hd
    refine ⟨a, uni b c, disj_uni.2 ⟨disj_comm h1, hd2⟩, ?_, hA, b, c, h2, rfl, hB, hc⟩
    rw [← uni_assoc, uni_comm h1, uni_assoc]
  | trans _ _ ih1 ih2 => exact fun h H => ih2 h (ih1 h H)

theorem Stars_append {L M : List HProp} : ∀ h, Stars (L ++ M) h ↔ ∃ a b, disj a b ∧ h = uni a b ∧ Stars L a ∧ Stars M b := by
  induction L with
  | nil =>
    intro h
    constructor
    · intro H
      exact ⟨fun _ => none, h, fun _ => .inl rfl, (empty_uni h (fun _ => rfl)).symm, fun _ => rfl, H⟩
    · rintro ⟨a, b, _, rfl, ha, hb⟩
      rw [empty_uni b ha]; exact hb
  | cons A L ih =>
    intro h
    constructor
    · rintro ⟨a, b, hd, rfl, hA, hb⟩
      obtain ⟨c, d, hd2, rfl, hc, hdd⟩ := (ih b).1 hb
      obtain ⟨h1, h2⟩ := disj_uni.1 hd
      exact ⟨uni a c, d, disj_comm (disj_uni.2 ⟨disj_comm h2, disj_comm hd2⟩), (uni_assoc a c d).symm, ⟨a, c, h1, rfl, hA, hc⟩, hdd⟩
    · rintro ⟨x, d, hd, rfl, ⟨a, c, hac, rfl, hA, hc⟩, hD⟩
      obtain ⟨h1, h2⟩ := disj_uni.1 (disj_comm hd)
      exact ⟨a, uni c d, disj_uni.2 ⟨hac, disj_comm h1⟩, uni_assoc a c d, hA, (ih _).2 ⟨c, d, disj_comm h2, rfl, hc, hD⟩⟩

section
variable {w0 w w' : World} {L M : List HProp}

theorem At.perm (H : At w0 L w) (p : L.Perm M) : At w0 M w := by
  obtain ⟨h1, h2, h3, h, hs, H⟩ := H
  exact ⟨h1, h2, h3, h, hs, Stars_perm p h H⟩

theorem perm_pick {α : Type} : ∀ (L : List α) (i : Nat) {A : α}, L[i]? = some A → L.Perm (A :: L.eraseIdx i)
  | [], i, A, h => by simp at h
  | B :: L, 0, A, h => by simp at h; subst h; exact List.Perm.refl _
  | B :: L, i + 1, A, h => by
    simp only [List.getElem?_cons_succ] at h
    exact ((perm_pick L i h).cons B).trans (List.Perm.swap A B _)

/-- The i-th of the list set ahead. -/
theorem At.pick (H : At w0 L w) (i : Nat) {A : HProp} (h : L[i]? = some A) : At w0 (A :: L.eraseIdx i) w := H.perm (perm_pick L i h)

/-- The first of the list put back to the place i. -/
theorem At.back {A : HProp} (H : At w0 (A :: L) w) (i : Nat) (h : i ≤ L.length) : At w0 (L.insertIdx i A) w := by
  refine H.perm ?_
  exact (List.perm_insertIdx A L h).symm

theorem At.drop {A : HProp} (H : At w0 (A :: L) w) : At w0 L w := by
  obtain ⟨h1, h2, h3, h, hs, a, b, hd, rfl, hA, hb⟩ := H
  exact ⟨h1, h2, h3, b, fun k o e => hs k o ((uni_some hd).2 (.inr e)), hb⟩

theorem At.drew (H : At w0 L w) : At w0 L w.drew := H

theorem At.drewN (H : At w0 L w) (n : Nat) : At w0 L (w.drewN n) := H

/-- Of the first of the list something is concluded, within the same part. -/
theorem At.imp {A B : HProp} (H : At w0 (A :: L) w) (h : ∀ x, A x → B x) : At w0 (B :: L) w := by
  obtain ⟨h1, h2, h3, x, hs, a, b, hd, rfl, hA, hb⟩ := H
  exact ⟨h1, h2, h3, _, hs, a, b, hd, rfl, h a hA, hb⟩

theorem At.flat {M : List HProp} (H : At w0 (Stars M :: L) w) : At w0 (M ++ L) w := by
  obtain ⟨h1, h2, h3, x, hs, a, b, hd, rfl, hA, hb⟩ := H
  exact ⟨h1, h2, h3, _, hs, (Stars_append _).2 ⟨a, b, hd, rfl, hA, hb⟩⟩

theorem At.fold {M : List HProp} (H : At w0 (M ++ L) w) : At w0 (Stars M :: L) w := by
  obtain ⟨h1, h2, h3, x, hs, H⟩ := H
  obtain ⟨a, b, hd, rfl, hA, hb⟩ := (Stars_append _).1 H
  exact ⟨h1, h2, h3, _, hs, a, b, hd, rfl, hA, hb⟩

theorem At.ex {α : Sort _} {A : α → HProp} (H : At w0 ((fun h => ∃ x, A x h) :: L) w) : ∃ x, At w0 (A x :: L) w := by
  obtain ⟨h1, h2, h3, x, hs, a, b, hd, rfl, ⟨y, hA⟩, hb⟩ := H
  exact ⟨y, h1, h2, h3, _, hs, a, b, hd, rfl, hA, hb⟩

theorem At.and {p : Prop} {A : HProp} (H : At w0 ((fun h => p ∧ A h) :: L) w) : p ∧ At w0 (A :: L) w := by
  obtain ⟨h1, h2, h3, x, hs, a, b, hd, rfl, ⟨y, hA⟩, hb⟩ := H
  exact ⟨y, h1, h2, h3, _, hs, a, b, hd, rfl, hA, hb⟩

theorem At.or {A B : HProp} (H : At w0 ((fun h => A h ∨ B h) :: L) w) : At w0 (A :: L) w ∨ At w0 (B :: L) w := by
  obtain ⟨h1, h2, h3, x, hs, a, b, hd, rfl, hA | hA, hb⟩ := H
  · exact .inl ⟨h1, h2, h3, _, hs, a, b, hd, rfl, hA, hb⟩
  · exact .inr ⟨h1, h2, h3, _, hs, a, b, hd, rfl, hA, hb⟩

/-- A block of the list is there. -/
theorem At.get0 {b : Nat} {o : Obj} (H : At w0 (Blk b o :: L) w) : w.heap[b]? = some o := by
  obtain ⟨_, _, _, x, hs, a, c, hd, rfl, rfl, hb⟩ := H
  exact hs b o ((uni_some hd).2 (.inl (by simp)))

theorem At.get (H : At w0 L w) (i : Nat) {b : Nat} {o : Obj} (h : L[i]? = some (Blk b o)) : w.heap[b]? = some o := (H.pick i h).get0

theorem At.lt (H : At w0 L w) (i : Nat) {b : Nat} {o : Obj} (h : L[i]? = some (Blk b o)) : b < w.heap.size :=
  (Array.getElem?_eq_some_iff.1 (H.get i h)).1

theorem At.old0 {W : World} (H : At w0 (Arg W :: L) w) {k : Nat} (hk : k < W.heap.size) : w.heap[k]? = W.heap[k]? := by
  obtain ⟨_, _, _, x, hs, a, c, hd, rfl, rfl, hb⟩ := H
  have h1 : W.heap[k]? = some W.heap[k] := by simp [hk]
  rw [h1]
  exact hs k _ ((uni_some hd).2 (.inl h1))

theorem At.old (H : At w0 L w) (i : Nat) {W : World} (h : L[i]? = some (Arg W)) {k : Nat} (hk : k < W.heap.size) : w.heap[k]? = W.heap[k]? := (H.pick i h).old0 hk

theorem At.size {W : World} (H : At w0 L w) (i : Nat) (h : L[i]? = some (Arg W)) : W.heap.size ≤ w.heap.size := by
  rcases Nat.lt_or_ge w.heap.size W.heap.size with hlt | hge
  · have h1 := H.old i h hlt
    have h2 : W.heap[w.heap.size]? = some W.heap[w.heap.size] := by simp [hlt]
    rw [h2] at h1
    simp at h1
  · exact hge

/-- Two blocks of the list are unlike. -/
theorem At.ne01 {b c : Nat} {o p : Obj} (H : At w0 (Blk b o :: Blk c p :: L) w) : b ≠ c := by
  obtain ⟨_, _, _, x, hs, a, y, hd, rfl, rfl, a2, y2, hd2, rfl, rfl, hb⟩ := H
  rintro rfl
  have := hd b
  simp [uni] at this

theorem At.ge0 {W : World} {b : Nat} {o : Obj} (H : At w0 (Blk b o :: Arg W :: L) w) : W.heap.size ≤ b := by
  obtain ⟨_, _, _, x, hs, a, y, hd, rfl, rfl, a2, y2, hd2, rfl, rfl, hb⟩ := H
  rcases Nat.lt_or_ge b W.heap.size with hlt | hge
  · have := hd b
    simp [uni, hlt] at this
  · exact hge

/-- What is told stays where a world is as it was at all that is told. -/
theorem At.same (H : At w0 L w) (h1 : w'.os = w.os) (h2 : w'.tape = w.tape) (h3 : w'.output = w.output) (hk : ∀ k, k < w.heap.size → w'.heap[k]? = w.heap[k]?) : At w0 L w' := by
  obtain ⟨a1, a2, a3, x, hs, H⟩ := H
  refine ⟨h1.trans a1, h2.trans a2, h3.trans a3, x, fun k o e => ?_, H⟩
  have := hs k o e
  rw [hk k (Array.getElem?_eq_some_iff.1 this).1]; exact this

/-- A block of the list is written anew; nothing else turns. -/
theorem At.upd0 {b : Nat} {o o' : Obj} (H : At w0 (Blk b o :: L) w) (h1 : w'.os = w.os) (h2 : w'.tape = w.tape) (h3 : w'.output = w.output)
    (hb : w'.heap[b]? = some o') (hk : ∀ k, k < w.heap.size → k ≠ b → w'.heap[k]? = w.heap[k]?) : At w0 (Blk b o' :: L) w' := by
  obtain ⟨a1, a2, a3, x, hs, a, c, hd, rfl, rfl, hc⟩ := H
  have hcb : c b = none := by
    rcases hd b with e | e
    · simp at e
    · exact e
  refine ⟨h1.trans a1, h2.trans a2, h3.trans a3, uni (fun k => if k = b then some o' else none) c, fun k o2 e => ?_, _, c, fun k => ?_, rfl, rfl, hc⟩
  · by_cases hkb : k = b
    · subst hkb
      simp [uni] at e
      rw [hb, e]
    · have e2 : c k = some o2 := by simpa [uni, hkb] using e
      have := hs k o2 ((uni_some hd).2 (.inr e2))
      rw [hk k (Array.getElem?_eq_some_iff.1 this).1 hkb]; exact this
  · by_cases hkb : k = b
    · subst hkb; exact .inr hcb
    · exact .inl (by simp [hkb])

/-- A new block. -/
theorem At.new {o : Obj} (H : At w0 L w) (h1 : w'.os = w.os) (h2 : w'.tape = w.tape) (h3 : w'.output = w.output)
    (hb : w'.heap[w.heap.size]? = some o) (hk : ∀ k, k < w.heap.size → w'.heap[k]? = w.heap[k]?) : At w0 (Blk w.heap.size o :: L) w' := by
  obtain ⟨a1, a2, a3, x, hs, H⟩ := H
  have hx : x w.heap.size = none := by
    cases e : x w.heap.size with
    | none => rfl
    | some o2 => have := hs _ _ e; simp at this
  refine ⟨h1.trans a1, h2.trans a2, h3.trans a3, uni (fun k => if k = w.heap.size then some o else none) x, fun k o2 e => ?_, _, x, fun k => ?_, rfl, rfl, H⟩
  · by_cases hkb : k = w.heap.size
    · subst hkb
      simp [uni] at e
      rw [hb, e]
    · have e2 : x k = some o2 := by simpa [uni, hkb] using e
      have := hs k o2 e2
      rw [hk k (Array.getElem?_eq_some_iff.1 this).1]; exact this
  · by_cases hkb : k = w.heap.size
    · subst hkb; exact .inr hx
    · exact .inl (by simp [hkb])

theorem At.alloc (H : At w0 L w) (o : Obj) : At w0 (Blk w.heap.size o :: L) (w.alloc o) :=
  H.new rfl rfl rfl (heap_alloc_new w o) (fun _ hk => heap_alloc_old w o hk)

theorem At.set0 {b i : Nat} {c : Array Value} {t : TypeId} (H : At w0 (Blk b (.cells c t (0, 0)) :: L) w) (v : Value) :
    At w0 (Blk b (.cells (c.setIfInBounds i v) t (0, 0)) :: L) (w.setCell ⟨b, i, none⟩ v) :=
  H.upd0 rfl rfl rfl (heap_setCell_same w b i c t v H.get0) (fun k _ hk => heap_setCell_other w _ k v hk)

theorem At.setRow0 {b : Nat} {c c' : Array Value} {t : TypeId} (H : At w0 (Blk b (.cells c t (0, 0)) :: L) w) :
    At w0 (Blk b (.cells c' t (0, 0)) :: L) (w.setRow b c') :=
  H.upd0 rfl rfl rfl (setRow_heap w b c c' t _ H.get0) (fun k _ hk => setRow_other w b k c' hk)

theorem At.setObj0 {b : Nat} {o o' : Obj} (H : At w0 (Blk b o :: L) w) : At w0 (Blk b o' :: L) { w with heap := w.heap.setIfInBounds b o' } := by
  have hlt : b < w.heap.size := (Array.getElem?_eq_some_iff.1 H.get0).1
  refine H.upd0 rfl rfl rfl ?_ (fun k _ hk => ?_)
  · simp [hlt]
  · show (w.heap.setIfInBounds b o')[k]? = _
    rw [Array.getElem?_setIfInBounds_ne (fun e => hk e.symm)]

end

theorem At.of (W : World) : At W [Arg W] W :=
  ⟨rfl, rfl, rfl, fun k => W.heap[k]?, fun _ _ e => e, _, fun _ => none, disj_empty _ (fun _ => rfl), (uni_empty _ (fun _ => rfl)).symm, rfl, fun _ => rfl⟩

/-- At the end: below the first world's size nothing has turned. -/
theorem At.below {W w : World} {L : List HProp} (H : At W L w) (i : Nat) (h : L[i]? = some (Arg W)) : RowKit.Below W.heap.size W w := by
  have h1 := H.size i h
  have h2 : ∀ k, k < W.heap.size → w.heap[k]? = W.heap[k]? := fun k hk => H.old i h hk
  obtain ⟨a1, a2, a3, _⟩ := H
  exact ⟨a1, a2, a3, h1, h2⟩

/-- Nothing. -/
def emp : HProp := Stars []

theorem At.addEmp {w0 w : World} {L : List HProp} (H : At w0 L w) : At w0 (emp :: L) w := At.fold (M := []) H

/-- Those of a list that are named by their places, in that order. -/
def selL : List Nat → List HProp → List HProp
  | [], _ => []
  | i :: is, L => L.getD i emp :: selL is (L.set i emp)

theorem At.dropAll {w0 w : World} {S T : List HProp} : ∀ X : List HProp, At w0 (S ++ (X ++ T)) w → At w0 (S ++ T) w
  | [], H => H
  | _ :: X, H => At.dropAll X ((H.perm (List.perm_middle (l₁ := S) (l₂ := X ++ T))).drop)

theorem perm_set {X T : List HProp} {i : Nat} {A : HProp} (h : X[i]? = some A) : (emp :: (X ++ T)).Perm (A :: (X.set i emp ++ T)) := by
  induction X generalizing i with
  | nil => simp at h
  | cons B X ih =>
    cases i with
    | zero =>
      simp at h
      subst h
      exact List.Perm.swap _ _ _
    | succ i =>
      have := ih (i := i) (by simpa using h)
      exact (List.Perm.swap _ _ _).trans ((this.cons B).trans (List.Perm.swap _ _ _))

theorem At.selAll {w0 w : World} {T : List HProp} : ∀ (is : List Nat) (S X : List HProp), At w0 (S ++ (X ++ T)) w → At w0 (S ++ (selL is X ++ T)) w
  | [], S, X, H => At.dropAll X H
  | i :: is, S, X, H => by
    have H1 : At w0 (S ++ ([X.getD i emp] ++ (X.set i emp ++ T))) w := by
      cases hx : X[i]? with
      | none =>
        have hge : X.length ≤ i := by
          rcases Nat.lt_or_ge i X.length with h | h
          · simp [h] at hx
          · exact h
        have e1 : X.getD i emp = emp := by simp [List.getD, hx]
        have e2 : X.set i emp = X := List.set_eq_of_length_le hge
        rw [e1, e2]
        exact H.addEmp.perm (List.perm_middle (l₁ := S) (l₂ := X ++ T)).symm
      | some A =>
        have e1 : X.getD i emp = A := by simp [List.getD, hx]
        rw [e1]
        have H2 := H.addEmp.perm (List.perm_middle (l₁ := S) (l₂ := X ++ T)).symm
        exact H2.perm ((perm_set hx).append_left S)
    have H3 := At.selAll is (S ++ [X.getD i emp]) (X.set i emp) (by simpa using H1)
    simpa [selL] using H3

/-- Those of the first n that are named, in that order, and what stands behind the first n. -/
theorem At.sel {w0 w : World} {L : List HProp} (H : At w0 L w) (n : Nat) (is : List Nat) : At w0 (selL is (L.take n) ++ L.drop n) w :=
  At.selAll is [] (L.take n) (by simpa using H)

/-- A call that hands back v, and what is told then. -/
def Ret (w0 : World) (v : Value) (L : List HProp) (e : Ending) (w : World) : Prop := e = .returned v ∧ At w0 L w

/-- The same, where the result is not known beforehand. -/
def RetEx {α : Sort _} (w0 : World) (v : α → Value) (L : α → List HProp) (e : Ending) (w : World) : Prop := ∃ x, e = .returned (v x) ∧ At w0 (L x) w

end Go.Hp
