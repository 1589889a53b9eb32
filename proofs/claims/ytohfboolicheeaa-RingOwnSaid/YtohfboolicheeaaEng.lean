/-
  The engine: separation, memory, maps, rows, regions that draw their order, iterators, arguments. Whatever the program.
-/
import Derived.WalkKit
import Derived.Laws.Rows
import Derived.Laws.CopyOwn
import Derived.Laws.MakeOwn
import Derived.Lib.Hide
import Derived.Deep.QuietTactic
import Derived.BigQuiet
import Derived.Orders
import Derived.StillTailTactics
import Derived.Carry
import Derived.SizedLaws
import Derived.Deep.Slices
import Derived.WideShapes
import Derived.OpenShut
import Derived.RangeFuncLeaves
import Derived.RangeFuncCalls
import Derived.RangeFuncSeq
import Derived.TacticsInMore
section EngHp
namespace Go.Hp

/-- A part of a heap. -/
abbrev Hp := Nat → Option Obj

/-- What is said of a part of a heap. -/
abbrev HProp := Hp → Prop

def disj (a b : Hp) : Prop := ∀ k, a k = none ∨ b k = none
def uni (a b : Hp) : Hp := fun k => match a k with | some o => some o | none => b k

/-- All of the list, each in its own part. -/
def Stars : List HProp → HProp
  | [] => fun h => ∀ k, h k = none
  | A :: L => fun h => ∃ a b, disj a b ∧ h = uni a b ∧ A a ∧ Stars L b

/-- One block. -/
def Blk (b : Nat) (o : Obj) : HProp := fun h => h = fun k => if k = b then some o else none

/-- All blocks of a world, as they are there. -/
def Arg (W : World) : HProp := fun h => h = fun k => W.heap[k]?

/-- The world w, whose streams are those of w0, holds all of the list, each in its own part (and perhaps more). -/
def At (w0 : World) (L : List HProp) (w : World) : Prop :=
  w.os = w0.os ∧ w.tape = w0.tape ∧ w.output = w0.output ∧ ∃ h : Hp, (∀ k o, h k = some o → w.heap[k]? = some o) ∧ Stars L h

theorem uni_some {a b : Hp} {k : Nat} {o : Obj} (hd : disj a b) : uni a b k = some o ↔ a k = some o ∨ b k = some o := by
  unfold uni
  rcases hd k with h | h <;> cases ha : a k <;> simp_all

theorem uni_none {a b : Hp} {k : Nat} : uni a b k = none ↔ a k = none ∧ b k = none := by
  unfold uni
  cases ha : a k <;> simp

theorem disj_comm {a b : Hp} (h : disj a b) : disj b a := fun k => (h k).symm

theorem uni_comm {a b : Hp} (h : disj a b) : uni a b = uni b a := by
  funext k
  unfold uni
  rcases h k with h | h <;> cases ha : a k <;> cases hb : b k <;> simp_all

theorem uni_assoc (a b c : Hp) : uni (uni a b) c = uni a (uni b c) := by
  funext k
  unfold uni
  cases a k <;> rfl

theorem disj_uni {a b c : Hp} : disj a (uni b c) ↔ disj a b ∧ disj a c := by
  constructor
  · intro h
    exact ⟨fun k => (h k).imp id (fun e => (uni_none.1 e).1), fun k => (h k).imp id (fun e => (uni_none.1 e).2)⟩
  · rintro ⟨h1, h2⟩ k
    rcases h1 k with e | e
    · exact .inl e
    · rcases h2 k with e2 | e2
      · exact .inl e2
      · exact .inr (uni_none.2 ⟨e, e2⟩)

theorem uni_empty (a : Hp) {b : Hp} (h : ∀ k, b k = none) : uni a b = a := by
  funext k
  unfold uni
  cases ha : a k <;> simp [h]

theorem empty_uni {a : Hp} (b : Hp) (h : ∀ k, a k = none) : uni a b = b := by
  funext k
  unfold uni
  simp [h]

theorem disj_empty (a : Hp) {b : Hp} (h : ∀ k, b k = none) : disj a b := fun k => .inr (h k)

theorem Stars_perm {L M : List HProp} (p : L.Perm M) : ∀ h, Stars L h → Stars M h := by
  induction p with
  | nil => exact fun _ h => h
  | cons A _ ih =>
    rintro h ⟨a, b, hd, rfl, hA, hb⟩
    exact ⟨a, b, hd, rfl, hA, ih _ hb⟩
  | swap A B L =>
    rintro h ⟨b, x, hd, rfl, hB, a, c, hd2, rfl, hA, hc⟩
    obtain ⟨h1, h2⟩ := disj_uni.1 hd
    refine ⟨a, uni b c, disj_uni.2 ⟨disj_comm h1, hd2⟩, ?_, hA, b, c, h2, rfl, hB, hc⟩
    rw [← uni_assoc, uni_comm h1, uni_assoc]
  | trans _ _ ih1 ih2 => exact fun h H => ih2 h (ih1 h H)

theorem Stars_append {L M : List HProp} : ∀ h, Stars (L ++ M) h ↔ ∃ a b, disj a b ∧ h = uni a b ∧ Stars L a ∧ Stars M b := by
  induction L with
  | nil =>
    intro h
    constructor
    · intro H
      exact ⟨fun _ => none, h, fun _ => .inl rfl, (empty_uni h (fun _ => rfl)).symm, fun _ => rfl, H⟩
    · rintro ⟨a, b, _, rfl, ha, hb⟩
      rw [empty_uni b ha]; exact hb
  | cons A L ih =>
    intro h
    constructor
    · rintro ⟨a, b, hd, rfl, hA, hb⟩
      obtain ⟨c, d, hd2, rfl, hc, hdd⟩ := (ih b).1 hb
      obtain ⟨h1, h2⟩ := disj_uni.1 hd
      exact ⟨uni a c, d, disj_comm (disj_uni.2 ⟨disj_comm h2, disj_comm hd2⟩), (uni_assoc a c d).symm, ⟨a, c, h1, rfl, hA, hc⟩, hdd⟩
    · rintro ⟨x, d, hd, rfl, ⟨a, c, hac, rfl, hA, hc⟩, hD⟩
      obtain ⟨h1, h2⟩ := disj_uni.1 (disj_comm hd)
      exact ⟨a, uni c d, disj_uni.2 ⟨hac, disj_comm h1⟩, uni_assoc a c d, hA, (ih _).2 ⟨c, d, disj_comm h2, rfl, hc, hD⟩⟩

section
variable {w0 w w' : World} {L M : List HProp}

theorem At.perm (H : At w0 L w) (p : L.Perm M) : At w0 M w := by
  obtain ⟨h1, h2, h3, h, hs, H⟩ := H
  exact ⟨h1, h2, h3, h, hs, Stars_perm p h H⟩

theorem perm_pick {α : Type} : ∀ (L : List α) (i : Nat) {A : α}, L[i]? = some A → L.Perm (A :: L.eraseIdx i)
  | [], i, A, h => by simp at h
  | B :: L, 0, A, h => by simp at h; subst h; exact List.Perm.refl _
  | B :: L, i + 1, A, h => by
    simp only [List.getElem?_cons_succ] at h
    exact ((perm_pick L i h).cons B).trans (List.Perm.swap A B _)

/-- The i-th of the list set ahead. -/
theorem At.pick (H : At w0 L w) (i : Nat) {A : HProp} (h : L[i]? = some A) : At w0 (A :: L.eraseIdx i) w := H.perm (perm_pick L i h)

/-- The first of the list put back to the place i. -/
theorem At.back {A : HProp} (H : At w0 (A :: L) w) (i : Nat) (h : i ≤ L.length) : At w0 (L.insertIdx i A) w := by
  refine H.perm ?_
  exact (List.perm_insertIdx A L h).symm

theorem At.drop {A : HProp} (H : At w0 (A :: L) w) : At w0 L w := by
  obtain ⟨h1, h2, h3, h, hs, a, b, hd, rfl, hA, hb⟩ := H
  exact ⟨h1, h2, h3, b, fun k o e => hs k o ((uni_some hd).2 (.inr e)), hb⟩

theorem At.drew (H : At w0 L w) : At w0 L w.drew := H

theorem At.drewN (H : At w0 L w) (n : Nat) : At w0 L (w.drewN n) := H

/-- Of the first of the list something is concluded, within the same part. -/
theorem At.imp {A B : HProp} (H : At w0 (A :: L) w) (h : ∀ x, A x → B x) : At w0 (B :: L) w := by
  obtain ⟨h1, h2, h3, x, hs, a, b, hd, rfl, hA, hb⟩ := H
  exact ⟨h1, h2, h3, _, hs, a, b, hd, rfl, h a hA, hb⟩

theorem At.flat {M : List HProp} (H : At w0 (Stars M :: L) w) : At w0 (M ++ L) w := by
  obtain ⟨h1, h2, h3, x, hs, a, b, hd, rfl, hA, hb⟩ := H
  exact ⟨h1, h2, h3, _, hs, (Stars_append _).2 ⟨a, b, hd, rfl, hA, hb⟩⟩

theorem At.fold {M : List HProp} (H : At w0 (M ++ L) w) : At w0 (Stars M :: L) w := by
  obtain ⟨h1, h2, h3, x, hs, H⟩ := H
  obtain ⟨a, b, hd, rfl, hA, hb⟩ := (Stars_append _).1 H
  exact ⟨h1, h2, h3, _, hs, a, b, hd, rfl, hA, hb⟩

theorem At.ex {α : Sort _} {A : α → HProp} (H : At w0 ((fun h => ∃ x, A x h) :: L) w) : ∃ x, At w0 (A x :: L) w := by
  obtain ⟨h1, h2, h3, x, hs, a, b, hd, rfl, ⟨y, hA⟩, hb⟩ := H
  exact ⟨y, h1, h2, h3, _, hs, a, b, hd, rfl, hA, hb⟩

theorem At.and {p : Prop} {A : HProp} (H : At w0 ((fun h => p ∧ A h) :: L) w) : p ∧ At w0 (A :: L) w := by
  obtain ⟨h1, h2, h3, x, hs, a, b, hd, rfl, ⟨y, hA⟩, hb⟩ := H
  exact ⟨y, h1, h2, h3, _, hs, a, b, hd, rfl, hA, hb⟩

theorem At.or {A B : HProp} (H : At w0 ((fun h => A h ∨ B h) :: L) w) : At w0 (A :: L) w ∨ At w0 (B :: L) w := by
  obtain ⟨h1, h2, h3, x, hs, a, b, hd, rfl, hA | hA, hb⟩ := H
  · exact .inl ⟨h1, h2, h3, _, hs, a, b, hd, rfl, hA, hb⟩
  · exact .inr ⟨h1, h2, h3, _, hs, a, b, hd, rfl, hA, hb⟩

/-- A block of the list is there. -/
theorem At.get0 {b : Nat} {o : Obj} (H : At w0 (Blk b o :: L) w) : w.heap[b]? = some o := by
  obtain ⟨_, _, _, x, hs, a, c, hd, rfl, rfl, hb⟩ := H
  exact hs b o ((uni_some hd).2 (.inl (by simp)))

theorem At.get (H : At w0 L w) (i : Nat) {b : Nat} {o : Obj} (h : L[i]? = some (Blk b o)) : w.heap[b]? = some o := (H.pick i h).get0

theorem At.lt (H : At w0 L w) (i : Nat) {b : Nat} {o : Obj} (h : L[i]? = some (Blk b o)) : b < w.heap.size :=
  (Array.getElem?_eq_some_iff.1 (H.get i h)).1

theorem At.old0 {W : World} (H : At w0 (Arg W :: L) w) {k : Nat} (hk : k < W.heap.size) : w.heap[k]? = W.heap[k]? := by
  obtain ⟨_, _, _, x, hs, a, c, hd, rfl, rfl, hb⟩ := H
  have h1 : W.heap[k]? = some W.heap[k] := by simp [hk]
  rw [h1]
  exact hs k _ ((uni_some hd).2 (.inl h1))

theorem At.old (H : At w0 L w) (i : Nat) {W : World} (h : L[i]? = some (Arg W)) {k : Nat} (hk : k < W.heap.size) : w.heap[k]? = W.heap[k]? := (H.pick i h).old0 hk

theorem At.size {W : World} (H : At w0 L w) (i : Nat) (h : L[i]? = some (Arg W)) : W.heap.size ≤ w.heap.size := by
  rcases Nat.lt_or_ge w.heap.size W.heap.size with hlt | hge
  · have h1 := H.old i h hlt
    have h2 : W.heap[w.heap.size]? = some W.heap[w.heap.size] := by simp [hlt]
    rw [h2] at h1
    simp at h1
  · exact hge

/-- Two blocks of the list are unlike. -/
theorem At.ne01 {b c : Nat} {o p : Obj} (H : At w0 (Blk b o :: Blk c p :: L) w) : b ≠ c := by
  obtain ⟨_, _, _, x, hs, a, y, hd, rfl, rfl, a2, y2, hd2, rfl, rfl, hb⟩ := H
  rintro rfl
  have := hd b
  simp [uni] at this

theorem At.ge0 {W : World} {b : Nat} {o : Obj} (H : At w0 (Blk b o :: Arg W :: L) w) : W.heap.size ≤ b := by
  obtain ⟨_, _, _, x, hs, a, y, hd, rfl, rfl, a2, y2, hd2, rfl, rfl, hb⟩ := H
  rcases Nat.lt_or_ge b W.heap.size with hlt | hge
  · have := hd b
    simp [uni, hlt] at this
  · exact hge

/-- What is told stays where a world is as it was at all that is told. -/
theorem At.same (H : At w0 L w) (h1 : w'.os = w.os) (h2 : w'.tape = w.tape) (h3 : w'.output = w.output) (hk : ∀ k, k < w.heap.size → w'.heap[k]? = w.heap[k]?) : At w0 L w' := by
  obtain ⟨a1, a2, a3, x, hs, H⟩ := H
  refine ⟨h1.trans a1, h2.trans a2, h3.trans a3, x, fun k o e => ?_, H⟩
  have := hs k o e
  rw [hk k (Array.getElem?_eq_some_iff.1 this).1]; exact this

/-- A block of the list is written anew; nothing else turns. -/
theorem At.upd0 {b : Nat} {o o' : Obj} (H : At w0 (Blk b o :: L) w) (h1 : w'.os = w.os) (h2 : w'.tape = w.tape) (h3 : w'.output = w.output)
    (hb : w'.heap[b]? = some o') (hk : ∀ k, k < w.heap.size → k ≠ b → w'.heap[k]? = w.heap[k]?) : At w0 (Blk b o' :: L) w' := by
  obtain ⟨a1, a2, a3, x, hs, a, c, hd, rfl, rfl, hc⟩ := H
  have hcb : c b = none := by
    rcases hd b with e | e
    · simp at e
    · exact e
  refine ⟨h1.trans a1, h2.trans a2, h3.trans a3, uni (fun k => if k = b then some o' else none) c, fun k o2 e => ?_, _, c, fun k => ?_, rfl, rfl, hc⟩
  · by_cases hkb : k = b
    · subst hkb
      simp [uni] at e
      rw [hb, e]
    · have e2 : c k = some o2 := by simpa [uni, hkb] using e
      have := hs k o2 ((uni_some hd).2 (.inr e2))
      rw [hk k (Array.getElem?_eq_some_iff.1 this).1 hkb]; exact this
  · by_cases hkb : k = b
    · subst hkb; exact .inr hcb
    · exact .inl (by simp [hkb])

/-- A new block. -/
theorem At.new {o : Obj} (H : At w0 L w) (h1 : w'.os = w.os) (h2 : w'.tape = w.tape) (h3 : w'.output = w.output)
    (hb : w'.heap[w.heap.size]? = some o) (hk : ∀ k, k < w.heap.size → w'.heap[k]? = w.heap[k]?) : At w0 (Blk w.heap.size o :: L) w' := by
  obtain ⟨a1, a2, a3, x, hs, H⟩ := H
  have hx : x w.heap.size = none := by
    cases e : x w.heap.size with
    | none => rfl
    | some o2 => have := hs _ _ e; simp at this
  refine ⟨h1.trans a1, h2.trans a2, h3.trans a3, uni (fun k => if k = w.heap.size then some o else none) x, fun k o2 e => ?_, _, x, fun k => ?_, rfl, rfl, H⟩
  · by_cases hkb : k = w.heap.size
    · subst hkb
      simp [uni] at e
      rw [hb, e]
    · have e2 : x k = some o2 := by simpa [uni, hkb] using e
      have := hs k o2 e2
      rw [hk k (Array.getElem?_eq_some_iff.1 this).1]; exact this
  · by_cases hkb : k = w.heap.size
    · subst hkb; exact .inr hx
    · exact .inl (by simp [hkb])

theorem At.alloc (H : At w0 L w) (o : Obj) : At w0 (Blk w.heap.size o :: L) (w.alloc o) :=
  H.new rfl rfl rfl (heap_alloc_new w o) (fun _ hk => heap_alloc_old w o hk)

theorem At.set0 {b i : Nat} {c : Array Value} {t : TypeId} (H : At w0 (Blk b (.cells c t (0, 0)) :: L) w) (v : Value) :
    At w0 (Blk b (.cells (c.setIfInBounds i v) t (0, 0)) :: L) (w.setCell ⟨b, i, none⟩ v) :=
  H.upd0 rfl rfl rfl (heap_setCell_same w b i c t v H.get0) (fun k _ hk => heap_setCell_other w _ k v hk)

theorem At.setRow0 {b : Nat} {c c' : Array Value} {t : TypeId} (H : At w0 (Blk b (.cells c t (0, 0)) :: L) w) :
    At w0 (Blk b (.cells c' t (0, 0)) :: L) (w.setRow b c') :=
  H.upd0 rfl rfl rfl (setRow_heap w b c c' t _ H.get0) (fun k _ hk => setRow_other w b k c' hk)

theorem At.setObj0 {b : Nat} {o o' : Obj} (H : At w0 (Blk b o :: L) w) : At w0 (Blk b o' :: L) { w with heap := w.heap.setIfInBounds b o' } := by
  have hlt : b < w.heap.size := (Array.getElem?_eq_some_iff.1 H.get0).1
  refine H.upd0 rfl rfl rfl ?_ (fun k _ hk => ?_)
  · simp [hlt]
  · show (w.heap.setIfInBounds b o')[k]? = _
    rw [Array.getElem?_setIfInBounds_ne (fun e => hk e.symm)]

end

theorem At.of (W : World) : At W [Arg W] W :=
  ⟨rfl, rfl, rfl, fun k => W.heap[k]?, fun _ _ e => e, _, fun _ => none, disj_empty _ (fun _ => rfl), (uni_empty _ (fun _ => rfl)).symm, rfl, fun _ => rfl⟩

/-- At the end: below the first world's size nothing has turned. -/
theorem At.below {W w : World} {L : List HProp} (H : At W L w) (i : Nat) (h : L[i]? = some (Arg W)) : RowKit.Below W.heap.size W w := by
  have h1 := H.size i h
  have h2 : ∀ k, k < W.heap.size → w.heap[k]? = W.heap[k]? := fun k hk => H.old i h hk
  obtain ⟨a1, a2, a3, _⟩ := H
  exact ⟨a1, a2, a3, h1, h2⟩

/-- Nothing. -/
def emp : HProp := Stars []

theorem At.addEmp {w0 w : World} {L : List HProp} (H : At w0 L w) : At w0 (emp :: L) w := At.fold (M := []) H

/-- Those of a list that are named by their places, in that order. -/
def selL : List Nat → List HProp → List HProp
  | [], _ => []
  | i :: is, L => L.getD i emp :: selL is (L.set i emp)

theorem At.dropAll {w0 w : World} {S T : List HProp} : ∀ X : List HProp, At w0 (S ++ (X ++ T)) w → At w0 (S ++ T) w
  | [], H => H
  | _ :: X, H => At.dropAll X ((H.perm (List.perm_middle (l₁ := S) (l₂ := X ++ T))).drop)

theorem perm_set {X T : List HProp} {i : Nat} {A : HProp} (h : X[i]? = some A) : (emp :: (X ++ T)).Perm (A :: (X.set i emp ++ T)) := by
  induction X generalizing i with
  | nil => simp at h
  | cons B X ih =>
    cases i with
    | zero =>
      simp at h
      subst h
      exact List.Perm.swap _ _ _
    | succ i =>
      have := ih (i := i) (by simpa using h)
      exact (List.Perm.swap _ _ _).trans ((this.cons B).trans (List.Perm.swap _ _ _))

theorem At.selAll {w0 w : World} {T : List HProp} : ∀ (is : List Nat) (S X : List HProp), At w0 (S ++ (X ++ T)) w → At w0 (S ++ (selL is X ++ T)) w
  | [], S, X, H => At.dropAll X H
  | i :: is, S, X, H => by
    have H1 : At w0 (S ++ ([X.getD i emp] ++ (X.set i emp ++ T))) w := by
      cases hx : X[i]? with
      | none =>
        have hge : X.length ≤ i := by
          rcases Nat.lt_or_ge i X.length with h | h
          · simp [h] at hx
          · exact h
        have e1 : X.getD i emp = emp := by simp [List.getD, hx]
        have e2 : X.set i emp = X := List.set_eq_of_length_le hge
        rw [e1, e2]
        exact H.addEmp.perm (List.perm_middle (l₁ := S) (l₂ := X ++ T)).symm
      | some A =>
        have e1 : X.getD i emp = A := by simp [List.getD, hx]
        rw [e1]
        have H2 := H.addEmp.perm (List.perm_middle (l₁ := S) (l₂ := X ++ T)).symm
        exact H2.perm ((perm_set hx).append_left S)
    have H3 := At.selAll is (S ++ [X.getD i emp]) (X.set i emp) (by simpa using H1)
    simpa [selL] using H3

/-- Those of the first n that are named, in that order, and what stands behind the first n. -/
theorem At.sel {w0 w : World} {L : List HProp} (H : At w0 L w) (n : Nat) (is : List Nat) : At w0 (selL is (L.take n) ++ L.drop n) w :=
  At.selAll is [] (L.take n) (by simpa using H)

/-- A call that hands back v, and what is told then. -/
def Ret (w0 : World) (v : Value) (L : List HProp) (e : Ending) (w : World) : Prop := e = .returned v ∧ At w0 L w

/-- The same, where the result is not known beforehand. -/
def RetEx {α : Sort _} (w0 : World) (v : α → Value) (L : α → List HProp) (e : Ending) (w : World) : Prop := ∃ x, e = .returned (v x) ∧ At w0 (L x) w

end Go.Hp
end EngHp
section EngMem
namespace Go.Hp
open Go.RowKit

/-- The bytes as values. -/
def bv (l : List UInt8) : List Value := l.map fun b => .int .u8 b.toNat
@[simp] theorem length_bv (l : List UInt8) : (bv l).length = l.length := by simp [bv]
theorem bv_get (l : List UInt8) (i : Nat) (h : i < l.length) : (bv l)[i]? = some (.int .u8 l[i].toNat) := by simp [bv, h]
theorem bv_one (l : List UInt8) : ∀ v ∈ bv l, v.oneCell' = true := by
  intro v hv
  obtain ⟨b, _, rfl⟩ := List.mem_map.1 hv
  rfl
theorem bv_append (l m : List UInt8) : bv (l ++ m) = bv l ++ bv m := by simp [bv]
theorem bv_inj {l m : List UInt8} (h : bv l = bv m) : l = m := by
  induction l generalizing m with
  | nil => cases m <;> simp_all [bv]
  | cons a l ih =>
    cases m with
    | nil => simp [bv] at h
    | cons b m =>
      simp only [bv, List.map_cons, List.cons.injEq, Value.int.injEq, true_and] at h
      rw [ih (by simpa [bv] using h.2)]
      have : a.toNat = b.toNat := by omega
      rw [UInt8.toNat_inj.1 this]

/-- A type of one cell. -/
def plainT (P : Program) (T : TypeId) : Bool := match P.underlying T with
  | none | some (.struct _) | some (.array _ _) => false
  | _ => true
def aggT (P : Program) (T : TypeId) : Bool := match P.underlying T with
  | some (.struct _) | some (.array _ _) => true
  | _ => false
def sizeT (P : Program) (T : TypeId) : Option Nat := (P.info? T).map (·.size)
def zeroT (P : Program) (T : TypeId) : Option Value := (P.info? T).bind (·.zero)

section
variable {P : Program} {w w' : World}

theorem run_isAgg_plain {T : TypeId} (h : plainT P T = true) : (isAgg T).run P w = .ok false w := by
  unfold plainT at h
  cases hu : P.underlying T with
  | none => simp [hu] at h
  | some d =>
    simp only [isAgg, Sem.run_bind, run_underlying hu, Result.andThen_ok]
    cases d <;> simp_all
theorem run_isAgg_agg {T : TypeId} (h : aggT P T = true) : (isAgg T).run P w = .ok true w := by
  unfold aggT at h
  cases hu : P.underlying T with
  | none => simp [hu] at h
  | some d =>
    simp only [isAgg, Sem.run_bind, run_underlying hu, Result.andThen_ok]
    cases d <;> simp_all
theorem run_sizeOf {T : TypeId} {n : Nat} (h : sizeT P T = some n) : (sizeOf T).run P w = .ok n w := by
  unfold sizeT at h
  cases hi : P.info? T with
  | none => simp [hi] at h
  | some i => simp [hi] at h; simp [sizeOf, typeInfo, hi, h]
theorem run_zeroValue {T : TypeId} {z : Value} (h : zeroT P T = some z) : (zeroValue T).run P w = .ok z w := by
  unfold zeroT at h
  cases hi : P.info? T with
  | none => simp [hi] at h
  | some i => simp [hi] at h; simp [zeroValue, typeInfo, hi, h]

theorem run_loadVar_cell {T : TypeId} {g off : Nat} {c : Array Value} {t : TypeId} {fr : Nat × Nat} {v : Value} (hT : plainT P T = true)
    (hg : w.heap[g]? = some (.cells c t fr)) (hc : c[off]? = some v) : (loadVar T ⟨g, off, none⟩).run P w = .ok v w := by
  simp [loadVar, run_isAgg_plain hT, cell_of_row w g off c t fr hg, hc]

theorem run_loadVar_agg {T : TypeId} {g off n : Nat} {c : Array Value} {t : TypeId} {fr : Nat × Nat} (hT : aggT P T = true) (hn : sizeT P T = some n)
    (hg : w.heap[g]? = some (.cells c t fr)) (hc : off + n ≤ c.size) : (loadVar T ⟨g, off, none⟩).run P w = .ok (.agg (c.extract off (off + n))) w := by
  have hl : (loadCells ⟨g, off, none⟩ (c.extract off (off + n)).toList.length).run P w = .ok (c.extract off (off + n)).toList.toArray w :=
    run_loadCells_list (P := P) w _ _ (fun j v hj => by
      rw [Addr.add_lit, cell_of_row w g (off + j) c t fr hg]
      simp only [Array.getElem?_toList, Array.getElem?_extract] at hj
      split at hj
      · exact hj
      · simp at hj)
  have hs : (c.extract off (off + n)).toList.length = n := by simp; omega
  rw [hs, Array.toArray_toList] at hl
  simp only [loadVar, Sem.run_bind, run_isAgg_agg hT, run_sizeOf hn, hl, Result.andThen_ok, if_true, Sem.run_pure]

theorem run_storeVar_cell {T : TypeId} {g off : Nat} {c : Array Value} {t : TypeId} {v : Value} (hn : sizeT P T = some 1) (hv : v.oneCell' = true)
    (hg : w.heap[g]? = some (.cells c t (0, 0))) (hc : off < c.size) : (storeVar T ⟨g, off, none⟩ v).run P w = .ok () (w.setCell ⟨g, off, none⟩ v) := by
  have hcs : v.cells = #[v] := by cases v <;> first | rfl | simp [Value.oneCell'] at hv
  have hcell : w.cell? ⟨g, off, none⟩ = some c[off] := by rw [cell_of_row w g off c t _ hg]; simp [hc]
  have hst : (store ⟨g, off, none⟩ v).run P w = .ok () (w.setCell ⟨g, off, none⟩ v) := by
    rw [run_store P w _ v _ hv, hcell]
    simp [frozen_of_row w g off c t hg]
  simp [storeVar, run_sizeOf hn, hcs, storeCells, Addr.add_zero', hst]

theorem run_storeVar_agg {T : TypeId} {g off : Nat} {c vs : Array Value} {t : TypeId} (hn : sizeT P T = some vs.size) (hv : ∀ v ∈ vs.toList, v.oneCell' = true)
    (hg : w.heap[g]? = some (.cells c t (0, 0))) (hc : off + vs.size ≤ c.size) :
    (storeVar T ⟨g, off, none⟩ (.agg vs)).run P w = .ok () (w.setRow g (c.toList.take off ++ vs.toList ++ c.toList.drop (off + vs.size)).toArray) := by
  have := run_storeCells_at P g off t vs.toList 0 c w hg (by simpa using hc) hv
  simp only [Nat.add_zero, Array.length_toList] at this
  simp [storeVar, run_sizeOf hn, Value.cells, this]

end

section
variable {P : Program} {ops : Array Oper} {Q : Exit → Act → World → Prop} {a : Act} {w : World} {rest : List Oper} {o : Oper} {w0 : World} {L : List HProp}

theorem st_value (hw : Region.wanted o (yielded ops a.tmps) = true) {v : Value} {w' : World} (hr : (execOp a.eval o).run P w = .ok (.value v) w')
    (h : wpList P ops Q rest (a.put o.dst v) w') : wpList P ops Q (o :: rest) a w := by
  unfold wpList
  rw [if_pos hw]
  refine .inl ?_
  unfold Oper.wp
  rw [hr]
  exact h

theorem st_skip (hw : Region.wanted o (yielded ops a.tmps) = true) {w' : World} (hr : (execOp a.eval o).run P w = .ok .skip w')
    (h : wpList P ops Q rest (a.put o.dst undef) w') : wpList P ops Q (o :: rest) a w := by
  unfold wpList
  rw [if_pos hw]
  refine .inl ?_
  unfold Oper.wp
  rw [hr]
  exact h

theorem k_load {d : Option Tmp} {T : TypeId} {x : Operand} {ty : TypeId} {p : String} {af : Array Edge} {g : Option (Nat × Bool)} (h : wpList P ops Q (⟨d, .load T x, ty, p, af, g⟩ :: rest) a w) : wpList P ops Q (⟨d, .load T x, ty, p, af, g⟩ :: rest) a w := h
theorem k_store {d : Option Tmp} {T : TypeId} {x y : Operand} {ty : TypeId} {p : String} {af : Array Edge} {g : Option (Nat × Bool)} (h : wpList P ops Q (⟨d, .store T x y, ty, p, af, g⟩ :: rest) a w) : wpList P ops Q (⟨d, .store T x y, ty, p, af, g⟩ :: rest) a w := h
theorem k_alloc {d : Option Tmp} {T : TypeId} {ty : TypeId} {p : String} {af : Array Edge} {g : Option (Nat × Bool)} (h : wpList P ops Q (⟨d, .alloc T, ty, p, af, g⟩ :: rest) a w) : wpList P ops Q (⟨d, .alloc T, ty, p, af, g⟩ :: rest) a w := h
theorem k_box {d : Option Tmp} {T : TypeId} {x : Operand} {ty : TypeId} {p : String} {af : Array Edge} {g : Option (Nat × Bool)} (h : wpList P ops Q (⟨d, .box T x, ty, p, af, g⟩ :: rest) a w) : wpList P ops Q (⟨d, .box T x, ty, p, af, g⟩ :: rest) a w := h
theorem k_call {d : Option Tmp} {c : Call} {ty : TypeId} {p : String} {af : Array Edge} {g : Option (Nat × Bool)} (h : wpList P ops Q (⟨d, .call c, ty, p, af, g⟩ :: rest) a w) : wpList P ops Q (⟨d, .call c, ty, p, af, g⟩ :: rest) a w := h
theorem k_builtin {d : Option Tmp} {b : Builtin} {xs : Array Operand} {ts : Array TypeId} {ty : TypeId} {p : String} {af : Array Edge} {g : Option (Nat × Bool)} (h : wpList P ops Q (⟨d, .call { callee := .builtin b, args := xs, argTypes := ts }, ty, p, af, g⟩ :: rest) a w) :
    wpList P ops Q (⟨d, .call { callee := .builtin b, args := xs, argTypes := ts }, ty, p, af, g⟩ :: rest) a w := h
theorem k_lit {d : Option Tmp} {T : TypeId} {k : Nat} {ps : Array (Nat × Operand)} {ty : TypeId} {p : String} {af : Array Edge} {g : Option (Nat × Bool)} (h : wpList P ops Q (⟨d, .buildSlice T k ps, ty, p, af, g⟩ :: rest) a w) : wpList P ops Q (⟨d, .buildSlice T k ps, ty, p, af, g⟩ :: rest) a w := h
theorem k_make {d : Option Tmp} {T : TypeId} {x y : Operand} {ty : TypeId} {p : String} {af : Array Edge} {g : Option (Nat × Bool)} (h : wpList P ops Q (⟨d, .makeSlice T x y, ty, p, af, g⟩ :: rest) a w) : wpList P ops Q (⟨d, .makeSlice T x y, ty, p, af, g⟩ :: rest) a w := h

/-- A cell is read. -/
theorem st_load (hw : Region.wanted o (yielded ops a.tmps) = true) (T : TypeId) (x : Operand) (ho : o.op = .load T x) (g off : Nat) (hx : a.eval x = .pointer (some ⟨g, off, none⟩))
    (hT : plainT P T = true) (H : At w0 L w) (i : Nat) {c : Array Value} {t : TypeId} {fr : Nat × Nat} (hL : L[i]? = some (Blk g (.cells c t fr))) {v : Value} (hc : c[off]? = some v)
    (h : ∀ K : Act → World → Prop, (∀ a w, wpList P ops Q rest a w → K a w) → K (a.put o.dst v) w) : wpList P ops Q (o :: rest) a w := by
  refine st_value hw (v := v) (w' := w) ?_ (h _ fun _ _ h => h)
  simp [execOp, ho, hx, Instr.loadAt, Instr.sureAddr, run_loadVar_cell hT (H.get i hL) hc]

/-- Several cells are read. -/
theorem st_loads (hw : Region.wanted o (yielded ops a.tmps) = true) (T : TypeId) (x : Operand) (ho : o.op = .load T x) (g off : Nat) (hx : a.eval x = .pointer (some ⟨g, off, none⟩))
    (hT : aggT P T = true) (n : Nat) (hn : sizeT P T = some n) (H : At w0 L w) (i : Nat) {c : Array Value} {t : TypeId} {fr : Nat × Nat} (hL : L[i]? = some (Blk g (.cells c t fr))) (hc : off + n ≤ c.size)
    (h : ∀ K : Act → World → Prop, (∀ a w, wpList P ops Q rest a w → K a w) → K (a.put o.dst (.agg (c.extract off (off + n)))) w) : wpList P ops Q (o :: rest) a w := by
  refine st_value hw (v := .agg (c.extract off (off + n))) (w' := w) ?_ (h _ fun _ _ h => h)
  simp [execOp, ho, hx, Instr.loadAt, Instr.sureAddr, run_loadVar_agg hT hn (H.get i hL) hc]

/-- A whole block is read. -/
theorem st_row (hw : Region.wanted o (yielded ops a.tmps) = true) (T : TypeId) (x : Operand) (ho : o.op = .load T x) (g : Nat) (hx : a.eval x = .pointer (some ⟨g, 0, none⟩))
    (hT : aggT P T = true) (n : Nat) (hn : sizeT P T = some n) (H : At w0 L w) (i : Nat) {c : Array Value} {t : TypeId} {fr : Nat × Nat} (hL : L[i]? = some (Blk g (.cells c t fr))) (hc : c.size = n)
    (h : ∀ K : Act → World → Prop, (∀ a w, wpList P ops Q rest a w → K a w) → K (a.put o.dst (.agg c)) w) : wpList P ops Q (o :: rest) a w := by
  refine st_loads hw T x ho g 0 hx hT n hn H i hL (by omega) ?_
  have e : c.extract 0 (0 + n) = c := by rw [Nat.zero_add, ← hc, Array.extract_size]
  rw [e]
  exact h

/-- A cell is written. -/
theorem st_store (hw : Region.wanted o (yielded ops a.tmps) = true) (T : TypeId) (x y : Operand) (ho : o.op = .store T x y) (g off : Nat) (hx : a.eval x = .pointer (some ⟨g, off, none⟩))
    (v : Value) (hy : a.eval y = v) (hv : v.oneCell' = true) (hn : sizeT P T = some 1) (H : At w0 L w) (i : Nat) {c : Array Value} {t : TypeId} (hL : L[i]? = some (Blk g (.cells c t (0, 0)))) (hc : off < c.size)
    (h : ∀ w', At w0 (L.set i (Blk g (.cells (c.setIfInBounds off v) t (0, 0)))) w' → ∀ K : Act → World → Prop, (∀ a w, wpList P ops Q rest a w → K a w) → K (a.put o.dst undef) w') : wpList P ops Q (o :: rest) a w := by
  refine st_skip hw (w' := w.setCell ⟨g, off, none⟩ v) ?_ (h _ ?_ _ fun _ _ h => h)
  · simp [execOp, ho, hx, hy, Instr.storeAt, Instr.sureAddr, run_storeVar_cell hn hv (H.get i hL) hc]
  · have h1 := (H.pick i hL).set0 (i := off) v
    have hi : i < L.length := by
      rcases Nat.lt_or_ge i L.length with h | h
      · exact h
      · simp [List.getElem?_eq_none h] at hL
    exact h1.perm (List.Perm.symm (set_perm L i hi _))
where
  set_perm (L : List HProp) (i : Nat) (hi : i < L.length) (A : HProp) : (L.set i A).Perm (A :: L.eraseIdx i) := by
    have h := perm_pick (L.set i A) i (A := A) (by simp [hi])
    rwa [List.eraseIdx_set_eq] at h

/-- The place i of a list, written anew. -/
theorem At.setAt {A B : HProp} {w' : World} (H : At w0 L w) (i : Nat) (hL : L[i]? = some A) (h : At w0 (A :: L.eraseIdx i) w → At w0 (B :: L.eraseIdx i) w') : At w0 (L.set i B) w' := by
  have hi : i < L.length := by
    rcases Nat.lt_or_ge i L.length with h | h
    · exact h
    · simp [List.getElem?_eq_none h] at hL
  exact (h (H.pick i hL)).perm (List.Perm.symm (st_store.set_perm L i hi B))

/-- A whole block is written. -/
theorem st_put (hw : Region.wanted o (yielded ops a.tmps) = true) (T : TypeId) (x y : Operand) (ho : o.op = .store T x y) (g : Nat) (hx : a.eval x = .pointer (some ⟨g, 0, none⟩))
    (vs : Array Value) (hy : a.eval y = .agg vs) (hv : ∀ v ∈ vs.toList, v.oneCell' = true) (hn : sizeT P T = some vs.size) (H : At w0 L w) (i : Nat) {c : Array Value} {t : TypeId} (hL : L[i]? = some (Blk g (.cells c t (0, 0)))) (hc : vs.size = c.size)
    (h : ∀ w', At w0 (L.set i (Blk g (.cells vs t (0, 0)))) w' → ∀ K : Act → World → Prop, (∀ a w, wpList P ops Q rest a w → K a w) → K (a.put o.dst undef) w') : wpList P ops Q (o :: rest) a w := by
  have hr := run_storeVar_agg (P := P) (T := T) (off := 0) hn hv (H.get i hL) (by omega)
  have he : (c.toList.take 0 ++ vs.toList ++ c.toList.drop (0 + vs.size)).toArray = vs := by
    have e2 : c.toList.drop (0 + vs.size) = [] := List.drop_eq_nil_of_le (by simp [hc])
    rw [e2]
    simp
  rw [he] at hr
  refine st_skip hw (w' := w.setRow g vs) ?_ (h _ ?_ _ fun _ _ h => h)
  · simp [execOp, ho, hx, hy, Instr.storeAt, Instr.sureAddr, hr]
  · exact H.setAt i hL fun h => h.setRow0

/-- Several cells are written. -/
theorem st_stores (hw : Region.wanted o (yielded ops a.tmps) = true) (T : TypeId) (x y : Operand) (ho : o.op = .store T x y) (g off : Nat) (hx : a.eval x = .pointer (some ⟨g, off, none⟩))
    (vs : Array Value) (hy : a.eval y = .agg vs) (hv : ∀ v ∈ vs.toList, v.oneCell' = true) (hn : sizeT P T = some vs.size) (H : At w0 L w) (i : Nat) {c : Array Value} {t : TypeId} (hL : L[i]? = some (Blk g (.cells c t (0, 0)))) (hc : off + vs.size ≤ c.size)
    (h : ∀ w', At w0 (L.set i (Blk g (.cells (c.toList.take off ++ vs.toList ++ c.toList.drop (off + vs.size)).toArray t (0, 0)))) w' → ∀ K : Act → World → Prop, (∀ a w, wpList P ops Q rest a w → K a w) → K (a.put o.dst undef) w') :
    wpList P ops Q (o :: rest) a w := by
  have hr := run_storeVar_agg (P := P) (T := T) hn hv (H.get i hL) hc
  refine st_skip hw (w' := w.setRow g (c.toList.take off ++ vs.toList ++ c.toList.drop (off + vs.size)).toArray) ?_ (h _ ?_ _ fun _ _ h => h)
  · simp only [execOp, ho, hx, hy, Instr.storeAt, Instr.sureAddr, hr, Sem.run_bind, Sem.run_pure, Result.andThen_ok]
  · exact H.setAt i hL fun h => h.setRow0

/-- A new variable, zero. -/
theorem st_alloc (hw : Region.wanted o (yielded ops a.tmps) = true) (T : TypeId) (ho : o.op = .alloc T) (z : Value) (hz : zeroT P T = some z) (cs : Array Value) (hcs : z.cells = cs) (H : At w0 L w)
    (h : ∀ g w', At w0 (Blk g (.cells cs T (0, 0)) :: L) w' → ∀ K : Act → World → Prop, (∀ a w, wpList P ops Q rest a w → K a w) → K (a.put o.dst (.pointer (some ⟨g, 0, none⟩))) w') : wpList P ops Q (o :: rest) a w := by
  subst hcs
  refine st_value hw (v := .pointer (some ⟨w.heap.size, 0, none⟩)) (w' := w.alloc (.cells z.cells T)) ?_ (h _ _ (H.alloc _) _ fun _ _ h => h)
  simp [execOp, ho, Instr.alloc, run_zeroValue hz, newVar, newRow]

/-- A new variable that holds a value. -/
theorem st_box (hw : Region.wanted o (yielded ops a.tmps) = true) (T : TypeId) (x : Operand) (ho : o.op = .box T x) (v : Value) (hx : a.eval x = v) (H : At w0 L w)
    (h : ∀ g w', At w0 (Blk g (.cells v.cells T (0, 0)) :: L) w' → ∀ K : Act → World → Prop, (∀ a w, wpList P ops Q rest a w → K a w) → K (a.put o.dst (.pointer (some ⟨g, 0, none⟩))) w') : wpList P ops Q (o :: rest) a w := by
  refine st_value hw (v := .pointer (some ⟨w.heap.size, 0, none⟩)) (w' := w.alloc (.cells v.cells T)) ?_ (h _ _ (H.alloc _) _ fun _ _ h => h)
  simp [execOp, ho, hx, Instr.box, newVar, newRow]

/-- make of a map. -/
theorem st_makeMap (hw : Region.wanted o (yielded ops a.tmps) = true) (T : TypeId) (ho : o.op = .makeMap T none) (H : At w0 L w)
    (h : ∀ g w', At w0 (Blk g (.map #[] 0) :: L) w' → ∀ K : Act → World → Prop, (∀ a w, wpList P ops Q rest a w → K a w) → K (a.put o.dst (.map (some g))) w') : wpList P ops Q (o :: rest) a w := by
  refine st_value hw (v := .map (some w.heap.size)) (w' := w.alloc (.map #[] 0)) ?_ (h _ _ (H.alloc _) _ fun _ _ h => h)
  simp [execOp, ho, Instr.makeMap]

/-- make of a slice. -/
theorem st_make (hw : Region.wanted o (yielded ops a.tmps) = true) (T : TypeId) (x y : Operand) (ho : o.op = .makeSlice T x y) (kl kc : IntKind) (l c : Int) (hx : a.eval x = .int kl l) (hy : a.eval y = .int kc c)
    (e : TypeId) (ht : P.underlying T = some (.slice e)) (bytes : Nat) (hb : (P.info? e).map (·.bytes) = some bytes) (size : Nat) (hs : sizeT P e = some size) (z : Value) (hz : zeroT P e = some z)
    (h0 : 0 ≤ l) (hlc : l ≤ c) (hbytes : (bytes : Int) * c ≤ 281474976710656) (h63 : c ≤ 9223372036854775807) (H : At w0 L w)
    (h : ∀ g w', At w0 (Blk g (.cells (madeCells z.cells (c.toNat * size)) e (0, 0)) :: L) w' → ∀ K : Act → World → Prop, (∀ a w, wpList P ops Q rest a w → K a w) → K (a.put o.dst (.slice (some ⟨g, 0, none⟩) l.toNat c.toNat)) w') :
    wpList P ops Q (o :: rest) a w := by
  unfold zeroT at hz
  unfold sizeT at hs
  cases hi : P.info? e with
  | none => simp [hi] at hs
  | some i =>
    simp [hi] at hb hs hz
    subst hb hs
    have hr := run_make (P := P) w T e i z ht hi hz kl kc l c h0 hlc hbytes h63
    refine st_value hw (v := .slice (some ⟨w.heap.size, 0, none⟩) l.toNat c.toNat) (w' := w.alloc (.cells (madeCells z.cells (c.toNat * i.size)) e)) ?_ (h _ _ (H.alloc _) _ fun _ _ h => h)
    simp [execOp, ho, hx, hy, hr]

/-- copy, into a block that is owned: 'vs': what goes over. -/
theorem st_copy (hw : Region.wanted o (yielded ops a.tmps) = true) (d s : Operand) (dT sT : TypeId) (ho : o.op = .call { callee := .builtin .copy, args := #[d, s], argTypes := #[dT, sT] })
    (elem : TypeId) (hu : P.underlying dT = some (.slice elem)) (hsz : sizeT P elem = some 1)
    (g off dLen dCap sLen sCap : Nat) (sp : Option Addr) (hd : a.eval d = .slice (some ⟨g, off, none⟩) dLen dCap) (hs : a.eval s = .slice sp sLen sCap)
    (vs : List Value) (hn : vs.length = Nat.min sLen dLen) (hsrc : 0 < vs.length → ∃ ad, sp = some ad ∧ ∀ j v, vs[j]? = some v → w.cell? (ad.add j) = some v) (h1 : ∀ v ∈ vs, v.oneCell' = true)
    (H : At w0 L w) (i : Nat) {c : List Value} {t : TypeId} (hL : L[i]? = some (Blk g (.cells c.toArray t (0, 0)))) (hc : off + vs.length ≤ c.length)
    (h : ∀ w', At w0 (L.set i (Blk g (.cells (splice c off vs).toArray t (0, 0)))) w' → ∀ K : Act → World → Prop, (∀ a w, wpList P ops Q rest a w → K a w) → K (a.put o.dst (goInt vs.length)) w') :
    wpList P ops Q (o :: rest) a w := by
  by_cases h0 : vs.length = 0
  · obtain rfl : vs = [] := List.eq_nil_of_length_eq_zero h0
    have hrun := run_copy_none (P := P) w dT sT o.type elem (some ⟨g, off, none⟩) sp dLen dCap sLen sCap hu hsz (by simpa using hn.symm)
    refine st_value hw (v := goInt 0) (w' := w) ?_ (h w ?_ _ fun _ _ h => h)
    · simp [execOp, ho, resolve, invoke, builtin, hd, hs, hrun]
    · refine H.setAt i hL fun h => ?_
      simpa [splice] using h
  · obtain ⟨ad, rfl, hsr⟩ := hsrc (by omega)
    have hrun := run_copy_row (P := P) w dT sT o.type elem g off dLen dCap ad sLen sCap c.toArray t vs hu hsz (H.get i hL) hn hsr (by simpa using hc) h1
    refine st_value hw (v := goInt vs.length) (w' := w.setRow g (splice c off vs).toArray) ?_ (h _ ?_ _ fun _ _ h => h)
    · simp [execOp, ho, resolve, invoke, builtin, hd, hs, hrun, splice]
    · exact H.setAt i hL fun h => h.setRow0

/-- One result, which lies in memory. -/
theorem results_cell {fn : Func} {p : Tmp} {ty : TypeId} (h : fn.results = #[.cell p ty]) {tmps : Array Value} {w : World} {g : Nat} {t : TypeId} {cs : Array Value} {fr : Nat × Nat} {n : Nat}
    (hp : tmps.getD p undef = .pointer (some ⟨g, 0, none⟩)) (hT : aggT P ty = true) (hn : sizeT P ty = some n) (hg : w.heap[g]? = some (.cells cs t fr)) (hc : cs.size = n) :
    (results fn tmps).run P w = .ok (.agg cs) w := by
  have hr := run_loadVar_agg (P := P) (off := 0) hT hn hg (by omega)
  have e : cs.extract 0 (0 + n) = cs := by rw [Nat.zero_add, ← hc, Array.extract_size]
  rw [e] at hr
  have hp' : tmps[p]?.getD undef = .pointer (some ⟨g, 0, none⟩) := by simpa using hp
  simp [results, h, hp', asAddr, hr]

end

/-- What a slice of bytes reads as. -/
def BytesAt (w : World) (v : Value) (l : List UInt8) : Prop :=
  (v = .slice none 0 0 ∧ l = []) ∨ ∃ (ad : Addr) (cap : Nat), v = .slice (some ad) l.length cap ∧ l.length ≤ cap ∧ cap ≤ maxLen ∧ ∀ j v, (bv l)[j]? = some v → w.cell? (ad.add j) = some v

/-- Where the first of the list is there, a slice of bytes reads so. -/
def Reads (B : HProp) (v : Value) (l : List UInt8) : Prop := ∀ w0 L w, At w0 (B :: L) w → BytesAt w v l

theorem BytesAt.len {w : World} {v : Value} {l : List UInt8} (h : BytesAt w v l) : ∃ ad cap, v = .slice ad l.length cap ∧ l.length ≤ cap ∧ cap ≤ maxLen ∧ (0 < l.length → ∃ b, ad = some b ∧ ∀ j v, (bv l)[j]? = some v → w.cell? (b.add j) = some v) := by
  rcases h with ⟨rfl, rfl⟩ | ⟨ad, cap, rfl, h1, h2, h3⟩
  · exact ⟨none, 0, rfl, Nat.le_refl _, by simp [maxLen], fun h => by simp at h⟩
  · exact ⟨some ad, cap, rfl, h1, h2, fun _ => ⟨ad, rfl, h3⟩⟩

theorem BytesAt.cells {w : World} {ad : Addr} {n cap : Nat} {l : List UInt8} (h : BytesAt w (.slice (some ad) n cap) l) : ∀ j v, (bv l)[j]? = some v → w.cell? (ad.add j) = some v := by
  rcases h with ⟨h, _⟩ | ⟨ad', cap', h, h1, h2, h3⟩
  · cases h
  · cases h; exact h3

theorem bv_take {l : List UInt8} {k j : Nat} {v : Value} (h : (bv (l.take k))[j]? = some v) : (bv l)[j]? = some v := by
  unfold bv at h ⊢
  rw [List.map_take, List.getElem?_take] at h
  split at h
  · exact h
  · cases h

theorem BytesAt.same {w w' : World} {v : Value} {l : List UInt8} (h : BytesAt w v l) (hb : ∀ k, k < w.heap.size → w'.heap[k]? = w.heap[k]?) : BytesAt w' v l := by
  rcases h with ⟨rfl, rfl⟩ | ⟨ad, cap, rfl, h1, h2, h3⟩
  · exact .inl ⟨rfl, rfl⟩
  · refine .inr ⟨ad, cap, rfl, h1, h2, fun j v hj => ?_⟩
    have h4 := h3 j v hj
    have hlt := World.block_lt_of_cell? w _ h4
    rw [World.cell?_of_block (hb _ hlt)]
    exact h4

/-- A block of bytes, from 'off' on. -/
theorem reads_blk {g off : Nat} {c : Array Value} {t : TypeId} {fr : Nat × Nat} {l : List UInt8} {cap : Nat} (h : ∀ j v, (bv l)[j]? = some v → c[off + j]? = some v) (h1 : l.length ≤ cap) (h2 : cap ≤ maxLen) :
    Reads (Blk g (.cells c t fr)) (.slice (some ⟨g, off, none⟩) l.length cap) l := by
  intro w0 L w H
  refine .inr ⟨_, cap, rfl, h1, h2, fun j v hj => ?_⟩
  rw [Addr.add_lit, cell_of_row w g (off + j) c t fr H.get0]
  exact h j v hj

theorem reads_arg {W : World} {v : Value} {l : List UInt8} (h : BytesAt W v l) : Reads (Arg W) v l := by
  intro w0 L w H
  exact h.same fun k hk => H.old0 hk

theorem Reads.at_ {B : HProp} {v : Value} {l : List UInt8} (h : Reads B v l) {w0 w : World} {L : List HProp} (H : At w0 L w) (i : Nat) (hL : L[i]? = some B) : BytesAt w v l := h _ _ _ (H.pick i hL)

/-- string(b). -/
theorem run_bytes_string {P : Program} {w : World} {v : Value} {l : List UInt8} (h : BytesAt w v l) (src dst e : TypeId) (hs : P.underlying src = some (.slice e)) (he : P.underlying e = some (.int .u8)) (hd : P.underlying dst = some .string) :
    (convert src dst v).run P w = .ok (.string ⟨l.toArray⟩) w := by
  rcases h with ⟨rfl, rfl⟩ | ⟨ad, cap, rfl, h1, h2, h3⟩
  · rw [run_convert_bytes_string w src dst e none 0 0 hs he hd]
    rfl
  · rw [run_convert_bytes_string w src dst e _ _ _ hs he hd]
    have hl := run_loadCells_list (P := P) w ad (bv l) h3
    have hb : bv l = (l.map fun b => (b.toNat : Int)).map (Value.int .u8) := by simp [bv]
    rw [length_bv, hb] at hl
    rw [run_bytesToString w ad l.length cap _ hl, foldl_push_bytes]
    have e1 : ∀ l : List UInt8, (List.map (fun b => (b.toNat : Int)) l).map (fun n => UInt8.ofNat n.toNat) = l := by
      intro l
      induction l with
      | nil => rfl
      | cons b l ih => simp only [List.map_cons, ih, Int.toNat_natCast, UInt8.ofNat_toNat]
    rw [e1]
    have e2 : ByteArray.empty.data = #[] := rfl
    rw [e2, Array.empty_append]

end Go.Hp
end EngMem
section EngOrd
namespace Go.Hp
open Go.RowKit

/-- Every operation waits for earlier ones alone. -/
def depsOk (ops : Array Oper) : Bool := ops.toList.zipIdx.all fun (o, i) => o.after.all fun e => !Region.binds .any e || decide (e.on < i)

theorem depsOk_at {ops : Array Oper} (h : depsOk ops = true) {i : Nat} {o : Oper} (hi : ops[i]? = some o) : ∀ e ∈ o.after, Region.binds .any e = true → e.on < i := by
  intro e he hb
  unfold depsOk at h
  rw [List.all_eq_true] at h
  have hm : (o, i) ∈ ops.toList.zipIdx := by
    rw [List.mem_zipIdx_iff_getElem?]
    simpa using hi
  have h1 := h _ hm
  simp only [Array.all_eq_true'] at h1
  have h2 := h1 e he
  simpa [hb] using h2

section
variable {P : Program} {ops : Array Oper} {Q : Exit → Act → World → Prop}

/-- How many are not listed. -/
def left (l : Array Bool) : Nat := l.toList.count false

theorem left_set {l : Array Bool} {i : Nat} (h : l.getD i true = false) : left (l.setIfInBounds i true) + 1 = left l := by
  have hi : i < l.size := by
    rcases Nat.lt_or_ge i l.size with h' | h'
    · exact h'
    · simp [Array.getElem?_eq_none h'] at h
  have hv : l.toList[i]? = some false := by
    simp [hi] at h ⊢
    exact h
  unfold left
  rw [Array.toList_setIfInBounds]
  generalize l.toList = L at hv
  clear h hi
  induction L generalizing i with
  | nil => simp at hv
  | cons b L ih =>
    cases i with
    | zero =>
      simp at hv
      subst hv
      simp
    | succ i =>
      have := ih (i := i) (by simpa using hv)
      cases b <;> simp <;> omega

theorem left_zero {l : Array Bool} (h : left l = 0) (j : Nat) (hj : j < l.size) : l.getD j false = true := by
  unfold left at h
  rw [List.count_eq_zero] at h
  cases hv : l.getD j false with
  | true => rfl
  | false =>
    exfalso
    refine h ?_
    have : l[j]? = some false := by simp [hj] at hv ⊢; exact hv
    exact List.mem_of_getElem? (l := l.toList) (i := j) (by simpa using this)

theorem wp_region_inv {id : Nat} {a : Act} {w : World} (hm : P.follows .mixedOrders = true) (hok : depsOk ops = true) (I : (Nat → Bool) → Act → World → Prop) (h0 : I (fun _ => false) a w.drew)
    (step : ∀ (E : Nat → Bool) (a : Act) (w : World) (i : Nat) (o : Oper), ops[i]? = some o → E i = false → (∀ e ∈ o.after, Region.binds .any e = true → E e.on = true) → I E a w →
      if Region.wanted o (yielded ops a.tmps) = true then o.wp P a w (I fun j => j == i || E j) Q else I (fun j => j == i || E j) (a.put o.dst undef) w)
    (fin : ∀ (E : Nat → Bool) (a : Act) (w : World), (∀ j, j < ops.size → E j = true) → I E a w → Q .normal a w) : (Code.region id ops true).wp P Q a w := by
  refine wp_region_any hm ?_
  have main : ∀ (fuel : Nat) (listed : Array Bool) (a : Act) (w : World), listed.size = ops.size → left listed = fuel → I (fun j => listed.getD j false) a w → wpAny P .any ops Q fuel listed a w := by
    intro fuel
    induction fuel with
    | zero =>
      intro listed a w hs hl hI
      have hall := left_zero hl
      refine ⟨?_, fin _ a w (fun j hj => hall j (by omega)) hI⟩
      cases hr : Region.ready .any ops listed with
      | nil => rfl
      | cons i r =>
        exfalso
        have hi : i ∈ Region.ready .any ops listed := by rw [hr]; simp
        obtain ⟨h1, o, h2, _⟩ := mem_ready.1 hi
        have hlt : i < listed.size := by rw [hs]; exact (Array.getElem?_eq_some_iff.1 h2).1
        have h3 := hall i hlt
        simp [hlt] at h1 h3
        rw [h1] at h3
        cases h3
    | succ fuel ih =>
      intro listed a w hs hl hI
      refine ⟨fun hr => ?_, fun i hi => ?_⟩
      · refine fin _ a w (fun j hj => ?_) hI
        have key : ∀ n j, j ≤ n → j < ops.size → listed.getD j false = true := by
          intro n
          induction n with
          | zero =>
            intro j hjn hj
            obtain rfl : j = 0 := by omega
            cases hv : listed.getD 0 false with
            | true => rfl
            | false =>
              exfalso
              have hin : 0 ∈ Region.ready .any ops listed := by
                refine mem_ready.2 ⟨getD_in (by omega) hv, ops[0], by simp [hj], fun e he hb => ?_⟩
                have := depsOk_at hok (i := 0) (o := ops[0]) (by simp [hj]) e he hb
                omega
              rw [hr] at hin
              cases hin
          | succ n ihn =>
            intro j hjn hj
            cases hv : listed.getD j false with
            | true => rfl
            | false =>
              exfalso
              have hin : j ∈ Region.ready .any ops listed := by
                refine mem_ready.2 ⟨getD_in (by omega) hv, ops[j], by simp [hj], fun e he hb => ?_⟩
                have := depsOk_at hok (i := j) (o := ops[j]) (by simp [hj]) e he hb
                exact ihn e.on (by omega) (by omega)
              rw [hr] at hin
              cases hin
        exact key j j (Nat.le_refl _) hj
      · obtain ⟨h1, o, h2, h3⟩ := mem_ready.1 hi
        have hlt : i < listed.size := by rw [hs]; exact (Array.getElem?_eq_some_iff.1 h2).1
        have hst := step _ a w i o h2 (getD_both h1) (fun e he hb => h3 e he hb) hI
        have hE : (fun j => j == i || listed.getD j false) = fun j => (listed.setIfInBounds i true).getD j false := by
          funext j
          by_cases hji : j = i
          · subst hji
            simp [hlt]
          · have : (j == i) = false := by simp [hji]
            rw [this, Bool.false_or, getD_set_ne false (fun e => hji e.symm)]
        rw [hE] at hst
        unfold wpOp
        rw [h2]
        dsimp only
        have hnext : ∀ a w, I (fun j => (listed.setIfInBounds i true).getD j false) a w → wpAny P .any ops Q fuel (listed.setIfInBounds i true) a w := fun a w h =>
          ih _ a w (by simp [hs]) (by have := left_set h1; omega) h
        split
        · rename_i hw
          rw [if_pos hw] at hst
          exact .inl (Oper.wp_mono hnext hst)
        · rename_i hw
          rw [if_neg hw] at hst
          exact hnext _ _ hst
  refine main _ _ a _ (by simp) ?_ ?_
  · simp [left]
  · have : (fun j => (Array.replicate ops.size false).getD j false) = fun _ => false := by
      funext j
      exact getD_replicate_false _ _
    rw [this]
    exact h0

/-- A region whose operations but the last ones read: those in the text's order, the world behind the draw a variable. -/
theorem wp_region_tail_at {id : Nat} {a : Act} {w w0 : World} {L : List HProp} {l : List Oper} (n : Nat) (hm : P.follows .mixedOrders = true) (hB : Region.lexTailB .any l.toArray n = true) (H : At w0 L w)
    (h : ∀ w', At w0 L w' → wpStill P l.toArray w' (fun a' => wpList P l.toArray Q (l.drop n) a' w') (l.take n) a) : (Code.region id l.toArray true).wp P Q a w :=
  wp_region_still_tail n hm hB (h { w with drawn := w.drawn + 1 } H)

section
variable {w w0 : World} {L : List HProp} {a : Act} {o : Oper} {rest : List Oper} {R : Act → Prop}

theorem sl_value (hw : Region.wanted o (yielded ops a.tmps) = true) {v : Value} (hr : (execOp a.eval o).run P w = .ok (.value v) w)
    (h : ∀ K : Act → Prop, (∀ a, wpStill P ops w R rest a → K a) → K (a.put o.dst v)) : wpStill P ops w R (o :: rest) a := by
  unfold wpStill
  rw [if_pos hw]
  unfold Oper.still
  rw [hr, Oper.stillUpon_value]
  exact h _ fun _ h => h

theorem sl_load (hw : Region.wanted o (yielded ops a.tmps) = true) (T : TypeId) (x : Operand) (ho : o.op = .load T x) (g off : Nat) (hx : a.eval x = .pointer (some ⟨g, off, none⟩))
    (hT : plainT P T = true) (H : At w0 L w) (i : Nat) {c : Array Value} {t : TypeId} {fr : Nat × Nat} (hL : L[i]? = some (Blk g (.cells c t fr))) {v : Value} (hc : c[off]? = some v)
    (h : ∀ K : Act → Prop, (∀ a, wpStill P ops w R rest a → K a) → K (a.put o.dst v)) : wpStill P ops w R (o :: rest) a := by
  refine sl_value hw (v := v) ?_ h
  simp [execOp, ho, hx, Instr.loadAt, Instr.sureAddr, run_loadVar_cell hT (H.get i hL) hc]

theorem sl_loads (hw : Region.wanted o (yielded ops a.tmps) = true) (T : TypeId) (x : Operand) (ho : o.op = .load T x) (g off : Nat) (hx : a.eval x = .pointer (some ⟨g, off, none⟩))
    (hT : aggT P T = true) (n : Nat) (hn : sizeT P T = some n) (H : At w0 L w) (i : Nat) {c : Array Value} {t : TypeId} {fr : Nat × Nat} (hL : L[i]? = some (Blk g (.cells c t fr))) (hc : off + n ≤ c.size)
    (h : ∀ K : Act → Prop, (∀ a, wpStill P ops w R rest a → K a) → K (a.put o.dst (.agg (c.extract off (off + n))))) : wpStill P ops w R (o :: rest) a := by
  refine sl_value hw (v := .agg (c.extract off (off + n))) ?_ h
  simp [execOp, ho, hx, Instr.loadAt, Instr.sureAddr, run_loadVar_agg hT hn (H.get i hL) hc]

theorem sl_row (hw : Region.wanted o (yielded ops a.tmps) = true) (T : TypeId) (x : Operand) (ho : o.op = .load T x) (g : Nat) (hx : a.eval x = .pointer (some ⟨g, 0, none⟩))
    (hT : aggT P T = true) (n : Nat) (hn : sizeT P T = some n) (H : At w0 L w) (i : Nat) {c : Array Value} {t : TypeId} {fr : Nat × Nat} (hL : L[i]? = some (Blk g (.cells c t fr))) (hc : c.size = n)
    (h : ∀ K : Act → Prop, (∀ a, wpStill P ops w R rest a → K a) → K (a.put o.dst (.agg c))) : wpStill P ops w R (o :: rest) a := by
  refine sl_loads hw T x ho g 0 hx hT n hn H i hL (by omega) ?_
  have e : c.extract 0 (0 + n) = c := by rw [Nat.zero_add, ← hc, Array.extract_size]
  rw [e]
  exact h

end
end
end Go.Hp
end EngOrd
section EngMaps
namespace Go.Hp
open Go.RowKit
set_option linter.unusedSimpArgs false

def keyIs (n : Int) (e : MapEntry) : Bool := match e.key with | .int _ m => n == m | _ => false

/-- A map's entries tell f. -/
def IMap (es : Array MapEntry) (f : Int → Option Value) : Prop :=
  (∀ e ∈ es.toList, ∃ n, e.key = .int .i64 n) ∧ ∀ n, f n = (es.toList.find? (keyIs n)).map (·.val)

theorem IMap.empty : IMap #[] (fun _ => none) := ⟨fun e h => by simp at h, fun n => by simp⟩

theorem findNow_int (n : Int) : ∀ (l : List MapEntry) (i : Nat), (∀ e ∈ l, ∃ m, e.key = .int .i64 m) →
    (l.find? (keyIs n) = none ∧ Instr.findNow (.int .i64) (.int .i64 n) l i = some none) ∨
    ∃ m e, l[m]? = some e ∧ l.find? (keyIs n) = some e ∧ keyIs n e = true ∧ (∀ j e', j < m → l[j]? = some e' → keyIs n e' = false) ∧ Instr.findNow (.int .i64) (.int .i64 n) l i = some (some (i + m, e.val))
  | [], i, _ => .inl ⟨rfl, rfl⟩
  | e :: l, i, h => by
    obtain ⟨m, hm⟩ := h e (by simp)
    by_cases hn : n = m
    · subst hn
      refine .inr ⟨0, e, rfl, ?_, ?_, ?_, ?_⟩
      · simp [List.find?, keyIs, hm]
      · simp [keyIs, hm]
      · intro j e' hj; omega
      · simp [Instr.findNow, Instr.sameNow, hm]
    · have hk : keyIs n e = false := by simp [keyIs, hm, hn]
      have hs : Instr.findNow (.int .i64) (.int .i64 n) (e :: l) i = Instr.findNow (.int .i64) (.int .i64 n) l (i + 1) := by
        have : (n == m) = false := by simp [hn]
        simp [Instr.findNow, Instr.sameNow, hm, this]
      rcases findNow_int n l (i + 1) (fun e' he' => h e' (by simp [he'])) with ⟨h1, h2⟩ | ⟨q, x, h1, h2, h3, h4, h5⟩
      · exact .inl ⟨by simp [List.find?, hk, h1], by rw [hs, h2]⟩
      · refine .inr ⟨q + 1, x, by simpa using h1, by simp [List.find?, hk, h2], h3, ?_, by rw [hs, h5]; simp; omega⟩
        intro j e' hj he'
        cases j with
        | zero => simp at he'; subst he'; exact hk
        | succ j => exact h4 j e' (by omega) (by simpa using he')

section
variable {P : Program} {w : World} {T K E : TypeId} {mb ck : Nat} {es : Array MapEntry} {f : Int → Option Value}

theorem run_checkKey_int {b : Bool} {n : Nat} {k : IntKind} {x : Int} (hK : P.underlying K = some (.int .i64)) : (Instr.checkKey b (n + 1) K (.int k x)).run P w = .ok () w := by
  simp [Instr.checkKey, run_underlying hK]

theorem run_getObj_map (hg : w.heap[mb]? = some (.map es ck)) : (getObj mb).run P w = .ok (.map es ck) w := by
  simp [getObj, Sem.run, hg]

theorem run_lookup_int (hT : P.underlying T = some (.map K E)) (hK : P.underlying K = some (.int .i64)) {z : Value} (hz : zeroT P E = some z)
    (hg : w.heap[mb]? = some (.map es ck)) (he : IMap es f) (n : Int) (ok : Bool) :
    (Instr.lookup T (.map (some mb)) (.int .i64 n) ok).run P w = .ok (if ok then .tuple #[(f n).getD z, .bool (f n).isSome] else (f n).getD z) w := by
  have hf := he.2 n
  rcases findNow_int n es.toList 0 he.1 with ⟨h1, h2⟩ | ⟨q, x, h1, h2, h3, h4, h5⟩
  · rw [h1] at hf
    simp [Instr.lookup, run_underlying hT, run_getObj_map hg, run_checkKey_int hK, Instr.findKey, run_underlying hK, h2, run_zeroValue hz, hf]
  · rw [h2] at hf
    simp [Instr.lookup, run_underlying hT, run_getObj_map hg, run_checkKey_int hK, Instr.findKey, run_underlying hK, h5, hf]

theorem run_keyThatStays_int (n : Int) : (Instr.keyThatStays (.int .i64 n) (.int .i64 n)).run P w = .ok (.int .i64 n) w := by
  simp [Instr.keyThatStays, Instr.sameBits]

/-- A store into the map: the world behind it, its entries, and what they tell. -/
theorem run_mapUpdate_int (hT : P.underlying T = some (.map K E)) (hK : P.underlying K = some (.int .i64))
    (hg : w.heap[mb]? = some (.map es ck)) (he : IMap es f) (n : Int) (v : Value) :
    ∃ es' ck', (Instr.mapUpdate T (.map (some mb)) (.int .i64 n) v).run P w = .ok () { w with heap := w.heap.setIfInBounds mb (.map es' ck') } ∧
      IMap es' (fun m => if m = n then some v else f m) := by
  rcases findNow_int n es.toList 0 he.1 with ⟨h1, h2⟩ | ⟨q, x, h1, h2, h3, h4, h5⟩
  · refine ⟨es.push { key := .int .i64 n, val := v, born := ck }, ck + 1, ?_, ?_, ?_⟩
    · simp [Instr.mapUpdate, run_underlying hT, run_getObj_map hg, run_checkKey_int hK, Instr.findKey, run_underlying hK, h2, setObj, Sem.run, hg]
    · intro e hm
      simp at hm
      rcases hm with hm | rfl
      · exact he.1 e (by simpa using hm)
      · exact ⟨n, rfl⟩
    · intro m
      simp only [Array.toList_push, List.find?_append]
      by_cases hmn : m = n
      · subst hmn
        simp [h1, keyIs]
      · have hk : keyIs m { key := .int .i64 n, val := v, born := ck } = false := by simp [keyIs, hmn]
        rw [if_neg hmn, he.2 m]
        simp [hk]
  · have hx : x.key = .int .i64 n := by
      obtain ⟨m, hm⟩ := he.1 x (List.mem_of_getElem? h1)
      simp [keyIs, hm] at h3
      rw [hm, h3]
    have hq : q < es.size := by
      rcases Nat.lt_or_ge q es.size with h | h
      · exact h
      · simp [List.getElem?_eq_none (show es.toList.length ≤ q by simpa using h)] at h1
    have hx2 : es[q]? = some x := by simpa using h1
    refine ⟨es.modify q fun e => { e with key := .int .i64 n, val := v }, ck, ?_, ?_, ?_⟩
    · simp [Instr.mapUpdate, run_underlying hT, run_getObj_map hg, run_checkKey_int hK, Instr.findKey, run_underlying hK, h5, hx2, hx, run_keyThatStays_int, setObj, Sem.run, hg]
    · intro e hm
      obtain ⟨j, hj⟩ := List.getElem?_of_mem hm
      rw [Array.getElem?_toList, Array.getElem?_modify] at hj
      split at hj
      · cases hy : es[j]? with
        | none => simp [hy] at hj
        | some y => simp [hy] at hj; subst hj; exact ⟨n, rfl⟩
      · exact he.1 e (List.mem_of_getElem? (by simpa using hj))
    · intro m
      have key : ∀ (l : List MapEntry) (q : Nat) (x : MapEntry), l[q]? = some x → x.key = .int .i64 n → (∀ j e', j < q → l[j]? = some e' → keyIs n e' = false) →
          ((l.set q { x with key := .int .i64 n, val := v }).find? (keyIs m)).map (·.val) = if m = n then some v else (l.find? (keyIs m)).map (·.val) := by
        intro l
        induction l with
        | nil => intro q x h; simp at h
        | cons y l ih =>
          intro q x hq hxk hbef
          cases q with
          | zero =>
            simp at hq
            subst hq
            by_cases hmn : m = n
            · subst hmn
              simp [List.find?, keyIs]
            · have e1 : keyIs m { y with key := .int .i64 n, val := v } = false := by simp [keyIs, hmn]
              have e2 : keyIs m y = false := by simp [keyIs, hxk, hmn]
              simp [List.find?, e1, e2, hmn]
          | succ q =>
            have hb0 := hbef 0 y (by omega) rfl
            have := ih q x (by simpa using hq) hxk (fun j e' hj he' => hbef (j + 1) e' (by omega) (by simpa using he'))
            simp only [List.set_cons_succ, List.find?]
            by_cases hmn : m = n
            · subst hmn
              simp only [hb0]
              simpa using this
            · cases hkm : keyIs m y with
              | true => simp [hmn]
              | false => simpa using this
      have := key es.toList q x h1 hx h4
      show (if m = n then some v else f m) = _
      rw [he.2 m, ← this]
      have e : (es.modify q fun e => { e with key := .int .i64 n, val := v }).toList = es.toList.set q { x with key := .int .i64 n, val := v } := by
        apply List.ext_getElem?
        intro j
        rw [Array.getElem?_toList, Array.getElem?_modify, List.getElem?_set]
        by_cases hjq : q = j
        · subst hjq
          have hb : es[q] = x := by simpa [hq] using hx2
          simp [hq, hb]
        · simp [hjq]
      rw [e]

end

section
variable {P : Program} {ops : Array Oper} {Q : Exit → Act → World → Prop} {a : Act} {w : World} {rest : List Oper} {o : Oper} {w0 : World} {L : List HProp}

theorem st_lookup (hw : Region.wanted o (yielded ops a.tmps) = true) (T : TypeId) (x y : Operand) (ok : Bool) (ho : o.op = .lookup T x y ok) (mb : Nat) (hx : a.eval x = .map (some mb)) (n : Int) (hy : a.eval y = .int .i64 n)
    (K E : TypeId) (hT : P.underlying T = some (.map K E)) (hK : P.underlying K = some (.int .i64)) (z : Value) (hz : zeroT P E = some z)
    (H : At w0 L w) (i : Nat) {es : Array MapEntry} {ck : Nat} (hL : L[i]? = some (Blk mb (.map es ck))) (f : Int → Option Value) (he : IMap es f)
    (h : ∀ K : Act → World → Prop, (∀ a w, wpList P ops Q rest a w → K a w) → K (a.put o.dst (if ok then .tuple #[(f n).getD z, .bool (f n).isSome] else (f n).getD z)) w) : wpList P ops Q (o :: rest) a w := by
  refine st_value hw (w' := w) ?_ (h _ fun _ _ h => h)
  simp [execOp, ho, hx, hy, run_lookup_int hT hK hz (H.get i hL) he]

theorem st_mapUpdate (hw : Region.wanted o (yielded ops a.tmps) = true) (T : TypeId) (x y v : Operand) (ho : o.op = .mapUpdate T x y v) (mb : Nat) (hx : a.eval x = .map (some mb)) (n : Int) (hy : a.eval y = .int .i64 n)
    (u : Value) (hv : a.eval v = u)
    (K E : TypeId) (hT : P.underlying T = some (.map K E)) (hK : P.underlying K = some (.int .i64))
    (H : At w0 L w) (i : Nat) {es : Array MapEntry} {ck : Nat} (hL : L[i]? = some (Blk mb (.map es ck))) (f : Int → Option Value) (he : IMap es f)
    (h : ∀ es' ck' w', At w0 (L.set i (Blk mb (.map es' ck'))) w' → IMap es' (fun m => if m = n then some u else f m) → ∀ K : Act → World → Prop, (∀ a w, wpList P ops Q rest a w → K a w) → K (a.put o.dst undef) w') :
    wpList P ops Q (o :: rest) a w := by
  obtain ⟨es', ck', hr, he'⟩ := run_mapUpdate_int (P := P) hT hK (H.get i hL) he n u
  refine st_skip hw (w' := _) ?_ (h es' ck' _ (H.setAt i hL fun h => h.setObj0) he' _ fun _ _ h => h)
  simp [execOp, ho, hx, hy, hv, hr]

end
end Go.Hp
end EngMaps
section EngArr
namespace Go.Hp
open Go.RowKit
set_option linter.unusedSimpArgs false

def bytesT (P : Program) (T : TypeId) : Option Nat := (P.info? T).map (·.bytes)

/-- A row of the call's own: the slice's value v has n elements, whose cells are xs. -/
def OwnRow (e : TypeId) (size : Nat) (v : Value) (n : Nat) (xs : List Value) : HProp := fun h =>
  (v = .slice none 0 0 ∧ n = 0 ∧ xs = [] ∧ ∀ k, h k = none) ∨
  ∃ g cap cur, v = .slice (some ⟨g, 0, none⟩) n cap ∧ n ≤ cap ∧ cap ≤ maxLen ∧ cur.size = cap * size ∧ xs.length = n * size ∧ cur.toList.take (n * size) = xs ∧ Blk g (.cells cur e (0, 0)) h

section
variable {w0 w w' : World} {L : List HProp} {e : TypeId} {size : Nat} {v : Value} {n : Nat} {xs : List Value}

theorem own_cases (H : At w0 (OwnRow e size v n xs :: L) w) : (v = .slice none 0 0 ∧ n = 0 ∧ xs = [] ∧ At w0 L w) ∨
    ∃ g cap cur, v = .slice (some ⟨g, 0, none⟩) n cap ∧ n ≤ cap ∧ cap ≤ maxLen ∧ cur.size = cap * size ∧ xs.length = n * size ∧ cur.toList.take (n * size) = xs ∧ At w0 (Blk g (.cells cur e (0, 0)) :: L) w := by
  have HD := H.drop
  obtain ⟨h1, h2, h3, x, hs, a, b, hd, rfl, hA, hb⟩ := H
  rcases hA with ⟨r1, r2, r3, _⟩ | ⟨g, cap, cur, r1, r2, r3, r4, r5, r6, r7⟩
  · exact .inl ⟨r1, r2, r3, HD⟩
  · exact .inr ⟨g, cap, cur, r1, r2, r3, r4, r5, r6, h1, h2, h3, _, hs, a, b, hd, rfl, r7, hb⟩

theorem own_nil (H : At w0 L w) (e : TypeId) (size : Nat) : At w0 (OwnRow e size (.slice none 0 0) 0 [] :: L) w :=
  (At.fold (M := []) H).imp fun _ hh => .inl ⟨rfl, rfl, rfl, hh⟩

theorem own_mk {g cap : Nat} {cur : Array Value} (H : At w0 (Blk g (.cells cur e (0, 0)) :: L) w) (h1 : n ≤ cap) (h2 : cap ≤ maxLen) (h3 : cur.size = cap * size) (h4 : xs.length = n * size) (h5 : cur.toList.take (n * size) = xs) :
    At w0 (OwnRow e size (.slice (some ⟨g, 0, none⟩) n cap) n xs :: L) w := H.imp fun _ hh => .inr ⟨g, cap, cur, rfl, h1, h2, h3, h4, h5, hh⟩

theorem own_value (H : At w0 (OwnRow e size v n xs :: L) w) : ∃ ad cap, v = .slice ad n cap ∧ n ≤ cap ∧ cap ≤ maxLen ∧ xs.length = n * size ∧ (0 < n → ∃ b, ad = some b) ∧ (∀ b, ad = some b → ∀ j u, xs[j]? = some u → w.cell? (b.add j) = some u) := by
  rcases own_cases H with ⟨rfl, rfl, rfl, _⟩ | ⟨g, cap, cur, rfl, r2, r3, r4, r5, r6, H2⟩
  · exact ⟨none, 0, rfl, Nat.le_refl _, by simp [maxLen], by simp, fun h => absurd h (Nat.lt_irrefl _), fun b h => by cases h⟩
  · refine ⟨_, cap, rfl, r2, r3, r5, fun _ => ⟨_, rfl⟩, fun b hb j u hj => ?_⟩
    cases hb
    rw [Addr.add_lit, Nat.zero_add, cell_of_row w g j cur e _ H2.get0]
    rw [← r6, List.getElem?_take] at hj
    split at hj
    · simpa using hj
    · cases hj

theorem reads_own {l : List UInt8} : Reads (OwnRow e 1 v l.length (bv l)) v l := by
  intro w0 L w H
  rcases own_cases H with ⟨rfl, h0, _, _⟩ | ⟨g, cap, cur, rfl, r2, r3, r4, r5, r6, H2⟩
  · exact .inl ⟨rfl, List.eq_nil_of_length_eq_zero h0⟩
  · refine .inr ⟨_, cap, rfl, r2, r3, fun j u hj => ?_⟩
    rw [Addr.add_lit, Nat.zero_add, cell_of_row w g j cur e _ H2.get0]
    rw [← r6, List.getElem?_take] at hj
    split at hj
    · simpa using hj
    · cases hj

end

section
variable {P : Program} {ops : Array Oper} {Q : Exit → Act → World → Prop} {a : Act} {w : World} {rest : List Oper} {o : Oper} {w0 : World} {L : List HProp}

theorem run_append_none {t ty e : TypeId} {size : Nat} (ht : P.underlying t = some (.slice e)) (hs : sizeT P e = some size) (v : Value) (sp : Option Addr) (n cap c : Nat) (ad : Option Addr) (hv : v = .slice ad n cap) (hn : n ≤ cap) :
    (Builtin.append_ #[t, t] ty #[v, .slice sp 0 c]).run P w = .ok v w := by
  subst hv
  cases sp <;> cases ad <;> simp [Builtin.append_, run_underlying ht, run_sizeOf hs, Builtin.lenOf, Builtin.firstCells, hn, loadCells, loadCellsFrom, storeCells]

theorem run_append_at {t ty e : TypeId} (ht : P.underlying t = some (.slice e)) {size bytes : Nat} (hsz : sizeT P e = some size) (hby : bytesT P e = some bytes) {z : Value} (hz : zeroT P e = some z) (hzs : z.cells.size = size)
    {v : Value} {n : Nat} {xs : List Value} (H : At w0 (OwnRow e size v n xs :: L) w)
    (sp : Option Addr) (m c : Nat) (news : List Value) (hl : news.length = m * size) (hsp : 0 < m → ∃ ad, sp = some ad ∧ ∀ j u, news[j]? = some u → w.cell? (ad.add j) = some u)
    (h1 : ∀ u ∈ news, u.oneCell' = true) (h63 : n + m ≤ maxLen) (hbytes : (n + m) * bytes ≤ 140737488355328) :
    ∃ v' w', (Builtin.append_ #[t, t] ty #[v, .slice sp m c]).run P w = .ok v' w' ∧ At w0 (OwnRow e size v' (n + m) (xs ++ news) :: L) w' := by
  unfold bytesT at hby
  cases hi : P.info? e with
  | none => simp [hi] at hby
  | some i =>
    simp only [hi, Option.map_some, Option.some.injEq] at hby
    have his : i.size = size := by simpa [sizeT, hi] using hsz
    have hiz : i.zero = some z := by simpa [zeroT, hi] using hz
    have hsmall : n + m ≤ 9223372036854775807 := by have := h63; simp only [maxLen] at this; omega
    subst hby
    by_cases hm0 : m = 0
    · subst hm0
      obtain rfl : news = [] := List.eq_nil_of_length_eq_zero (by simpa using hl)
      obtain ⟨ad, cap, hv, hn, _⟩ := own_value H
      exact ⟨v, w, run_append_none (P := P) (w := w) ht hsz v sp n cap c ad hv hn, by simpa using H⟩
    · obtain ⟨ad, rfl, hnews⟩ := hsp (by omega)
      rcases own_cases H with ⟨rfl, rfl, rfl, HL⟩ | ⟨g, cap, cur, rfl, r2, r3, r4, r5, r6, H2⟩
      · have hr := run_append_nil (P := P) w t ty e i z ht hi hiz ad m c news (by rw [his]; exact hl) hnews (by omega) (by omega) (by have := hbytes; simp only [Nat.zero_add] at this; omega)
        refine ⟨_, _, hr, ?_⟩
        have hge := grownCap_ge w m 0 e
        have HA : At w0 (Blk w.heap.size (.cells (news.toArray ++ Builtin.zeroCells z.cells (grownCap w m 0 e - m)) e (0, 0)) :: L) (w.drew.alloc (.cells (news.toArray ++ Builtin.zeroCells z.cells (grownCap w m 0 e - m)) e)) := At.alloc (w := w.drew) HL.drew _
        rw [Nat.zero_add]
        refine own_mk HA hge (grownCap_le_maxLen w m 0 e (by omega)) ?_ (by simpa using hl) ?_
        · simp only [Array.size_append, List.size_toArray, size_zeroCells, hzs, hl, ← Nat.add_mul]
          congr 1
          omega
        · simp only [Array.toList_append, List.nil_append]
          rw [← hl]
          exact List.take_left
      · by_cases hroom : n + m ≤ cap
        · have hfit : n * i.size + news.length ≤ cur.size := by rw [hl, r4, his, ← Nat.add_mul]; exact Nat.mul_le_mul_right _ hroom
          have hr := run_append_room (P := P) w t ty e i ht hi g n cap cur H2.get0 ad m c news (by rw [his]; exact hl) hnews h1 hroom hfit
          rw [his] at hr hfit
          refine ⟨_, _, hr, ?_⟩
          refine own_mk H2.setRow0 hroom r3 ?_ (by rw [List.length_append, r5, hl, Nat.add_mul]) ?_
          · simp only [List.size_toArray, List.length_append, List.length_take, List.length_drop, Array.length_toList]
            omega
          · rw [r6]
            have : (n + m) * size = (xs ++ news).length := by rw [List.length_append, r5, hl, Nat.add_mul]
            rw [this]
            exact List.take_left
        · have holds : ∀ j u, xs[j]? = some u → w.cell? ((⟨g, 0, none⟩ : Addr).add j) = some u := by
            obtain ⟨ad', cap', hv, _, _, _, _, hc⟩ := own_value H
            cases hv
            exact hc _ rfl
          have hr := run_append_grow (P := P) w t ty e i z ht hi hiz ⟨g, 0, none⟩ n cap xs (by rw [his]; exact r5) holds ad m c news (by rw [his]; exact hl) hnews (by omega) (by omega) (growslice_fits (by omega) hbytes)
          refine ⟨_, _, hr, ?_⟩
          have hge := grownCap_ge w (n + m) cap e
          have HA := At.alloc (w := w.drew) H2.drop.drew (.cells (xs.toArray ++ news.toArray ++ Builtin.zeroCells z.cells (grownCap w (n + m) cap e - (n + m))) e)
          refine own_mk HA hge (grownCap_le_maxLen w (n + m) cap e h63) ?_ (by rw [List.length_append, r5, hl, Nat.add_mul]) ?_
          · simp only [Array.size_append, List.size_toArray, size_zeroCells, hzs, r5, hl, ← Nat.add_mul]
            congr 1
            omega
          · simp only [Array.toList_append, List.append_assoc]
            have : (n + m) * size = (xs ++ news).length := by rw [List.length_append, r5, hl, Nat.add_mul]
            rw [this, ← List.append_assoc]
            exact List.take_left

/-- append onto a row of the call's own. -/
theorem st_append (hw : Region.wanted o (yielded ops a.tmps) = true) (s x : Operand) (t : TypeId) (ho : o.op = .call { callee := .builtin .append, args := #[s, x], argTypes := #[t, t] })
    (e : TypeId) (ht : P.underlying t = some (.slice e)) (size : Nat) (hsz : sizeT P e = some size) (bytes : Nat) (hby : bytesT P e = some bytes) (z : Value) (hz : zeroT P e = some z) (hzs : z.cells.size = size)
    (v : Value) (n : Nat) (xs : List Value) (hs : a.eval s = v) (H : At w0 (OwnRow e size v n xs :: L) w)
    (sp : Option Addr) (m c : Nat) (news : List Value) (hx : a.eval x = .slice sp m c) (hl : news.length = m * size) (hsp : 0 < m → ∃ ad, sp = some ad ∧ ∀ j u, news[j]? = some u → w.cell? (ad.add j) = some u)
    (h1 : ∀ u ∈ news, u.oneCell' = true) (h63 : n + m ≤ maxLen) (hbytes : (n + m) * bytes ≤ 140737488355328)
    (h : ∀ v' w', At w0 (OwnRow e size v' (n + m) (xs ++ news) :: L) w' → ∀ K : Act → World → Prop, (∀ a w, wpList P ops Q rest a w → K a w) → K (a.put o.dst v') w') : wpList P ops Q (o :: rest) a w := by
  obtain ⟨v', w', hr, H'⟩ := run_append_at (P := P) (ty := o.type) ht hsz hby hz hzs H sp m c news hl hsp h1 h63 hbytes
  refine st_value hw (v := v') (w' := w') ?_ (h v' w' H' _ fun _ _ h => h)
  simp [execOp, ho, resolve, invoke, builtin, hs, hx, hr]

/-- A cell that is known by its address is read. -/
theorem st_load1 (hw : Region.wanted o (yielded ops a.tmps) = true) (T : TypeId) (x : Operand) (ho : o.op = .load T x) (p : Addr) (hx : a.eval x = .pointer (some p))
    (hT : plainT P T = true) {v : Value} (hc : w.cell? p = some v)
    (h : ∀ K : Act → World → Prop, (∀ a w, wpList P ops Q rest a w → K a w) → K (a.put o.dst v) w) : wpList P ops Q (o :: rest) a w := by
  refine st_value hw (v := v) (w' := w) ?_ (h _ fun _ _ h => h)
  simp [execOp, ho, hx, Instr.loadAt, Instr.sureAddr, loadVar, run_isAgg_plain hT, hc]

/-- Cells that are known by their address are read as one value. -/
theorem st_loadCells (hw : Region.wanted o (yielded ops a.tmps) = true) (T : TypeId) (x : Operand) (ho : o.op = .load T x) (ad : Addr) (hx : a.eval x = .pointer (some ad))
    (hT : aggT P T = true) (vs : List Value) (hn : sizeT P T = some vs.length) (hc : ∀ j u, vs[j]? = some u → w.cell? (ad.add j) = some u)
    (h : ∀ K : Act → World → Prop, (∀ a w, wpList P ops Q rest a w → K a w) → K (a.put o.dst (.agg vs.toArray)) w) : wpList P ops Q (o :: rest) a w := by
  refine st_value hw (v := .agg vs.toArray) (w' := w) ?_ (h _ fun _ _ h => h)
  have hl := run_loadCells_list (P := P) w ad vs hc
  simp [execOp, ho, hx, Instr.loadAt, Instr.sureAddr, loadVar, run_isAgg_agg hT, run_sizeOf hn, hl]

end

theorem madeCells_one (v : Value) (n : Nat) : madeCells #[v] n = (List.replicate n v).toArray := by
  apply Array.ext'
  apply List.ext_getElem?
  intro i
  simp only [madeCells, Array.toList_map, Array.toList_range, List.getElem?_map, List.getElem?_replicate]
  by_cases h : i < n
  · simp [h, Nat.mod_one]
  · simp [h, List.getElem?_eq_none]

/-- A row of bytes that is being filled. -/
def fillB (l : List UInt8) (k n : Nat) : List Value := bv (l.take k) ++ List.replicate (n - k) (.int .u8 0)

theorem fillB_zero (l : List UInt8) (n : Nat) : fillB l 0 n = List.replicate n (.int .u8 0) := by simp [fillB, bv]
theorem fillB_all (l : List UInt8) : fillB l l.length l.length = bv l := by simp [fillB]
theorem len_fillB {l : List UInt8} {k n : Nat} (h : k ≤ l.length) (h2 : k ≤ n) : (fillB l k n).length = n := by
  simp [fillB, Nat.min_eq_left h]; omega
theorem fillB_set {l : List UInt8} {k n : Nat} (h : k < l.length) (h2 : k < n) : (fillB l k n).set k (.int .u8 l[k].toNat) = fillB l (k + 1) n := by
  have hk : (bv (l.take k)).length = k := by simp; omega
  unfold fillB
  rw [List.set_append_right _ _ (by omega), hk, Nat.sub_self]
  have hn : n - k = (n - (k + 1)) + 1 := by omega
  rw [hn, List.replicate_succ, List.set_cons_zero, List.take_succ_eq_append_getElem h, bv_append, List.append_assoc]
  rfl

section
variable {P : Program} {w : World}

theorem run_part_byte {E : TypeId} (hE : plainT P E = true) (l : List UInt8) (i : Nat) (hi : i < l.length) : (part E (bv l).toArray i).run P w = .ok (.int .u8 l[i].toNat) w := by
  have hc : (bv l).toArray[i]? = some (.int .u8 l[i].toNat) := by simpa using bv_get l i hi
  simp [part, run_isAgg_plain hE, hc]

theorem run_equal_bytes {n : Nat} {T E : TypeId} (hT : P.underlying T = some (.array n E)) (hE : P.underlying E = some (.int .u8)) (hs : sizeT P E = some 1) (d : Nat) (l m : List UInt8) (hl : l.length = n) (hm : m.length = n) :
    (Op.equalIn (d + 2) T (.agg (bv l).toArray) (.agg (bv m).toArray)).run P w = .ok (decide (l = m)) w := by
  have hp : plainT P E = true := by simp [plainT, hE]
  have key : ∀ (k j : Nat), j + k = n → l.take j = m.take j →
      ((forIn (m := Sem) (List.range' j k) ((none, ()) : Option Bool × Unit) fun i _ => do
        let a ← part E (bv l).toArray (i * 1)
        let b ← part E (bv m).toArray (i * 1)
        let r ← Op.equalIn (d + 1) E a b
        if (!r) = true then pure (ForInStep.done (some false, ())) else pure (ForInStep.yield (none, ()))).run P w) = .ok (if l = m then (none, ()) else (some false, ())) w := by
    intro k
    induction k with
    | zero =>
      intro j hj ht
      have : l = m := by
        rw [List.take_of_length_le (by omega), List.take_of_length_le (by omega)] at ht
        exact ht
      simp [this]
    | succ k ih =>
      intro j hj ht
      have hjl : j < l.length := by omega
      have hjm : j < m.length := by omega
      simp only [List.range'_succ, List.forIn_cons, Sem.run_bind, Nat.mul_one, run_part_byte hp l j hjl, run_part_byte hp m j hjm, Result.andThen_ok, run_equalIn_int w d E .u8 .u8 _ _ hE]
      by_cases hv : l[j] = m[j]
      · have hb : ((l[j].toNat : Int) == (m[j].toNat : Int)) = true := by simp [hv]
        have ht2 : l.take (j + 1) = m.take (j + 1) := by
          rw [List.take_succ_eq_append_getElem hjl, List.take_succ_eq_append_getElem hjm, ht, hv]
        have := ih (j + 1) (by omega) ht2
        simp only [Nat.mul_one] at this
        simp only [hb, Bool.not_true, Bool.false_eq_true, if_false, Sem.run_pure, Result.andThen_ok]
        exact this
      · have hb : ((l[j].toNat : Int) == (m[j].toNat : Int)) = false := by
          simp only [beq_eq_false_iff_ne, ne_eq]
          intro hc
          exact hv (UInt8.toNat_inj.1 (by omega))
        have hne : ¬ l = m := by rintro rfl; exact hv rfl
        simp [hb, hne]
  have h0 := key n 0 (by omega) (by simp)
  rw [Op.equalIn]
  simp only [Sem.run_bind, run_underlying hT, Result.andThen_ok, run_sizeOf hs]
  rw [Std.Legacy.Range.forIn_eq_forIn_range']
  simp only [Std.Legacy.Range.size, Nat.sub_zero, Nat.add_sub_cancel, Nat.div_one]
  rw [h0]
  by_cases hlm : l = m <;> simp [hlm]

theorem run_neq_bytes {n : Nat} {T E : TypeId} (hT : P.underlying T = some (.array n E)) (hE : P.underlying E = some (.int .u8)) (hs : sizeT P E = some 1) (l m : List UInt8) (hl : l.length = n) (hm : m.length = n) :
    (binOp .neq T (.agg (bv l).toArray) (.agg (bv m).toArray)).run P w = .ok (.bool !(decide (l = m))) w := by
  have := run_equal_bytes (P := P) (w := w) hT hE hs 9998 l m hl hm
  simp only [binOp]
  simp [Op.equal, Op.maxDepth, this]

end
end Go.Hp
end EngArr
section EngReg
namespace Go.Hp
open Go.RowKit

def dstAt (ops : Array Oper) (i : Nat) : Option Tmp := (ops[i]?).bind (·.dst)

/-- What is asked of the region's form: edges lead back, slots are unlike and in the frame, a guard is waited for and yields. -/
def regOk (ops : Array Oper) (n : Nat) : Bool :=
  depsOk ops && ((List.range ops.size).all fun i => (match dstAt ops i with
    | some t => decide (t < n) && (List.range i).all fun j => dstAt ops j != some t
    | none => true) && match (ops[i]?).bind (·.guard) with
    | some (j, _) => ((ops[i]?).any fun o => o.after.any fun e => e.on == j && Region.binds .any e) && (dstAt ops j).isSome
    | none => true)

/-- Does the operation run, by what has been yielded? -/
def runs (o : Oper) (val : Nat → Value) : Bool := match o.guard with
  | none => true
  | some (j, want) => match val j with | .bool b => b == want | _ => false

/-- The frame behind all: the values put in the text's order. -/
def putAll (a : Act) (val : Nat → Value) : Nat → List Oper → Act
  | _, [] => a
  | i, o :: l => putAll (a.put o.dst (val i)) val (i + 1) l

theorem put_defers (a : Act) (d : Option Tmp) (v : Value) : (a.put d v).defers = a.defers := by cases d <;> rfl
theorem put_size (a : Act) (d : Option Tmp) (v : Value) : (a.put d v).tmps.size = a.tmps.size := by cases d <;> simp [Act.put]
theorem put_get (a : Act) (d : Option Tmp) (v : Value) (t : Nat) (ht : t < a.tmps.size) : (a.put d v).tmps[t]? = if d = some t then some v else a.tmps[t]? := by
  cases d with
  | none => simp [Act.put]
  | some d =>
    simp only [Act.put, Array.getElem?_setIfInBounds]
    by_cases h : d = t
    · subst h; simp [ht]
    · simp [h]

theorem putAll_defers (val : Nat → Value) : ∀ (l : List Oper) (i : Nat) (a : Act), (putAll a val i l).defers = a.defers
  | [], _, _ => rfl
  | o :: l, i, a => by rw [putAll, putAll_defers val l, put_defers]
theorem putAll_size (val : Nat → Value) : ∀ (l : List Oper) (i : Nat) (a : Act), (putAll a val i l).tmps.size = a.tmps.size
  | [], _, _ => rfl
  | o :: l, i, a => by rw [putAll, putAll_size val l, put_size]

theorem putAll_other (val : Nat → Value) (t : Nat) : ∀ (l : List Oper) (i : Nat) (a : Act), t < a.tmps.size → (∀ o ∈ l, o.dst ≠ some t) → (putAll a val i l).tmps[t]? = a.tmps[t]?
  | [], _, _, _, _ => rfl
  | o :: l, i, a, ht, h => by
    rw [putAll, putAll_other val t l _ _ (by rw [put_size]; exact ht) (fun o ho => h o (by simp [ho])), put_get _ _ _ _ ht, if_neg (h o (by simp))]

theorem putAll_at (val : Nat → Value) (t : Nat) : ∀ (l : List Oper) (i j : Nat) (a : Act) (o : Oper), t < a.tmps.size → l[j]? = some o → o.dst = some t → (∀ k o', j < k → l[k]? = some o' → o'.dst ≠ some t) →
    (putAll a val i l).tmps[t]? = some (val (i + j))
  | [], _, _, _, _, _, h, _, _ => by simp at h
  | x :: l, i, 0, a, o, ht, h, hd, hn => by
    simp at h
    subst h
    rw [putAll, putAll_other val t l _ _ (by rw [put_size]; exact ht) (fun o' ho => by
      obtain ⟨k, hk⟩ := List.getElem?_of_mem ho
      exact hn (k + 1) o' (by omega) (by simpa using hk)), put_get _ _ _ _ ht, if_pos hd]
    rfl
  | x :: l, i, j + 1, a, o, ht, h, hd, hn => by
    rw [putAll, putAll_at val t l (i + 1) j _ o (by rw [put_size]; exact ht) (by simpa using h) hd (fun k o' hk ho => hn (k + 1) o' (by omega) (by simpa using ho))]
    congr 2
    omega

section
variable {P : Program} {ops : Array Oper} {Q : Exit → Act → World → Prop}

theorem regOk_deps {n : Nat} (h : regOk ops n = true) : depsOk ops = true := by unfold regOk at h; rw [Bool.and_eq_true] at h; exact h.1
theorem regOk_at {n i : Nat} (h : regOk ops n = true) (hi : i < ops.size) : (∀ t, dstAt ops i = some t → t < n ∧ ∀ j, j < i → dstAt ops j ≠ some t) ∧
    (∀ o j want, ops[i]? = some o → o.guard = some (j, want) → (∃ e ∈ o.after, e.on = j ∧ Region.binds .any e = true) ∧ (dstAt ops j).isSome = true) := by
  unfold regOk at h
  rw [Bool.and_eq_true, List.all_eq_true] at h
  have h1 := h.2 i (List.mem_range.2 hi)
  rw [Bool.and_eq_true] at h1
  obtain ⟨ha, hb⟩ := h1
  constructor
  · intro t ht
    rw [ht] at ha
    simp only [Bool.and_eq_true, decide_eq_true_eq, List.all_eq_true, List.mem_range, bne_iff_ne] at ha
    exact ha
  · intro o j want ho hg
    rw [ho] at hb
    simp only [Option.bind_some, hg, Bool.and_eq_true, Option.any_some, Array.any_eq_true'] at hb
    obtain ⟨⟨e, he, h2⟩, h3⟩ := hb
    simp only [beq_iff_eq] at h2
    exact ⟨⟨e, he, h2.1, h2.2⟩, h3⟩

theorem wp_region_vals {id : Nat} {a : Act} {w : World} (hm : P.follows .mixedOrders = true) (hok : regOk ops a.tmps.size = true) (R : (Nat → Bool) → (Nat → Value) → World → Prop)
    (h0 : R (fun _ => false) (fun _ => undef) w.drew)
    (step : ∀ (E : Nat → Bool) (val : Nat → Value) (a' : Act) (w : World) (i : Nat) (o : Oper), ops[i]? = some o → E i = false → (∀ e ∈ o.after, Region.binds .any e = true → E e.on = true) → R E val w →
      (∀ j t, dstAt ops j = some t → E j = true → a'.eval (.tmp t) = val j) → (∀ t, (∀ j, dstAt ops j ≠ some t) → a'.eval (.tmp t) = a.eval (.tmp t)) →
      if runs o val = true then o.wp P a' w (fun a'' w'' => ∃ v, a'' = a'.put o.dst v ∧ R (fun j => j == i || E j) (fun j => if j = i then v else val j) w'') Q
      else R (fun j => j == i || E j) (fun j => if j = i then undef else val j) w)
    (fin : ∀ (E : Nat → Bool) (val : Nat → Value) (w : World), (∀ j, j < ops.size → E j = true) → R E val w → Q .normal (putAll a val 0 ops.toList) w) : (Code.region id ops true).wp P Q a w := by
  have inb : ∀ {j t}, dstAt ops j = some t → j < ops.size := by
    intro j t h
    rcases Nat.lt_or_ge j ops.size with h' | h'
    · exact h'
    · simp [dstAt, Array.getElem?_eq_none h'] at h
  have uniq : ∀ {j k t}, dstAt ops j = some t → dstAt ops k = some t → j = k := by
    intro j k t h1 h2
    rcases Nat.lt_trichotomy j k with h | h | h
    · exact absurd h1 (((regOk_at hok (inb h2)).1 t h2).2 j h)
    · exact h
    · exact absurd h2 (((regOk_at hok (inb h1)).1 t h1).2 k h)
  refine wp_region_inv hm (regOk_deps hok) (fun E a' w' => ∃ val, R E val w' ∧ a'.defers = a.defers ∧ a'.tmps.size = a.tmps.size ∧ (∀ j t, dstAt ops j = some t → E j = true → a'.tmps[t]? = some (val j)) ∧
    (∀ t, (∀ j, dstAt ops j = some t → E j = false) → a'.tmps[t]? = a.tmps[t]?)) ?_ ?_ ?_
  · exact ⟨_, h0, rfl, rfl, fun _ _ _ h => Bool.noConfusion h, fun _ _ => rfl⟩
  · rintro E a' w' i o hi hE hdeps ⟨val, hR, hdf, hsz, hdone, hold⟩
    have hilt : i < ops.size := (Array.getElem?_eq_some_iff.1 hi).1
    have hdi : dstAt ops i = o.dst := by simp [dstAt, hi]
    have hst := step E val a' w' i o hi hE hdeps hR (fun j t hj hEj => by simp [Act.eval, hdone j t hj hEj])
      (fun t ht => by simp only [Act.eval, Array.getD_eq_getD_getElem?]; rw [hold t (fun j hj => absurd hj (ht j))])
    have hwant : Region.wanted o (yielded ops a'.tmps) = runs o val := by
      unfold Region.wanted runs
      cases hg : o.guard with
      | none => rfl
      | some g =>
        obtain ⟨j, want⟩ := g
        obtain ⟨⟨e, he, hon, hb⟩, hs⟩ := (regOk_at hok hilt).2 o j want hi hg
        have hEj : E j = true := by rw [← hon]; exact hdeps e he hb
        obtain ⟨t, ht⟩ := Option.isSome_iff_exists.1 hs
        have hv := hdone j t ht hEj
        have hd : (ops[j]?).bind (·.dst) = some t := ht
        simp only [yielded, hd, Option.bind_some, hv]
        cases val j <;> simp
    have next : ∀ (v : Value) (w'' : World), R (fun j => j == i || E j) (fun j => if j = i then v else val j) w'' → ∃ val', R (fun j => j == i || E j) val' w'' ∧ (a'.put o.dst v).defers = a.defers ∧ (a'.put o.dst v).tmps.size = a.tmps.size ∧
        (∀ j t, dstAt ops j = some t → (j == i || E j) = true → (a'.put o.dst v).tmps[t]? = some (val' j)) ∧ (∀ t, (∀ j, dstAt ops j = some t → (j == i || E j) = false) → (a'.put o.dst v).tmps[t]? = a.tmps[t]?) := by
      intro v w'' hR'
      refine ⟨_, hR', by rw [put_defers]; exact hdf, by rw [put_size]; exact hsz, ?_, ?_⟩
      · intro j t hj hEj
        have htn : t < a'.tmps.size := by rw [hsz]; exact ((regOk_at hok (inb hj)).1 t hj).1
        rw [put_get _ _ _ _ htn]
        by_cases hji : j = i
        · subst hji
          rw [if_pos (by rw [← hdi]; exact hj)]
          simp
        · rw [if_neg (fun h => hji (uniq hj (hdi.trans h)))]
          have : E j = true := by simpa [hji] using hEj
          simpa [hji] using hdone j t hj this
      · intro t ht
        by_cases htn : t < a'.tmps.size
        · rw [put_get _ _ _ _ htn, if_neg (fun h => by have := ht i (hdi.trans h); simp at this)]
          refine hold t fun j hj => ?_
          have := ht j hj
          simp only [Bool.or_eq_false_iff] at this
          exact this.2
        · rw [Array.getElem?_eq_none (by rw [put_size]; exact Nat.le_of_not_lt htn), Array.getElem?_eq_none (by rw [← hsz]; exact Nat.le_of_not_lt htn)]
    rw [hwant]
    split
    · rename_i hr
      rw [if_pos hr] at hst
      refine Oper.wp_mono ?_ hst
      rintro a'' w'' ⟨v, rfl, hR'⟩
      exact next v w'' hR'
    · rename_i hr
      rw [if_neg hr] at hst
      exact next undef w' hst
  · rintro E a' w' hall ⟨val, hR, hdf, hsz, hdone, hold⟩
    have he : a' = putAll a val 0 ops.toList := by
      have ht : a'.tmps = (putAll a val 0 ops.toList).tmps := by
        apply Array.ext_getElem?
        intro t
        by_cases htn : t < a.tmps.size
        · by_cases hj : ∃ j, dstAt ops j = some t
          · obtain ⟨j, hj⟩ := hj
            have hjl := inb hj
            have hoj : ops.toList[j]? = some ops[j] := by simp [hjl]
            have hdj : ops[j].dst = some t := by simpa [dstAt, hjl] using hj
            rw [hdone j t hj (hall j hjl), putAll_at val t ops.toList 0 j a ops[j] htn hoj hdj ?_, Nat.zero_add]
            intro k o' hk ho' hd'
            have hkd : dstAt ops k = some t := by
              have : ops[k]? = some o' := by simpa using ho'
              simp [dstAt, this, hd']
            have := uniq hj hkd
            omega
          · have hn : ∀ j, dstAt ops j ≠ some t := fun j h => hj ⟨j, h⟩
            rw [hold t (fun j h => absurd h (hn j)), putAll_other val t ops.toList 0 a htn]
            intro o' ho' hd'
            obtain ⟨k, hk⟩ := List.getElem?_of_mem ho'
            refine hn k ?_
            have : ops[k]? = some o' := by simpa using hk
            simp [dstAt, this, hd']
        · rw [Array.getElem?_eq_none (by omega), Array.getElem?_eq_none (by rw [putAll_size]; omega)]
      have hd : a'.defers = (putAll a val 0 ops.toList).defers := by rw [hdf, putAll_defers]
      cases a'
      cases hx : putAll a val 0 ops.toList
      rw [hx] at ht hd
      simp only at ht hd
      rw [ht, hd]
    rw [he]
    exact fin E val w' hall hR

end
end Go.Hp
end EngReg
section EngReg2
namespace Go.Hp
open Go.RowKit

section
variable {P : Program} {ops : Array Oper} {Q : Exit → Act → World → Prop}

/-- What the slots of those that are waited for hold. -/
def know (ops : Array Oper) (vs : Nat → Value) (T : Array Value) : List Edge → Prop
  | [] => True
  | e :: es => (if Region.binds .any e = true then match dstAt ops e.on with
    | some t => T[t]?.getD undef = vs e.on
    | none => True
    else True) ∧ know ops vs T es

def outer (ops : Array Oper) (t : Nat) : Bool := ops.toList.all fun o => o.dst != some t

theorem know_of {vs : Nat → Value} {T : Array Value} : ∀ {l : List Edge}, (∀ e ∈ l, Region.binds .any e = true → ∀ t, dstAt ops e.on = some t → T[t]?.getD undef = vs e.on) → know ops vs T l
  | [], _ => trivial
  | e :: es, h => by
    refine ⟨?_, know_of fun e' he => h e' (by simp [he])⟩
    split
    · rename_i hb
      split
      · rename_i t ht
        exact h e (by simp) hb t ht
      · trivial
    · trivial

/-- One operation's share: what it yields, from what it waits for. -/
def RegOp (P : Program) (ops : Array Oper) (a : Act) (vs : Nat → Value) (J : World → Prop) (Q : Exit → Act → World → Prop) (i : Nat) (o : Oper) : Prop :=
  if runs o vs = true then ∀ (T : Array Value) (ds : List Deferred) (w : World) (K : Act → World → Prop), J w → know ops vs T o.after.toList → (∀ t, outer ops t = true → T[t]?.getD undef = a.tmps[t]?.getD undef) →
    (∀ w', J w' → K (Act.put ⟨T, ds⟩ o.dst (vs i)) w') → o.wp P ⟨T, ds⟩ w K Q
  else vs i = undef

def RegAll (P : Program) (ops : Array Oper) (a : Act) (vs : Nat → Value) (J : World → Prop) (Q : Exit → Act → World → Prop) : Nat → List Oper → Prop
  | _, [] => True
  | i, o :: l => RegOp P ops a vs J Q i o ∧ RegAll P ops a vs J Q (i + 1) l

theorem RegAll.get {a : Act} {vs : Nat → Value} {J : World → Prop} : ∀ {l : List Oper} {k i : Nat} {o : Oper}, RegAll P ops a vs J Q k l → l[i]? = some o → RegOp P ops a vs J Q (k + i) o
  | [], _, _, _, _, h => by simp at h
  | x :: l, k, 0, o, h, hi => by
    simp at hi
    subst hi
    exact h.1
  | x :: l, k, i + 1, o, h, hi => by
    have := RegAll.get (k := k + 1) (i := i) h.2 (by simpa using hi)
    rwa [show k + 1 + i = k + (i + 1) by omega] at this

theorem putAll_congr {val val' : Nat → Value} : ∀ (l : List Oper) (i : Nat) (a : Act), (∀ j, i ≤ j → j < i + l.length → val j = val' j) → putAll a val i l = putAll a val' i l
  | [], _, _, _ => rfl
  | o :: l, i, a, h => by
    rw [putAll, putAll, h i (Nat.le_refl _) (by simp), putAll_congr l (i + 1) _ (fun j h1 h2 => h j (by omega) (by simp at h2 ⊢; omega))]

theorem wp_region_const {id : Nat} {a : Act} {w : World} (vs : Nat → Value) (J : World → Prop) (hm : P.follows .mixedOrders = true) (hok : regOk ops a.tmps.size = true) (h0 : J w.drew)
    (step : RegAll P ops a vs J Q 0 ops.toList) (fin : ∀ w, J w → Q .normal (putAll a vs 0 ops.toList) w) : (Code.region id ops true).wp P Q a w := by
  refine wp_region_vals hm hok (fun E val w => J w ∧ ∀ j, E j = true → val j = vs j) ⟨h0, fun _ h => Bool.noConfusion h⟩ ?_ ?_
  · rintro E val a' w i o hi hE hdeps ⟨hJ, hv⟩ hdone hold
    have hop := RegAll.get step (by simpa using hi : ops.toList[i]? = some o)
    rw [Nat.zero_add] at hop
    have hilt : i < ops.size := (Array.getElem?_eq_some_iff.1 hi).1
    have hruns : runs o val = runs o vs := by
      unfold runs
      cases hg : o.guard with
      | none => rfl
      | some g =>
        obtain ⟨j, want⟩ := g
        obtain ⟨⟨e, he, hon, hb⟩, hs⟩ := (regOk_at hok hilt).2 o j want hi hg
        have hEj : E j = true := by rw [← hon]; exact hdeps e he hb
        simp only [hv j hEj]
    rw [hruns]
    unfold RegOp at hop
    have inval : ∀ j, (j == i || E j) = true → (if j = i then vs i else val j) = vs j := by
      intro j hj
      by_cases hji : j = i
      · subst hji; simp
      · rw [if_neg hji]
        exact hv j (by simpa [hji] using hj)
    split
    · rename_i hr
      rw [if_pos hr] at hop
      obtain ⟨T, ds⟩ := a'
      refine hop T ds w _ hJ (know_of fun e he hb t ht => ?_) (fun t ht => ?_) (fun w' hJ' => ⟨vs i, rfl, hJ', inval⟩)
      · have hEj := hdeps e (by simpa using he) hb
        have h1 := hdone e.on t ht hEj
        rw [hv _ hEj] at h1
        simpa [Act.eval] using h1
      · have h1 := hold t fun j hj => by
          unfold dstAt at hj
          cases ho : ops[j]? with
          | none => simp [ho] at hj
          | some o' =>
            simp [ho] at hj
            have := List.all_eq_true.1 ht o' (List.mem_of_getElem? (i := j) (by simpa using ho))
            simp [hj] at this
        simpa [Act.eval] using h1
    · rename_i hr
      rw [if_neg hr] at hop
      refine ⟨hJ, fun j hj => ?_⟩
      rw [← hop]
      exact inval j hj
  · rintro E val w hall ⟨hJ, hv⟩
    rw [putAll_congr (val' := vs) _ _ _ (fun j _ h2 => hv j (hall j (by simpa using h2)))]
    exact fin w hJ

section
variable {o : Oper} {a : Act} {w w0 : World} {L : List HProp} {K : Act → World → Prop}

theorem op_value {v : Value} {w' : World} (hr : (execOp a.eval o).run P w = .ok (.value v) w') (h : K (a.put o.dst v) w') : o.wp P a w K Q := by
  unfold Oper.wp
  rw [hr]
  exact h

theorem op_load (T : TypeId) (x : Operand) (ho : o.op = .load T x) (g off : Nat) (hx : a.eval x = .pointer (some ⟨g, off, none⟩))
    (hT : plainT P T = true) (H : At w0 L w) (i : Nat) {c : Array Value} {t : TypeId} {fr : Nat × Nat} (hL : L[i]? = some (Blk g (.cells c t fr))) {v : Value} (hc : c[off]? = some v)
    (h : K (a.put o.dst v) w) : o.wp P a w K Q := by
  refine op_value (v := v) (w' := w) ?_ h
  simp [execOp, ho, hx, Instr.loadAt, Instr.sureAddr, run_loadVar_cell hT (H.get i hL) hc]

theorem op_loads (T : TypeId) (x : Operand) (ho : o.op = .load T x) (g off : Nat) (hx : a.eval x = .pointer (some ⟨g, off, none⟩))
    (hT : aggT P T = true) (n : Nat) (hn : sizeT P T = some n) (H : At w0 L w) (i : Nat) {c : Array Value} {t : TypeId} {fr : Nat × Nat} (hL : L[i]? = some (Blk g (.cells c t fr))) (hc : off + n ≤ c.size)
    (h : K (a.put o.dst (.agg (c.extract off (off + n)))) w) : o.wp P a w K Q := by
  refine op_value (v := .agg (c.extract off (off + n))) (w' := w) ?_ h
  simp [execOp, ho, hx, Instr.loadAt, Instr.sureAddr, run_loadVar_agg hT hn (H.get i hL) hc]
end
end

section
variable {P : Program} {ops : Array Oper} {Q : Exit → Act → World → Prop} {a : Act} {w : World} {rest : List Oper} {o : Oper} {w0 : World} {L : List HProp}

/-- A slice's literal: a new block. -/
theorem st_lit (hw : Region.wanted o (yielded ops a.tmps) = true) (T : TypeId) (k : Nat) (ps : Array (Nat × Operand)) (_ : o.op = .buildSlice T k ps) (cs : Array Value) (e : TypeId) (n : Nat) (H : At w0 L w)
    (hr : (execOp a.eval o).run P w = .ok (.value (.slice (some ⟨w.heap.size, 0, none⟩) n n)) (w.alloc (.cells cs e)))
    (h : ∀ g w', At w0 (Blk g (.cells cs e (0, 0)) :: L) w' → ∀ K : Act → World → Prop, (∀ a w, wpList P ops Q rest a w → K a w) → K (a.put o.dst (.slice (some ⟨g, 0, none⟩) n n)) w') : wpList P ops Q (o :: rest) a w :=
  st_value hw hr (h _ _ (H.alloc _) _ fun _ _ h => h)
end
end Go.Hp
end EngReg2
section EngReg3
namespace Go.Hp
open Go.RowKit

section
variable {P : Program} {ops : Array Oper} {Q : Exit → Act → World → Prop}

/-- Those of 'nd' wait for the m-th, at once or through others. -/
def ndOk (ops : Array Oper) (m : Nat) (nd : Nat → Bool) : Bool :=
  (List.range ops.size).all fun i => !nd i || (ops[i]?).any fun o => o.after.any fun e => Region.binds .any e && (e.on == m || nd e.on)

def StageOp (P : Program) (ops : Array Oper) (a : Act) (vs : Nat → Value) (J J' : World → Prop) (Q : Exit → Act → World → Prop) (i : Nat) (o : Oper) : Prop :=
  if runs o vs = true then ∀ (T : Array Value) (ds : List Deferred) (w : World) (K : Act → World → Prop), J w → know ops vs T o.after.toList → (∀ t, outer ops t = true → T[t]?.getD undef = a.tmps[t]?.getD undef) →
    (∀ w', J' w' → K (Act.put ⟨T, ds⟩ o.dst (vs i)) w') → o.wp P ⟨T, ds⟩ w K Q
  else vs i = undef

def StageAll (P : Program) (ops : Array Oper) (a : Act) (vs : Nat → Value) (m : Nat) (nd : Nat → Bool) (J : Bool → World → Prop) (Q : Exit → Act → World → Prop) : Nat → List Oper → Prop
  | _, [] => True
  | i, o :: l => (if i = m then runs o vs = true ∧ StageOp P ops a vs (J false) (J true) Q i o else if nd i = true then StageOp P ops a vs (J true) (J true) Q i o else ∀ b, StageOp P ops a vs (J b) (J b) Q i o) ∧
    StageAll P ops a vs m nd J Q (i + 1) l

theorem StageAll.get {a : Act} {vs : Nat → Value} {m : Nat} {nd : Nat → Bool} {J : Bool → World → Prop} : ∀ {l : List Oper} {k i : Nat} {o : Oper}, StageAll P ops a vs m nd J Q k l → l[i]? = some o →
    if k + i = m then runs o vs = true ∧ StageOp P ops a vs (J false) (J true) Q (k + i) o else if nd (k + i) = true then StageOp P ops a vs (J true) (J true) Q (k + i) o else ∀ b, StageOp P ops a vs (J b) (J b) Q (k + i) o
  | [], _, _, _, _, h => by simp at h
  | x :: l, k, 0, o, h, hi => by
    simp at hi
    subst hi
    exact h.1
  | x :: l, k, i + 1, o, h, hi => by
    have := StageAll.get (k := k + 1) (i := i) h.2 (by simpa using hi)
    rwa [show k + 1 + i = k + (i + 1) by omega] at this

theorem wp_region_stage {id : Nat} {a : Act} {w : World} (m : Nat) (nd : Nat → Bool) (vs : Nat → Value) (J : Bool → World → Prop) (hm : P.follows .mixedOrders = true) (hok : regOk ops a.tmps.size = true) (hmlt : m < ops.size) (hnd : ndOk ops m nd = true)
    (h0 : J false w.drew) (step : StageAll P ops a vs m nd J Q 0 ops.toList) (fin : ∀ w, J true w → Q .normal (putAll a vs 0 ops.toList) w) : (Code.region id ops true).wp P Q a w := by
  refine wp_region_vals hm hok (fun E val w => J (E m) w ∧ (∀ j, E j = true → val j = vs j) ∧ ∀ j, E j = true → nd j = true → E m = true) ⟨h0, fun _ h => Bool.noConfusion h, fun _ h => Bool.noConfusion h⟩ ?_ ?_
  · rintro E val a' w i o hi hE hdeps ⟨hJ, hv, hcl⟩ hdone hold
    have hop := StageAll.get step (by simpa using hi : ops.toList[i]? = some o)
    rw [Nat.zero_add] at hop
    have hilt : i < ops.size := (Array.getElem?_eq_some_iff.1 hi).1
    have hruns : runs o val = runs o vs := by
      unfold runs
      cases hg : o.guard with
      | none => rfl
      | some g =>
        obtain ⟨j, want⟩ := g
        obtain ⟨⟨e, he, hon, hb⟩, hs⟩ := (regOk_at hok hilt).2 o j want hi hg
        have hEj : E j = true := by rw [← hon]; exact hdeps e he hb
        simp only [hv j hEj]
    have hndi : nd i = true → E m = true := by
      intro hn
      unfold ndOk at hnd
      have := List.all_eq_true.1 hnd i (List.mem_range.2 hilt)
      rw [hn, hi] at this
      simp only [Bool.not_true, Bool.false_or, Option.any_some, Array.any_eq_true', Bool.and_eq_true, Bool.or_eq_true, beq_iff_eq] at this
      obtain ⟨e, he, hb, h1 | h1⟩ := this
      · rw [← h1]; exact hdeps e he hb
      · exact hcl _ (hdeps e he hb) h1
    have inval : ∀ j, (j == i || E j) = true → (if j = i then vs i else val j) = vs j := by
      intro j hj
      by_cases hji : j = i
      · subst hji; simp
      · rw [if_neg hji]
        exact hv j (by simpa [hji] using hj)
    have inclo : ∀ b : Bool, (b = true → (m == i || E m) = true) → ∀ j, (j == i || E j) = true → nd j = true → (m == i || E m) = true := by
      intro b _ j hj hn
      by_cases hji : j = i
      · subst hji; rw [hndi hn]; simp
      · rw [hcl j (by simpa [hji] using hj) hn]; simp
    rw [hruns]
    -- one operation
    have run : ∀ (Jb Jb' : World → Prop), Jb w → StageOp P ops a vs Jb Jb' Q i o → (runs o vs = true → ∀ w', Jb' w' → J (m == i || E m) w') → (runs o vs = false → J (m == i || E m) w) →
        if runs o vs = true then o.wp P a' w (fun a'' w'' => ∃ v, a'' = a'.put o.dst v ∧ J (m == i || E m) w'' ∧ (∀ j, (j == i || E j) = true → (if j = i then v else val j) = vs j) ∧ ∀ j, (j == i || E j) = true → nd j = true → (m == i || E m) = true) Q
        else J (m == i || E m) w ∧ (∀ j, (j == i || E j) = true → (if j = i then undef else val j) = vs j) ∧ ∀ j, (j == i || E j) = true → nd j = true → (m == i || E m) = true := by
      intro Jb Jb' hJb hs hn hn2
      unfold StageOp at hs
      split
      · rename_i hr
        rw [if_pos hr] at hs
        obtain ⟨T, ds⟩ := a'
        refine hs T ds w _ hJb (know_of fun e he hb t ht => ?_) (fun t ht => ?_) (fun w' hJ' => ⟨vs i, rfl, hn hr w' hJ', inval, inclo false (fun h => Bool.noConfusion h)⟩)
        · have hEj := hdeps e (by simpa using he) hb
          have h1 := hdone e.on t ht hEj
          rw [hv _ hEj] at h1
          simpa [Act.eval] using h1
        · have h1 := hold t fun j hj => by
            unfold dstAt at hj
            cases ho : ops[j]? with
            | none => simp [ho] at hj
            | some o' =>
              simp [ho] at hj
              have := List.all_eq_true.1 ht o' (List.mem_of_getElem? (i := j) (by simpa using ho))
              simp [hj] at this
          simpa [Act.eval] using h1
      · rename_i hr
        rw [if_neg hr] at hs
        refine ⟨hn2 (by simpa using hr), fun j hj => ?_, inclo false (fun h => Bool.noConfusion h)⟩
        rw [← hs]
        exact inval j hj
    by_cases him : i = m
    · subst him
      rw [if_pos rfl] at hop
      rw [hE] at hJ
      exact run _ _ hJ hop.2 (fun _ w' h => by simpa using h) (fun h => by rw [hop.1] at h; cases h)
    · rw [if_neg him] at hop
      have hmi : (m == i || E m) = E m := by
        have : (m == i) = false := by simp; exact fun h => him h.symm
        rw [this, Bool.false_or]
      by_cases hn : nd i = true
      · rw [if_pos hn] at hop
        have hEm := hndi hn
        rw [hEm] at hJ
        exact run _ _ hJ hop (fun _ w' h => by rw [hmi, hEm]; exact h) (fun _ => by rw [hmi, hEm]; exact hJ)
      · rw [if_neg hn] at hop
        exact run _ _ hJ (hop (E m)) (fun _ w' h => by rw [hmi]; exact h) (fun _ => by rw [hmi]; exact hJ)
  · rintro E val w hall ⟨hJ, hv, _⟩
    rw [hall m hmlt] at hJ
    rw [putAll_congr (val' := vs) _ _ _ (fun j _ h2 => hv j (hall j (by simpa using h2)))]
    exact fin w hJ
end

section
variable {P : Program} {Q : Exit → Act → World → Prop} {o : Oper} {a : Act} {w : World} {K : Act → World → Prop}

theorem op_make (T : TypeId) (x y : Operand) (ho : o.op = .makeSlice T x y) (kl kc : IntKind) (l c : Int) (hx : a.eval x = .int kl l) (hy : a.eval y = .int kc c)
    (e : TypeId) (ht : P.underlying T = some (.slice e)) (bytes : Nat) (hb : (P.info? e).map (·.bytes) = some bytes) (size : Nat) (hs : sizeT P e = some size) (z : Value) (hz : zeroT P e = some z)
    (h0 : 0 ≤ l) (hlc : l ≤ c) (hbytes : (bytes : Int) * c ≤ 281474976710656) (h63 : c ≤ 9223372036854775807)
    (h : K (a.put o.dst (.slice (some ⟨w.heap.size, 0, none⟩) l.toNat c.toNat)) (w.alloc (.cells (madeCells z.cells (c.toNat * size)) e))) : o.wp P a w K Q := by
  unfold zeroT at hz
  unfold sizeT at hs
  cases hi : P.info? e with
  | none => simp [hi] at hs
  | some i =>
    simp [hi] at hb hs hz
    subst hb hs
    have hr := run_make (P := P) w T e i z ht hi hz kl kc l c h0 hlc hbytes h63
    refine op_value (v := .slice (some ⟨w.heap.size, 0, none⟩) l.toNat c.toNat) (w' := w.alloc (.cells (madeCells z.cells (c.toNat * i.size)) e)) ?_ h
    simp [execOp, ho, hx, hy, hr]
end

/-- Ahead of a 'make' the heap is of that size; behind it its block is there. -/
def jmade (S : Nat) (B : HProp) (w0 : World) (L : List HProp) : Bool → World → Prop
  | true => fun w => At w0 (B :: L) w
  | false => fun w => w.heap.size = S ∧ At w0 L w

theorem jmade0 {B : HProp} {w0 w : World} {L : List HProp} (H : At w0 L w) : jmade w.heap.size B w0 L false w.drew := ⟨rfl, H⟩
end Go.Hp
end EngReg3
section EngReg4
namespace Go.Hp
open Go.RowKit

section
variable {P : Program} {ops : Array Oper} {Q : Exit → Act → World → Prop}

/-- How many makers are done where the i-th may run. -/
def preOf (ms : List Nat) (need : Nat → Nat) (i : Nat) : Nat := match ms.idxOf? i with | some k => k | none => need i

def chainOk (ops : Array Oper) (ms : List Nat) (need : Nat → Nat) : Bool :=
  ((List.range ops.size).all fun i => decide (preOf ms need i = 0) || (ops[i]?).any fun o => o.after.any fun e => Region.binds .any e && decide (preOf ms need i ≤ need e.on)) &&
  (ms.all fun m => decide (m < ops.size)) && ((List.range ms.length).all fun k => match ms[k]? with | some m => ms.idxOf? m == some k && need m == k + 1 | none => false)

def ChainOp (P : Program) (ops : Array Oper) (a : Act) (ms : List Nat) (need : Nat → Nat) (vs : List Value → Nat → Value) (J : List Value → World → Prop) (Q : Exit → Act → World → Prop) (i : Nat) (o : Oper) : Prop :=
  match ms.idxOf? i with
  | some k => ∀ xs : List Value, xs.length = k → runs o (vs xs) = true ∧ ∀ (T : Array Value) (ds : List Deferred) (w : World) (K : Act → World → Prop), J xs w → know ops (vs xs) T o.after.toList →
      (∀ t, outer ops t = true → T[t]?.getD undef = a.tmps[t]?.getD undef) → (∀ x w', J (xs ++ [x]) w' → K (Act.put ⟨T, ds⟩ o.dst x) w') → o.wp P ⟨T, ds⟩ w K Q
  | none => ∀ xs : List Value, need i ≤ xs.length → xs.length ≤ ms.length → if runs o (vs xs) = true then ∀ (T : Array Value) (ds : List Deferred) (w : World) (K : Act → World → Prop), J xs w → know ops (vs xs) T o.after.toList →
      (∀ t, outer ops t = true → T[t]?.getD undef = a.tmps[t]?.getD undef) → (∀ w', J xs w' → K (Act.put ⟨T, ds⟩ o.dst (vs xs i)) w') → o.wp P ⟨T, ds⟩ w K Q
      else vs xs i = undef

theorem chain_mk {a : Act} {ms : List Nat} {need : Nat → Nat} {vs : List Value → Nat → Value} {J : List Value → World → Prop} {i : Nat} {o : Oper} (k : Nat) (h : ms.idxOf? i = some k)
    (h2 : ∀ xs : List Value, xs.length = k → runs o (vs xs) = true ∧ ∀ (T : Array Value) (ds : List Deferred) (w : World) (K : Act → World → Prop), J xs w → know ops (vs xs) T o.after.toList →
      (∀ t, outer ops t = true → T[t]?.getD undef = a.tmps[t]?.getD undef) → (∀ x w', J (xs ++ [x]) w' → K (Act.put ⟨T, ds⟩ o.dst x) w') → o.wp P ⟨T, ds⟩ w K Q) : ChainOp P ops a ms need vs J Q i o := by
  unfold ChainOp
  rw [h]
  exact h2

theorem chain_pl {a : Act} {ms : List Nat} {need : Nat → Nat} {vs : List Value → Nat → Value} {J : List Value → World → Prop} {i : Nat} {o : Oper} (h : ms.idxOf? i = none)
    (h2 : ∀ xs : List Value, need i ≤ xs.length → xs.length ≤ ms.length → if runs o (vs xs) = true then ∀ (T : Array Value) (ds : List Deferred) (w : World) (K : Act → World → Prop), J xs w → know ops (vs xs) T o.after.toList →
      (∀ t, outer ops t = true → T[t]?.getD undef = a.tmps[t]?.getD undef) → (∀ w', J xs w' → K (Act.put ⟨T, ds⟩ o.dst (vs xs i)) w') → o.wp P ⟨T, ds⟩ w K Q
      else vs xs i = undef) : ChainOp P ops a ms need vs J Q i o := by
  unfold ChainOp
  rw [h]
  exact h2

def ChainAll (P : Program) (ops : Array Oper) (a : Act) (ms : List Nat) (need : Nat → Nat) (vs : List Value → Nat → Value) (J : List Value → World → Prop) (Q : Exit → Act → World → Prop) : Nat → List Oper → Prop
  | _, [] => True
  | i, o :: l => ChainOp P ops a ms need vs J Q i o ∧ ChainAll P ops a ms need vs J Q (i + 1) l

theorem ChainAll.get {a : Act} {ms : List Nat} {need : Nat → Nat} {vs : List Value → Nat → Value} {J : List Value → World → Prop} : ∀ {l : List Oper} {k i : Nat} {o : Oper}, ChainAll P ops a ms need vs J Q k l → l[i]? = some o →
    ChainOp P ops a ms need vs J Q (k + i) o
  | [], _, _, _, _, h => by simp at h
  | x :: l, k, 0, o, h, hi => by
    simp at hi
    subst hi
    exact h.1
  | x :: l, k, i + 1, o, h, hi => by
    have := ChainAll.get (k := k + 1) (i := i) h.2 (by simpa using hi)
    rwa [show k + 1 + i = k + (i + 1) by omega] at this

theorem wp_region_chain {id : Nat} {a : Act} {w : World} (ms : List Nat) (need : Nat → Nat) (vs : List Value → Nat → Value) (J : List Value → World → Prop) (hm : P.follows .mixedOrders = true) (hok : regOk ops a.tmps.size = true)
    (hch : chainOk ops ms need = true) (hst : ∀ xs x j, need j ≤ xs.length → vs (xs ++ [x]) j = vs xs j) (hmk : ∀ xs x m, xs.length < ms.length → ms[xs.length]? = some m → vs (xs ++ [x]) m = x)
    (h0 : J [] w.drew) (step : ChainAll P ops a ms need vs J Q 0 ops.toList) (fin : ∀ xs w, xs.length = ms.length → J xs w → Q .normal (putAll a (vs xs) 0 ops.toList) w) : (Code.region id ops true).wp P Q a w := by
  unfold chainOk at hch
  simp only [Bool.and_eq_true] at hch
  obtain ⟨⟨hpre, hlt⟩, hidx⟩ := hch
  have idx : ∀ k m, ms[k]? = some m → ms.idxOf? m = some k ∧ need m = k + 1 := by
    intro k m hkm
    have hk : k < ms.length := (List.getElem?_eq_some_iff.1 hkm).1
    have := List.all_eq_true.1 hidx k (List.mem_range.2 hk)
    rw [hkm] at this
    simpa using this
  refine wp_region_vals hm hok (fun E val w => ∃ xs, xs.length ≤ ms.length ∧ J xs w ∧ (∀ k m, ms[k]? = some m → (E m = true ↔ k < xs.length)) ∧ (∀ j, E j = true → val j = vs xs j) ∧ ∀ j, E j = true → need j ≤ xs.length) ?_ ?_ ?_
  · exact ⟨[], Nat.zero_le _, h0, fun k m _ => by simp, fun _ h => Bool.noConfusion h, fun _ h => Bool.noConfusion h⟩
  · rintro E val a' w i o hi hE hdeps ⟨xs, hxl, hJ, hEm, hv, hneed⟩ hdone hold
    have hop := ChainAll.get step (by simpa using hi : ops.toList[i]? = some o)
    rw [Nat.zero_add] at hop
    have hilt : i < ops.size := (Array.getElem?_eq_some_iff.1 hi).1
    have hruns : runs o val = runs o (vs xs) := by
      unfold runs
      cases hg : o.guard with
      | none => rfl
      | some g =>
        obtain ⟨j, want⟩ := g
        obtain ⟨⟨e, he, hon, hb⟩, hs⟩ := (regOk_at hok hilt).2 o j want hi hg
        have hEj : E j = true := by rw [← hon]; exact hdeps e he hb
        simp only [hv j hEj]
    have hp : preOf ms need i ≤ xs.length := by
      have := List.all_eq_true.1 hpre i (List.mem_range.2 hilt)
      rw [hi] at this
      simp only [Option.any_some, Array.any_eq_true', Bool.and_eq_true, Bool.or_eq_true, decide_eq_true_eq] at this
      rcases this with h | ⟨e, he, hb, h⟩
      · omega
      · exact Nat.le_trans h (hneed _ (hdeps e he hb))
    have hkn : know ops (vs xs) a'.tmps o.after.toList := know_of fun e he hb t ht => by
      have hEj := hdeps e (by simpa using he) hb
      have h1 := hdone e.on t ht hEj
      rw [hv _ hEj] at h1
      simpa [Act.eval] using h1
    have hou : ∀ t, outer ops t = true → a'.tmps[t]?.getD undef = a.tmps[t]?.getD undef := fun t ht => by
      have h1 := hold t fun j hj => by
        unfold dstAt at hj
        cases ho : ops[j]? with
        | none => simp [ho] at hj
        | some o' =>
          simp [ho] at hj
          have := List.all_eq_true.1 ht o' (List.mem_of_getElem? (i := j) (by simpa using ho))
          simp [hj] at this
      simpa [Act.eval] using h1
    rw [hruns]
    unfold ChainOp at hop
    unfold preOf at hp
    cases hmi : ms.idxOf? i with
    | some k =>
      rw [hmi] at hop hp
      dsimp only at hop hp
      have hki : ms[k]? = some i := by
        have h1 := List.findIdx?_eq_some_iff_getElem.1 (show ms.findIdx? (· == i) = some k from hmi)
        obtain ⟨h2, h3, _⟩ := h1
        rw [List.getElem?_eq_getElem h2]
        have h4 : ms[k] = i := by simpa using h3
        rw [h4]
      have hk : xs.length = k := by
        have h1 := hEm k i hki
        rw [hE] at h1
        have h2 : ¬ k < xs.length := fun h => Bool.noConfusion (h1.2 h)
        omega
      have hkl : xs.length < ms.length := by rw [hk]; exact (List.getElem?_eq_some_iff.1 hki).1
      obtain ⟨hr, hs⟩ := hop xs hk
      rw [if_pos hr]
      obtain ⟨T, ds⟩ := a'
      refine hs T ds w _ hJ hkn hou (fun x w' hJ' => ⟨x, rfl, xs ++ [x], by simp; omega, hJ', ?_, ?_, ?_⟩)
      · intro k' m' hm'
        have h1 := hEm k' m' hm'
        by_cases hmi' : m' = i
        · subst hmi'
          have : k' = k := by
            have h2 := (idx k' m' hm').1
            rw [hmi] at h2
            exact (Option.some.inj h2).symm
          simp; omega
        · have : k' ≠ k := by rintro rfl; rw [hki] at hm'; exact hmi' (Option.some.inj hm').symm
          have hb : (m' == i) = false := by simpa using hmi'
          show (m' == i || E m') = true ↔ _
          rw [hb, Bool.false_or, h1]
          simp; omega
      · intro j hj
        by_cases hji : j = i
        · subst hji
          show (if j = j then x else val j) = _
          rw [if_pos rfl]
          exact (hmk xs x j hkl (by rw [hk]; exact hki)).symm
        · show (if j = i then x else val j) = _
          rw [if_neg hji]
          have hEj : E j = true := by simpa [hji] using hj
          rw [hst xs x j (hneed j hEj)]
          exact hv j hEj
      · intro j hj
        by_cases hji : j = i
        · subst hji
          rw [(idx k j hki).2]
          simp; omega
        · have hEj : E j = true := by simpa [hji] using hj
          have := hneed j hEj
          simp; omega
    | none =>
      rw [hmi] at hop hp
      dsimp only at hop hp
      have hs := hop xs hp hxl
      have hem : ∀ k m, ms[k]? = some m → ((m == i || E m) = true ↔ k < xs.length) := by
        intro k m hkm
        have : m ≠ i := by
          rintro rfl
          rw [(idx k m hkm).1] at hmi
          cases hmi
        have hb : (m == i) = false := by simpa using this
        rw [hb, Bool.false_or]
        exact hEm k m hkm
      have hnd : ∀ j, (j == i || E j) = true → need j ≤ xs.length := by
        intro j hj
        by_cases hji : j = i
        · subst hji; exact hp
        · exact hneed j (by simpa [hji] using hj)
      split
      · rename_i hr
        rw [if_pos hr] at hs
        obtain ⟨T, ds⟩ := a'
        refine hs T ds w _ hJ hkn hou (fun w' hJ' => ⟨_, rfl, xs, hxl, hJ', hem, fun j hj => ?_, hnd⟩)
        by_cases hji : j = i
        · subst hji; simp
        · show (if j = i then _ else val j) = _
          rw [if_neg hji]; exact hv j (by simpa [hji] using hj)
      · rename_i hr
        rw [if_neg hr] at hs
        refine ⟨xs, hxl, hJ, hem, fun j hj => ?_, hnd⟩
        by_cases hji : j = i
        · subst hji; simp [hs]
        · show (if j = i then _ else val j) = _
          rw [if_neg hji]; exact hv j (by simpa [hji] using hj)
  · rintro E val w hall ⟨xs, hxl, hJ, hEm, hv, _⟩
    have hfull : xs.length = ms.length := by
      rcases Nat.lt_or_ge xs.length ms.length with h | h
      · have hm' : ms[xs.length]? = some ms[xs.length] := List.getElem?_eq_getElem h
        have h2 : ms[xs.length] < ops.size := by
          have := List.all_eq_true.1 hlt _ (List.mem_of_getElem? hm')
          simpa using this
        have := (hEm _ _ hm').1 (hall _ h2)
        omega
      · omega
    rw [putAll_congr (val' := vs xs) _ _ _ (fun j _ h2 => hv j (hall j (by simpa using h2)))]
    exact fin xs w hfull hJ
end

theorem getD_snoc {xs : List Value} {x d : Value} {k : Nat} (h : k < xs.length) : (xs ++ [x]).getD k d = xs.getD k d := by
  simp [List.getD, List.getElem?_append_left h]

section
variable {P : Program} {Q : Exit → Act → World → Prop} {o : Oper} {a : Act} {w w0 : World} {L : List HProp} {K : Act → World → Prop}

theorem op_append (s x : Operand) (t : TypeId) (ho : o.op = .call { callee := .builtin .append, args := #[s, x], argTypes := #[t, t] })
    (e : TypeId) (ht : P.underlying t = some (.slice e)) (size : Nat) (hsz : sizeT P e = some size) (bytes : Nat) (hby : bytesT P e = some bytes) (z : Value) (hz : zeroT P e = some z) (hzs : z.cells.size = size)
    (v : Value) (n : Nat) (xs : List Value) (hs : a.eval s = v) (H : At w0 (OwnRow e size v n xs :: L) w)
    (sp : Option Addr) (m c : Nat) (news : List Value) (hx : a.eval x = .slice sp m c) (hl : news.length = m * size) (hsp : 0 < m → ∃ ad, sp = some ad ∧ ∀ j u, news[j]? = some u → w.cell? (ad.add j) = some u)
    (h1 : ∀ u ∈ news, u.oneCell' = true) (h63 : n + m ≤ maxLen) (hbytes : (n + m) * bytes ≤ 140737488355328)
    (h : ∀ v' w', At w0 (OwnRow e size v' (n + m) (xs ++ news) :: L) w' → K (a.put o.dst v') w') : o.wp P a w K Q := by
  obtain ⟨v', w', hr, H'⟩ := run_append_at (P := P) (ty := o.type) ht hsz hby hz hzs H sp m c news hl hsp h1 h63 hbytes
  refine op_value (v := v') (w' := w') ?_ (h v' w' H')
  simp [execOp, ho, resolve, invoke, builtin, hs, hx, hr]
end
end Go.Hp
end EngReg4
section EngFrame
namespace Go.Hp
open Go.RowKit Go.ChangeShapes Go.Deep

theorem trodAll_len {H : Type} {enc : TypeId × Value → H} {P : Program} {w : World} {base : Nat} {sp : Nat → Bool} {held : Bool} : ∀ {ts : List TypeId} {vs : List Value} {ds : List (DataW H)} {ps : List MemPlace},
    DataW.TrodAll enc P w base sp held ts vs ds ps → ds.length = ts.length
  | [], [], [], _, _ => rfl
  | [], [], _ :: _, _, h => by simp [DataW.TrodAll] at h
  | [], _ :: _, _, _, h => by simp [DataW.TrodAll] at h
  | _ :: _, [], _, _, h => by simp [DataW.TrodAll] at h
  | _ :: _, _ :: _, [], _, h => by simp [DataW.TrodAll] at h
  | _ :: _, _ :: _, _ :: _, _, ⟨_, _, _, h2, _⟩ => by simp [trodAll_len h2]

theorem trodAll_stays {H : Type} {enc : TypeId × Value → H} {P : Program} (hl : laidOutB P = true) {W W' : World} {sp' : Nat → Bool} (hb : Below W.heap.size W W') : ∀ {ts : List TypeId} {vs : List Value} {ds : List (DataW H)} {ps : List MemPlace},
    (ts.all fun t => P.readableRec t && decide (t < P.types.size)) = true → DataW.TrodAll enc P W 0 (fun _ => true) true ts vs ds ps → (∀ x ∈ ps, x.block < W.heap.size) → (∀ p ∈ ps, sp' p.block = true) →
    DataW.TrodAll enc P W' 0 sp' true ts vs ds ps
  | [], [], [], _, _, h, _, _ => h
  | [], [], _ :: _, _, _, h, _, _ => by simp [DataW.TrodAll] at h
  | [], _ :: _, _, _, _, h, _, _ => by simp [DataW.TrodAll] at h
  | _ :: _, [], _, _, _, h, _, _ => by simp [DataW.TrodAll] at h
  | _ :: _, _ :: _, [], _, _, h, _, _ => by simp [DataW.TrodAll] at h
  | t :: ts, _ :: _, _ :: _, _, ht, ⟨p, q, h1, h2, e⟩, hlt, hs => by
    simp only [List.all_cons, Bool.and_eq_true, decide_eq_true_eq] at ht
    subst e
    exact ⟨p, q, WideElems.Trod_stays hl ht.1.1 ht.1.2 h1 (fun x hx => hb.same (hlt x (by simp [hx]))) (fun x hx => hs x (by simp [hx])),
      trodAll_stays hl hb ht.2 h2 (fun x hx => hlt x (by simp [hx])) (fun x hx => hs x (by simp [hx])), rfl⟩

/-- What a law's walk owes. -/
def LawWalk (C : Checked) (H : Type) (enc : TypeId × Value → H) (f : FuncId) (fn : Func) : Prop :=
  ∀ (W : World) (args : Array Value) (ds : List (DataW H)) (p : List MemPlace), (∃ base, ∀ (j : Nat) t v, fn.params[j]? = some t → args[j]? = some v → Value.okWide C.prog W .any base t v) →
    DataW.TrodAll enc C.prog W 0 (fun _ => true) true fn.params.toList args.toList ds p → (DataW.weightsEach C.prog fn.params.toList ds).all (· ≤ reachBytes) = true →
    Calls C.prog f args W fun e w => e = .returned (.bool true) ∧ Below W.heap.size W w

theorem frame_true {C : Checked} {os : Os} (started : os.Started) {H : Type} {enc : TypeId × Value → H} {f : FuncId} {fn : Func} {s : ChangeSpec} {conds : List PathCond} {tb : TypeId}
    (own : ownKnob C.prog.godebug = none) (noInit : C.prog.inits.idxOf? f = none) (hfn : C.prog.funcs[f]? = some fn)
    (witness : ∃ (w : World) (tape : Tape) (i : Input), w.os = os ∧ (w.forCall tape i).Shaped C.prog ∧ i.vars = [] ∧ Input.okWide C.prog (w.forCall tape i) .any w.heap.size f i ∧
      s.pre6 enc C.prog fn conds false (w.forCall tape i).memory i.args ∧ ({} : Assume).holds C.prog (lone (Frame.enter C.prog f i.args .normal) [] (w.forCall tape i)))
    (hvars : s.vars = []) (hspec : ∀ ds : List (DataW H), ds.length = fn.params.toList.length → s.fn H ds = { results := [.lit (.bool true)], args := ds, vars := [] })
    (hl : laidOutB C.prog = true) (hpar : (fn.params.toList.all fun t => C.prog.readableRec t && decide (t < C.prog.types.size)) = true)
    (hres : fn.resultTypes = #[tb]) (htb : C.prog.underlying tb = some .bool) (walk : LawWalk C H enc f fn) :
    ReturnsInHanded {} C os f .any (s.pre6 enc C.prog fn conds false) (s.post enc C.prog fn false true false false) := by
  refine returnsInHanded_of_change_sized own started noInit hfn witness ?_
  intro W base args ds gs before hval hW hcnd hwt _
  have hW' := hW
  obtain ⟨p, q, hA, hV, rfl, hfz, hnd⟩ := hW
  rw [hvars] at hV
  obtain ⟨rfl, rfl⟩ := trodVars_none hV
  have hlt : ∀ x ∈ p, x.block < W.heap.size := fun x hx => hW'.lt x (by simp [hx])
  have hpv : s.plain.varTypes C.prog = [] := by simp [DataSpec.varTypes, ChangeSpec.plain, hvars]
  rw [hpv] at hwt
  simp only [List.append_nil] at hW' hwt
  refine (walk W args ds p ⟨base, hval⟩ hA hwt).mono fun e W' he => ?_
  obtain ⟨rfl, hg⟩ := he
  have hf : s.fn H (ds ++ []) = { results := [.lit (.bool true)], args := ds, vars := [] } := by rw [List.append_nil]; exact hspec ds (trodAll_len hA)
  have hold : ∀ x ∈ p, (fun b => decide (b < W.heap.size)) x.block = true := fun x hx => by simpa using hlt x hx
  have hres' : ∀ (b : Nat) (sp : Nat → Bool) (hd : Bool), DataW.TrodAll enc C.prog W' b sp hd fn.resultTypes.toList ((Value.bool true).resultList fn.resultTypes.size) (s.fn H (ds ++ [])).results [] := by
    intro b sp hd
    rw [hf, hres]
    exact trodAll_mk1 (shut_bool htb _)
  have hargs : ∀ sp : Nat → Bool, (∀ x ∈ p, sp x.block = true) → DataW.TrodAll enc C.prog W' 0 sp true fn.params.toList args.toList (s.fn H (ds ++ [])).args p := by
    intro sp hsp
    rw [hf]
    exact trodAll_stays hl hg hpar hA hlt hsp
  have hvs : ∀ sp : Nat → Bool, DataW.TrodVars enc C.prog W' sp s.vars (s.fn H (ds ++ [])).vars [] := by
    intro sp
    rw [hf, hvars]
    exact rfl
  refine ⟨_, rfl, ds, [], p, [], p, [], hW', hres' _ _ _, hargs _ hold, hvs _, World.keptBut_mono (fun x hx => ⟨hx, .inr (.inl hx)⟩) (hg.frame _), fun _ => ?_⟩
  refine ⟨?_, _, _, ([] ++ p) ++ [], ⟨[] ++ p, [], trodAll_append (hargs _ (fun _ _ => rfl)) (hres' _ _ _), hvs _, rfl, ?_, ?_⟩, ?_⟩
  · exact ok_one hres rfl (okWide_bool_mk htb _)
  · intro b off hp
    have hp2 : MemPlace.cell b off ∈ p := by simpa using hp
    exact (hg.frozen (p := ⟨b, off, none⟩) (hlt _ hp2)).trans (hfz b off (by simpa using hp2))
  · intro ha
    exact absurd ha (by simp)
  · intro x hx _
    simpa using hx

/-! What arguments read as. -/

theorem bytes_of_trod {H : Type} {enc : TypeId × Value → H} {P : Program} {W : World} {t e : TypeId} (ht : P.underlying t = some (.slice e)) (he : P.underlying e = some (.int .u8)) (hc : P.cellsOf e = 1) (hb : P.bytesOf e = 1)
    {fuel : Nat} {cs : List Value} {x : DataW H × List MemPlace} (h : DataW.trod enc P W 0 (fun _ => true) true fuel t cs = some x) :
    ∃ l v, cs = [v] ∧ BytesAt W v l ∧ ∀ B, (x.1.weights P t).all (· ≤ B) = true → l.length ≤ B := by
  rcases open_slice1 ht hc h with ⟨rfl, rfl⟩ | ⟨a, len, cap, m, n, V, D, Pl, rfl, _, hle, hm, hmm, rfl, hx⟩
  · exact ⟨[], _, rfl, .inl ⟨rfl, rfl⟩, fun _ _ => Nat.zero_le _⟩
  · simp only [if_true] at hmm
    subst hmm
    have hV : ∀ i, i < len → V i = .int .u8 ((match V i with | .int _ n => UInt8.ofNat n.toNat | _ => 0 : UInt8).toNat : Nat) := by
      intro i hi
      obtain ⟨n, hn, _, hw⟩ := DataW.trod_int he (hx i (by omega)).2
      simp only [List.cons.injEq, and_true] at hn
      rw [hn]
      simp only [Lit.wf, Bool.and_eq_true, decide_eq_true_eq] at hw
      have h1 : (0 : Int) ≤ n := by have := hw.1; simpa [IntKind.min, IntKind.signed] using this
      have h2 : n ≤ 255 := by have := hw.2; simpa [IntKind.max, IntKind.signed, IntKind.bits] using this
      simp only [UInt8.toNat_ofNat', Value.int.injEq, true_and]
      omega
    refine ⟨(List.range len).map fun i => match V i with | .int _ n => UInt8.ofNat n.toNat | _ => 0, _, rfl, .inr ⟨a, m, by simp, by simpa using hle, hm, fun j v hj => ?_⟩, fun B hB => ?_⟩
    · have hjl : j < len := by
        have := (List.getElem?_eq_some_iff.1 hj).1
        simpa using this
      have : v = V j := by
        rw [hV j hjl]
        simp [bv, hjl] at hj
        exact hj.symm
      rw [this]
      exact (hx j (by omega)).1
    · simp only [DataW.weights, ht, hb, List.all_cons, Bool.and_eq_true, decide_eq_true_eq] at hB
      have := hB.1
      simp at this ⊢
      omega
end Go.Hp
end EngFrame
section EngKept
namespace Go.Hp
open Go.RowKit

structure Kp where
  g : Nat
  t : TypeId
  len : Nat
  cap : Nat
  c : List Value

def Kp.v (k : Kp) : Value := .slice (some ⟨k.g, 0, none⟩) k.len k.cap
def Kp.at_ (k : Kp) : HProp := Blk k.g (.cells k.c.toArray k.t (0, 0))
def KRows (ks : List Kp) : HProp := Stars (ks.map Kp.at_)

section
variable {w0 w : World} {L M : List HProp} {ks : List Kp} {k k' : Kp} {i : Nat} {A : HProp}

theorem At.fold1 (H : At w0 (A :: (M ++ L)) w) : At w0 (A :: Stars M :: L) w := by
  have h1 : At w0 (M ++ (A :: L)) w := H.perm List.perm_middle.symm
  exact (At.fold h1).perm (List.Perm.swap _ _ _)

theorem At.flat1 (H : At w0 (A :: Stars M :: L) w) : At w0 (A :: (M ++ L)) w := by
  have h1 : At w0 (Stars M :: A :: L) w := H.perm (List.Perm.swap _ _ _)
  exact (At.flat h1).perm List.perm_middle

theorem rows_focus (H : At w0 (KRows ks :: L) w) (h : ks[i]? = some k) : At w0 (k.at_ :: Stars ((ks.map Kp.at_).eraseIdx i) :: L) w := by
  have h1 : At w0 (ks.map Kp.at_ ++ L) w := At.flat H
  have h2 : (ks.map Kp.at_ ++ L)[i]? = some k.at_ := by
    have hi := (List.getElem?_eq_some_iff.1 h).1
    rw [List.getElem?_append_left (by simpa using hi), List.getElem?_map, h]
    rfl
  have hi := (List.getElem?_eq_some_iff.1 h).1
  have h3 := h1.pick i h2
  rw [List.eraseIdx_append_of_lt_length (by simpa using hi)] at h3
  exact h3.fold1

theorem rows_unfocus (hi : i < ks.length) (H : At w0 (k'.at_ :: Stars ((ks.map Kp.at_).eraseIdx i) :: L) w) : At w0 (KRows (ks.set i k') :: L) w := by
  have h1 := H.flat1
  have h2 : (ks.map Kp.at_).eraseIdx i = ((ks.set i k').map Kp.at_).eraseIdx i := by rw [List.map_set, List.eraseIdx_set_eq]
  have h3 : ((ks.set i k').map Kp.at_)[i]? = some k'.at_ := by simp [hi]
  rw [h2] at h1
  have h4 := perm_pick ((ks.set i k').map Kp.at_) i h3
  have h5 : At w0 ((ks.set i k').map Kp.at_ ++ L) w := h1.perm (by
    have := (h4.symm).append_right L
    simpa using this)
  exact At.fold h5

theorem rows_snoc (H : At w0 (k.at_ :: KRows ks :: L) w) : At w0 (KRows (ks ++ [k]) :: L) w := by
  have h1 : At w0 (k.at_ :: (ks.map Kp.at_ ++ L)) w := H.flat1
  have h2 : At w0 ((ks ++ [k]).map Kp.at_ ++ L) w := h1.perm (by
    rw [List.map_append, List.append_assoc]
    exact List.perm_middle.symm)
  exact At.fold h2

theorem rows_nil (H : At w0 L w) : At w0 (KRows [] :: L) w := At.fold (M := []) H
end
end Go.Hp
end EngKept
section EngGrown
namespace Go.Hp
open Go.RowKit

/-- What was kept, appended to: l has n elements that read as xs; the first block's first cells are as they were. -/
def Grown (e : TypeId) (k : Kp) (l : Value) (n : Nat) (xs : List Value) : HProp := fun h =>
  ∃ c : List Value, c.length = k.cap ∧ c.take k.len = k.c.take k.len ∧
    ((l = .slice (some ⟨k.g, 0, none⟩) n k.cap ∧ n ≤ k.cap ∧ k.cap ≤ maxLen ∧ k.len ≤ n ∧ c.take n = xs ∧ (k.t = e ∨ n = k.cap) ∧ Blk k.g (.cells c.toArray k.t (0, 0)) h) ∨
      Stars [OwnRow e 1 l n xs, Blk k.g (.cells c.toArray k.t (0, 0))] h)

section
variable {w0 w : World} {L M : List HProp} {e : TypeId} {k : Kp} {l : Value} {n : Nat} {xs : List Value} {A B : HProp} {i : Nat}

theorem stars_focus (H : At w0 (Stars M :: L) w) (h : M[i]? = some A) : At w0 (A :: Stars (M.eraseIdx i) :: L) w := by
  have h1 : At w0 (M ++ L) w := At.flat H
  have hi := (List.getElem?_eq_some_iff.1 h).1
  have h2 : (M ++ L)[i]? = some A := by rw [List.getElem?_append_left hi]; exact h
  have h3 := h1.pick i h2
  rw [List.eraseIdx_append_of_lt_length hi] at h3
  exact h3.fold1

theorem stars_unfocus (hi : i < M.length) (H : At w0 (B :: Stars (M.eraseIdx i) :: L) w) : At w0 (Stars (M.set i B) :: L) w := by
  have h1 := H.flat1
  have h2 : M.eraseIdx i = (M.set i B).eraseIdx i := by rw [List.eraseIdx_set_eq]
  have h3 : (M.set i B)[i]? = some B := by simp [hi]
  rw [h2] at h1
  have h4 := perm_pick (M.set i B) i h3
  have h5 : At w0 (M.set i B ++ L) w := h1.perm (by
    have := (h4.symm).append_right L
    simpa using this)
  exact At.fold h5

theorem grown_start (H : At w0 (k.at_ :: L) w) (hc : k.c.length = k.cap) (hle : k.len ≤ k.cap) (hr : k.cap ≤ maxLen) (ht : k.t = e ∨ k.len = k.cap) : At w0 (Grown e k k.v k.len (k.c.take k.len) :: L) w :=
  H.imp fun _ hh => ⟨k.c, hc, rfl, .inl ⟨rfl, hle, hr, Nat.le_refl _, rfl, ht, hh⟩⟩

theorem grown_cases (H : At w0 (Grown e k l n xs :: L) w) : ∃ c : List Value, c.length = k.cap ∧ c.take k.len = k.c.take k.len ∧
    ((l = .slice (some ⟨k.g, 0, none⟩) n k.cap ∧ n ≤ k.cap ∧ k.cap ≤ maxLen ∧ k.len ≤ n ∧ c.take n = xs ∧ (k.t = e ∨ n = k.cap) ∧ At w0 (Blk k.g (.cells c.toArray k.t (0, 0)) :: L) w) ∨
      At w0 (OwnRow e 1 l n xs :: Blk k.g (.cells c.toArray k.t (0, 0)) :: L) w) := by
  obtain ⟨c, H⟩ := At.ex H
  obtain ⟨h1, H⟩ := At.and H
  obtain ⟨h2, H⟩ := At.and H
  refine ⟨c, h1, h2, ?_⟩
  rcases At.or H with H | H
  · obtain ⟨a1, H⟩ := At.and H
    obtain ⟨a2, H⟩ := At.and H
    obtain ⟨a3, H⟩ := At.and H
    obtain ⟨a4, H⟩ := At.and H
    obtain ⟨a5, H⟩ := At.and H
    obtain ⟨a6, H⟩ := At.and H
    exact .inl ⟨a1, a2, a3, a4, a5, a6, H⟩
  · exact .inr (At.flat H)

theorem grown_in {c : List Value} (h1 : c.length = k.cap) (h2 : c.take k.len = k.c.take k.len) (h3 : n ≤ k.cap) (h4 : k.cap ≤ maxLen) (h5 : k.len ≤ n) (h6 : c.take n = xs) (h7 : k.t = e ∨ n = k.cap)
    (H : At w0 (Blk k.g (.cells c.toArray k.t (0, 0)) :: L) w) : At w0 (Grown e k (.slice (some ⟨k.g, 0, none⟩) n k.cap) n xs :: L) w :=
  H.imp fun _ hh => ⟨c, h1, h2, .inl ⟨rfl, h3, h4, h5, h6, h7, hh⟩⟩

theorem grown_out {c : List Value} (h1 : c.length = k.cap) (h2 : c.take k.len = k.c.take k.len)
    (H : At w0 (OwnRow e 1 l n xs :: Blk k.g (.cells c.toArray k.t (0, 0)) :: L) w) : At w0 (Grown e k l n xs :: L) w := by
  have H2 : At w0 (Stars [OwnRow e 1 l n xs, Blk k.g (.cells c.toArray k.t (0, 0))] :: L) w := At.fold (M := [_, _]) H
  exact H2.imp fun _ hh => ⟨c, h1, h2, .inr hh⟩

/-- What the slice reads, and what the first block. -/
theorem grown_reads (H : At w0 (Grown e k l n xs :: L) w) (h0 : 0 < n) : ∃ ad cap, l = .slice (some ad) n cap ∧ n ≤ cap ∧ cap ≤ maxLen ∧ (∀ j u, xs[j]? = some u → w.cell? (ad.add j) = some u) ∧
    (∀ j u, j < k.len → k.c[j]? = some u → w.cell? ((⟨k.g, 0, none⟩ : Addr).add j) = some u) := by
  obtain ⟨c, h1, h2, H⟩ := grown_cases H
  have hk : ∀ (L2 : List HProp), At w0 (Blk k.g (.cells c.toArray k.t (0, 0)) :: L2) w → (∀ j u, j < k.len → k.c[j]? = some u → w.cell? ((⟨k.g, 0, none⟩ : Addr).add j) = some u) := by
    intro L2 H2 j u hj hu
    rw [Addr.add_lit, Nat.zero_add, cell_of_row w k.g j c.toArray k.t _ H2.get0]
    have e1 : (c.take k.len)[j]? = (k.c.take k.len)[j]? := by rw [h2]
    rw [List.getElem?_take, List.getElem?_take, if_pos hj, if_pos hj, hu] at e1
    simpa using e1
  rcases H with ⟨rfl, a2, a3, a4, a5, a6, H⟩ | H
  · refine ⟨_, _, rfl, a2, a3, fun j u hu => ?_, hk _ H⟩
    rw [Addr.add_lit, Nat.zero_add, cell_of_row w k.g j c.toArray k.t _ H.get0]
    rw [← a5, List.getElem?_take] at hu
    split at hu
    · simpa using hu
    · cases hu
  · obtain ⟨ad, cap, rfl, b1, b2, b3, b4, b5⟩ := own_value H
    obtain ⟨b, rfl⟩ := b4 h0
    exact ⟨b, cap, rfl, b1, b2, b5 b rfl, hk _ (H.drop)⟩
end

section
variable {P : Program} {ops : Array Oper} {Q : Exit → Act → World → Prop} {a : Act} {w : World} {rest : List Oper} {o : Oper} {w0 : World} {L : List HProp}

/-- append of one element onto what was kept. -/
theorem st_grow (hw : Region.wanted o (yielded ops a.tmps) = true) (s x : Operand) (t : TypeId) (ho : o.op = .call { callee := .builtin .append, args := #[s, x], argTypes := #[t, t] })
    (e : TypeId) (ht : P.underlying t = some (.slice e)) (hsz : sizeT P e = some 1) (bytes : Nat) (hby : bytesT P e = some bytes) (z : Value) (hz : zeroT P e = some z) (hzs : z.cells.size = 1)
    (k : Kp) (v : Value) (n : Nat) (xs : List Value) (hs : a.eval s = v) (H : At w0 (Grown e k v n xs :: L) w)
    (ad : Addr) (c : Nat) (u : Value) (hx : a.eval x = .slice (some ad) 1 c) (hu : w.cell? ad = some u) (h1 : u.oneCell' = true) (h63 : n + 1 ≤ maxLen) (hbytes : (n + 1) * bytes ≤ 140737488355328)
    (h : ∀ v' w', At w0 (Grown e k v' (n + 1) (xs ++ [u]) :: L) w' → ∀ K : Act → World → Prop, (∀ a w, wpList P ops Q rest a w → K a w) → K (a.put o.dst v') w') : wpList P ops Q (o :: rest) a w := by
  have hnew : ∀ j y, [u][j]? = some y → w.cell? (ad.add j) = some y := by
    intro j y hj
    match j, hj with
    | 0, hj =>
      simp at hj
      subst hj
      rw [Addr.add_zero']
      exact hu
    | j + 1, hj => simp at hj
  have h1' : ∀ y ∈ [u], y.oneCell' = true := by intro y hy; simp at hy; subst hy; exact h1
  obtain ⟨cc, q1, q2, H⟩ := grown_cases H
  rcases H with ⟨rfl, a2, a3, a4, a5, a6, H⟩ | H
  · have hxl : xs.length = n := by rw [← a5, List.length_take]; omega
    by_cases hroom : n + 1 ≤ k.cap
    · have hke : k.t = e := by
        rcases a6 with h | h
        · exact h
        · omega
      unfold bytesT at hby
      cases hi : P.info? e with
      | none => simp [hi] at hby
      | some i =>
        have his : i.size = 1 := by simpa [sizeT, hi] using hsz
        have hg := H.get0
        rw [hke] at hg
        have hr := run_append_room (P := P) w t o.type e i ht hi k.g n k.cap cc.toArray hg ad 1 c [u] (by simp [his]) hnew h1' hroom (by simp [his, q1]; omega)
        refine st_value hw (v := .slice (some ⟨k.g, 0, none⟩) (n + 1) k.cap) (w' := w.setRow k.g (cc.toArray.toList.take (n * i.size) ++ [u] ++ cc.toArray.toList.drop (n * i.size + [u].length)).toArray) ?_ (h _ _ ?_ _ fun _ _ h => h)
        · simp [execOp, ho, resolve, invoke, builtin, hs, hx, hr]
        · have H2 := H.setRow0 (c' := (cc.toArray.toList.take (n * i.size) ++ [u] ++ cc.toArray.toList.drop (n * i.size + [u].length)).toArray)
          have e1 : (cc.toArray.toList.take (n * i.size) ++ [u] ++ cc.toArray.toList.drop (n * i.size + [u].length)) = xs ++ [u] ++ cc.drop (n + 1) := by
            simp only [his, Nat.mul_one, List.length_cons, List.length_nil, Nat.zero_add]
            rw [a5]
          rw [e1] at H2 ⊢
          refine grown_in ?_ ?_ hroom a3 (by omega) ?_ (.inl hke) H2
          · simp [hxl, q1]; omega
          · rw [← q2, List.append_assoc, List.take_append_of_le_length (by omega), ← a5, List.take_take, Nat.min_eq_left a4]
          · rw [List.take_left' (by simp [hxl])]
    · have hn : n = k.cap := by omega
      unfold bytesT at hby
      cases hi : P.info? e with
      | none => simp [hi] at hby
      | some i =>
        simp only [hi, Option.map_some, Option.some.injEq] at hby
        have his : i.size = 1 := by simpa [sizeT, hi] using hsz
        have hiz : i.zero = some z := by simpa [zeroT, hi] using hz
        subst hby
        have hsmall : n + 1 ≤ 9223372036854775807 := by have := h63; simp only [maxLen] at this; omega
        have holds : ∀ j y, xs[j]? = some y → w.cell? ((⟨k.g, 0, none⟩ : Addr).add j) = some y := by
          intro j y hy
          rw [Addr.add_lit, Nat.zero_add, cell_of_row w k.g j cc.toArray k.t _ H.get0]
          rw [← a5, List.getElem?_take] at hy
          split at hy
          · simpa using hy
          · cases hy
        have hr := run_append_grow (P := P) w t o.type e i z ht hi hiz ⟨k.g, 0, none⟩ n k.cap xs (by rw [his, Nat.mul_one]; exact hxl) holds ad 1 c [u] (by simp [his]) hnew (by omega) (by omega) (growslice_fits (by omega) hbytes)
        have hge := grownCap_ge w (n + 1) k.cap e
        have HA := At.alloc (w := w.drew) H.drew (.cells (xs.toArray ++ [u].toArray ++ Builtin.zeroCells z.cells (grownCap w (n + 1) k.cap e - (n + 1))) e)
        refine st_value hw (v := .slice (some ⟨w.heap.size, 0, none⟩) (n + 1) (grownCap w (n + 1) k.cap e)) (w' := w.drew.alloc (.cells (xs.toArray ++ [u].toArray ++ Builtin.zeroCells z.cells (grownCap w (n + 1) k.cap e - (n + 1))) e)) ?_ (h _ _ ?_ _ fun _ _ h => h)
        · simp [execOp, ho, resolve, invoke, builtin, hs, hx, hr]
        refine grown_out q1 q2 (own_mk HA hge (grownCap_le_maxLen w (n + 1) k.cap e h63) ?_ (by simp [hxl]) ?_)
        · simp only [Array.size_append, List.size_toArray, size_zeroCells, hzs, hxl, Nat.mul_one, List.length_cons, List.length_nil]
          omega
        · simp only [Array.toList_append, Nat.mul_one]
          have : n + 1 = (xs ++ [u]).length := by simp [hxl]
          rw [this]
          exact List.take_left
  · obtain ⟨v', w', hr, H'⟩ := run_append_at (P := P) (ty := o.type) ht hsz hby hz hzs H (some ad) 1 c [u] rfl (fun _ => ⟨ad, rfl, hnew⟩) h1' h63 hbytes
    refine st_value hw (v := v') (w' := w') ?_ (h v' w' (grown_out q1 q2 H') _ fun _ _ h => h)
    simp [execOp, ho, resolve, invoke, builtin, hs, hx, hr]
end
end Go.Hp
end EngGrown
section EngFlat
namespace Go.Hp
open Go.RowKit

/-- What a cell holds. -/
inductive Ck where
  | bool
  | int (k : IntKind)
  | str

def Ck.fits : Ck → Value → Prop
  | .bool, v => ∃ b, v = .bool b
  | .int k, v => ∃ n, v = .int k n
  | .str, v => ∃ s, v = .string s

def Fits : List Ck → List Value → Prop
  | [], [] => True
  | k :: ks, v :: vs => k.fits v ∧ Fits ks vs
  | _, _ => False

theorem Fits.len : ∀ {ks : List Ck} {vs : List Value}, Fits ks vs → vs.length = ks.length
  | [], [], _ => rfl
  | _ :: _, _ :: _, h => by simp [Fits.len h.2]
  | [], _ :: _, h => h.elim
  | _ :: _, [], h => h.elim

theorem Fits.split : ∀ {ks ls : List Ck} {vs : List Value}, Fits (ks ++ ls) vs → ∃ as bs, vs = as ++ bs ∧ Fits ks as ∧ Fits ls bs
  | [], ls, vs, h => ⟨[], vs, rfl, trivial, h⟩
  | k :: ks, ls, [], h => h.elim
  | k :: ks, ls, v :: vs, h => by
    obtain ⟨as, bs, e, h1, h2⟩ := Fits.split (ks := ks) h.2
    exact ⟨v :: as, bs, by rw [e]; rfl, ⟨h.1, h1⟩, h2⟩

theorem Fits.one {ks : List Ck} {vs : List Value} (h : Fits ks vs) : ∀ v ∈ vs, v.oneCell' = true := by
  induction ks generalizing vs with
  | nil => cases vs with
    | nil => intro v hv; cases hv
    | cons _ _ => exact h.elim
  | cons k ks ih => cases vs with
    | nil => exact h.elim
    | cons v vs =>
      intro u hu
      rcases List.mem_cons.1 hu with rfl | hu
      · cases k with
        | bool => obtain ⟨b, e⟩ := h.1; rw [e]; rfl
        | int k => obtain ⟨b, e⟩ := h.1; rw [e]; rfl
        | str => obtain ⟨b, e⟩ := h.1; rw [e]; rfl
      · exact ih h.2 u hu

/-- The kinds of the cells of the fields, each behind the one before. -/
def flatF (P : Program) (rec_ : TypeId → Option (List Ck)) : List Field → Nat → Option (List Ck)
  | [], _ => some []
  | f :: fs, o =>
    if f.name ≠ "_" ∧ f.offset = o then
      match rec_ f.type, flatF P rec_ fs (o + ((rec_ f.type).getD []).length) with
      | some ks, some ls => if (aggT P f.type = true ∧ sizeT P f.type = some ks.length) ∨ (plainT P f.type = true ∧ ks.length = 1) then some (ks ++ ls) else none
      | _, _ => none
    else none

def flatT (P : Program) : Nat → TypeId → Option (List Ck)
  | 0, _ => none
  | d + 1, t => match P.underlying t with
    | some .bool => some [.bool]
    | some (.int k) => some [.int k]
    | some .string => some [.str]
    | some (.struct _) => if P.stoodInHeld t = true then none else flatF P (flatT P d) (P.fieldsOf t).toList 0
    | _ => none

/-- The value of those cells. -/
def cv (P : Program) (t : TypeId) (xs : List Value) : Value := if aggT P t = true then .agg xs.toArray else xs.headD undef

theorem not_both {P : Program} {t : TypeId} (h : plainT P t = true) : aggT P t = false := by
  unfold plainT at h
  unfold aggT
  cases hu : P.underlying t with
  | none => rfl
  | some d => cases d <;> simp_all

theorem run_part_cv {P : Program} {w : World} {t : TypeId} {ks : List Ck} {pre as post : List Value} (h : (aggT P t = true ∧ sizeT P t = some ks.length) ∨ (plainT P t = true ∧ ks.length = 1)) (hf : Fits ks as) :
    (part t (pre ++ (as ++ post)).toArray pre.length).run P w = .ok (cv P t as) w := by
  have hl := hf.len
  rcases h with ⟨h1, h2⟩ | ⟨h1, h2⟩
  · have e : (pre ++ (as ++ post)).toArray.extract pre.length (pre.length + ks.length) = as.toArray := by
      apply Array.ext'
      simp [← hl]
    simp only [part, Sem.run_bind, run_isAgg_agg h1, Result.andThen_ok, if_true, run_sizeOf h2, Sem.run_pure, e, cv, h1]
  · have hn := not_both h1
    rw [h2] at hl
    match as, hl with
    | [v], _ =>
      have e : (pre ++ ([v] ++ post)).toArray[pre.length]? = some v := by simp
      simp only [part, Sem.run_bind, run_isAgg_plain h1, Result.andThen_ok, Bool.false_eq_true, if_false, e, Sem.run_pure, cv, hn]
      rfl

theorem run_eq_fields {P : Program} {d : Nat} {rec_ : TypeId → Option (List Ck)} (ih : ∀ (t : TypeId) (ks : List Ck), rec_ t = some ks → ∀ (xs ys : List Value) (w : World), Fits ks xs → Fits ks ys → ∃ r : Bool, (Op.equalIn d t (cv P t xs) (cv P t ys)).run P w = .ok r w ∧ (r = true ↔ xs = ys)) :
    ∀ (fs : List Field) (ks : List Ck) (pre pre' xs ys : List Value) (w : World), pre.length = pre'.length → flatF P rec_ fs pre.length = some ks → Fits ks xs → Fits ks ys →
      ∃ r : Bool, (Op.eqFields d (pre ++ xs).toArray (pre' ++ ys).toArray fs).run P w = .ok r w ∧ (r = true ↔ xs = ys)
  | [], ks, pre, pre', xs, ys, w, hp, h, hx, hy => by
    simp only [flatF, Option.some.injEq] at h
    subst h
    match xs, ys, hx, hy with
    | [], [], _, _ => exact ⟨true, rfl, by simp⟩
  | f :: fs, ks, pre, pre', xs, ys, w, hp, h, hx, hy => by
    unfold flatF at h
    split at h
    · rename_i hc
      split at h
      · rename_i ks1 ks2 h1 h2
        split at h
        · rename_i hsh
          simp only [Option.some.injEq] at h
          subst h
          obtain ⟨a1, a2, rfl, fa1, fa2⟩ := Fits.split hx
          obtain ⟨b1, b2, rfl, fb1, fb2⟩ := Fits.split hy
          have p1 := run_part_cv (P := P) (w := w) (pre := pre) (post := a2) hsh fa1
          have p2 := run_part_cv (P := P) (w := w) (pre := pre') (post := b2) hsh fb1
          obtain ⟨r1, q1, q2⟩ := ih f.type ks1 h1 a1 b1 w fa1 fb1
          have hl : (pre ++ a1).length = (pre' ++ b1).length := by rw [List.length_append, List.length_append, hp, fa1.len, fb1.len]
          have h2' : flatF P rec_ fs (pre ++ a1).length = some ks2 := by
            rw [List.length_append, fa1.len]
            rw [h1] at h2
            exact h2
          obtain ⟨r2, q3, q4⟩ := run_eq_fields ih fs ks2 (pre ++ a1) (pre' ++ b1) a2 b2 w hl h2' fa2 fb2
          simp only [List.append_assoc] at q3
          have hoff : f.offset = pre.length := hc.2
          have hoff' : f.offset = pre'.length := hc.2.trans hp
          have p2' : (part f.type (pre' ++ (b1 ++ b2)).toArray f.offset).run P w = .ok (cv P f.type b1) w := by rw [hoff']; exact p2
          have p1' : (part f.type (pre ++ (a1 ++ a2)).toArray f.offset).run P w = .ok (cv P f.type a1) w := by rw [hoff]; exact p1
          refine ⟨r1 && r2, ?_, ?_⟩
          · simp only [Op.eqFields, hc.1, ne_eq, not_false_eq_true, if_true, Sem.run_bind, p1', p2', q1, Result.andThen_ok]
            cases r1 with
            | true => simpa using q3
            | false => simp
          · rw [Bool.and_eq_true, q2, q4]
            constructor
            · rintro ⟨e1, e2⟩; rw [e1, e2]
            · intro e
              exact List.append_inj e (by rw [fa1.len, fb1.len])
        · cases h
      · cases h
    · cases h

theorem run_eq_flat {P : Program} : ∀ (d e : Nat) (t : TypeId) (ks : List Ck), flatT P d t = some ks → ∀ (xs ys : List Value) (w : World), Fits ks xs → Fits ks ys → ∃ r : Bool, (Op.equalIn (d + e) t (cv P t xs) (cv P t ys)).run P w = .ok r w ∧ (r = true ↔ xs = ys)
  | 0, _, _, _, h => by simp [flatT] at h
  | d + 1, e, t, ks, h => by
    intro xs ys w hx hy
    unfold flatT at h
    have hde : d + 1 + e = (d + e) + 1 := by omega
    rw [hde]
    split at h
    · rename_i hu
      simp only [Option.some.injEq] at h
      subst h
      match xs, ys, hx, hy with
      | [_], [_], ⟨⟨a, rfl⟩, _⟩, ⟨⟨b, rfl⟩, _⟩ =>
        have hn : aggT P t = false := by simp [aggT, hu]
        refine ⟨a == b, ?_, by simp⟩
        simp only [cv, hn, Bool.false_eq_true, if_false, List.headD_cons]
        exact run_equalIn_bool' w _ t a b hu
    · rename_i k hu
      simp only [Option.some.injEq] at h
      subst h
      match xs, ys, hx, hy with
      | [_], [_], ⟨⟨a, rfl⟩, _⟩, ⟨⟨b, rfl⟩, _⟩ =>
        have hn : aggT P t = false := by simp [aggT, hu]
        refine ⟨a == b, ?_, by simp⟩
        simp only [cv, hn, Bool.false_eq_true, if_false, List.headD_cons]
        exact run_equalIn_int w _ t k k a b hu
    · rename_i hu
      simp only [Option.some.injEq] at h
      subst h
      match xs, ys, hx, hy with
      | [_], [_], ⟨⟨a, rfl⟩, _⟩, ⟨⟨b, rfl⟩, _⟩ =>
        have hn : aggT P t = false := by simp [aggT, hu]
        refine ⟨a == b, ?_, ?_⟩
        · simp only [cv, hn, Bool.false_eq_true, if_false, List.headD_cons]
          rw [beq_toListBytes]
          exact run_equalIn_string w _ t a b hu
        · rw [beq_toListBytes, beq_iff_eq, ByteArray.toList_eq, ByteArray.toList_eq]
          obtain ⟨⟨x⟩⟩ := a
          obtain ⟨⟨y⟩⟩ := b
          simp
    · rename_i fs hu
      split at h
      · cases h
      · rename_i hst
        have hst : P.stoodInHeld t = false := by simpa using hst
        have hn : aggT P t = true := by simp [aggT, hu]
        have ht : P.underlying t = some (.struct (P.fieldsOf t)) := by rw [hu]; simp [Program.fieldsOf, hu]
        obtain ⟨r, q1, q2⟩ := run_eq_fields (P := P) (d := d + e) (rec_ := flatT P d) (fun t ks h xs ys w => run_eq_flat d e t ks h xs ys w) (P.fieldsOf t).toList ks [] [] xs ys w rfl h hx hy
        refine ⟨r, ?_, q2⟩
        simp only [cv, hn, if_true]
        rw [run_equalIn_struct w (d + e) t _ _ ht hst]
        simpa using q1
    · cases h
  termination_by d => d

/-- x == x. -/
theorem run_eq_self {P : Program} {t : TypeId} {ks : List Ck} (d : Nat) (hd : d ≤ 10000) (h : flatT P d t = some ks) (ha : aggT P t = true) {xs : List Value} {w : World} (hx : Fits ks xs) : (Op.equalIn 10000 t (.agg xs.toArray) (.agg xs.toArray)).run P w = .ok true w := by
  obtain ⟨r, h1, h2⟩ := run_eq_flat d (10000 - d) t ks h xs xs w hx hx
  have e : d + (10000 - d) = 10000 := by omega
  rw [e] at h1
  simp only [cv, ha, if_true] at h1
  rw [h1, h2.2 rfl]

/-- x == y. -/
theorem run_eq_two {P : Program} {t : TypeId} {ks : List Ck} (d : Nat) (hd : d ≤ 10000) (h : flatT P d t = some ks) (ha : aggT P t = true) {xs ys : List Value} {w : World} (hx : Fits ks xs) (hy : Fits ks ys) : ∃ r : Bool, (Op.equalIn 10000 t (.agg xs.toArray) (.agg ys.toArray)).run P w = .ok r w ∧ (r = true ↔ xs = ys) := by
  obtain ⟨r, h1, h2⟩ := run_eq_flat d (10000 - d) t ks h xs ys w hx hy
  have e : d + (10000 - d) = 10000 := by omega
  rw [e] at h1
  simp only [cv, ha, if_true] at h1
  exact ⟨r, h1, h2⟩
end Go.Hp
end EngFlat
section EngRow
namespace Go.Hp
open Go.RowKit

/-- What stood before stands. -/
def Ext (w w' : World) : Prop := w.heap.size ≤ w'.heap.size ∧ ∀ k, k < w.heap.size → w'.heap[k]? = w.heap[k]?

theorem Ext.refl (w : World) : Ext w w := ⟨Nat.le_refl _, fun _ _ => rfl⟩
theorem Ext.trans {a b c : World} (h : Ext a b) (g : Ext b c) : Ext a c := ⟨Nat.le_trans h.1 g.1, fun k hk => (g.2 k (Nat.lt_of_lt_of_le hk h.1)).trans (h.2 k hk)⟩
theorem Ext.cell {w w' : World} (h : Ext w w') {a : Addr} {v : Value} (hc : w.cell? a = some v) : w'.cell? a = some v := by
  have hlt := World.block_lt_of_cell? w _ hc
  rw [World.cell?_of_block (h.2 _ hlt)]
  exact hc
theorem At.ext {W w : World} {L : List HProp} {w0 : World} (H : At w0 L w) (i : Nat) (h : L[i]? = some (Arg W)) : Ext W w := ⟨H.size i h, fun _ hk => H.old i h hk⟩

/-- A slice whose cells are xs, n elements of so many cells each. -/
def RowAt (w : World) (v : Value) (n : Nat) (xs : List Value) : Prop :=
  ∃ ad cap, v = .slice ad n cap ∧ n ≤ cap ∧ cap ≤ maxLen ∧ (0 < n → ∃ b, ad = some b) ∧ ∀ b, ad = some b → ∀ j u, xs[j]? = some u → w.cell? (b.add j) = some u

/-- A slice of records: each so many cells long. -/
def RecsAt (w : World) (v : Value) (size : Nat) (rs : List (List Value)) : Prop := RowAt w v rs.length rs.flatten ∧ ∀ r ∈ rs, r.length = size

section
variable {w w' : World} {v : Value} {n size : Nat} {xs : List Value} {rs : List (List Value)}

theorem RowAt.ext (h : RowAt w v n xs) (he : Ext w w') : RowAt w' v n xs := by
  obtain ⟨ad, cap, h1, h2, h3, h4, h5⟩ := h
  exact ⟨ad, cap, h1, h2, h3, h4, fun b hb j u hj => he.cell (h5 b hb j u hj)⟩

theorem RecsAt.ext (h : RecsAt w v size rs) (he : Ext w w') : RecsAt w' v size rs := ⟨h.1.ext he, h.2⟩

theorem flatten_get : ∀ {rs : List (List Value)} {i : Nat} {r : List Value} {j : Nat}, (∀ r ∈ rs, r.length = size) → rs[i]? = some r → j < size → rs.flatten[i * size + j]? = r[j]?
  | [], i, _, _, _, h, _ => by simp at h
  | r0 :: rs, 0, r, j, ha, h, hj => by
    simp at h
    subst h
    have := ha r0 (by simp)
    rw [List.flatten_cons, Nat.zero_mul, Nat.zero_add, List.getElem?_append_left (by omega)]
  | r0 :: rs, i + 1, r, j, ha, h, hj => by
    have h0 := ha r0 (by simp)
    have := flatten_get (rs := rs) (i := i) (r := r) (j := j) (fun r hr => ha r (by simp [hr])) (by simpa using h) hj
    rw [List.flatten_cons, List.getElem?_append_right (by rw [h0, Nat.add_mul]; omega), h0, ← this]
    congr 1
    rw [Nat.add_mul]; omega

/-- A cell of a record. -/
theorem RecsAt.cell (h : RecsAt w v size rs) {b : Addr} {cap : Nat} (hv : v = .slice (some b) rs.length cap) {i : Nat} {r : List Value} (hi : rs[i]? = some r) {j : Nat} {u : Value} (hj : r[j]? = some u) : w.cell? (b.add (i * size + j)) = some u := by
  obtain ⟨⟨ad, cap2, h1, h2, h3, h4, h5⟩, hs⟩ := h
  rw [hv] at h1
  cases h1
  have hr := hs r (List.mem_of_getElem? hi)
  have hjl := (List.getElem?_eq_some_iff.1 hj).1
  refine h5 b rfl _ u ?_
  rw [flatten_get hs hi (by omega), hj]

theorem RecsAt.value (h : RecsAt w v size rs) : ∃ ad cap, v = .slice ad rs.length cap ∧ rs.length ≤ cap ∧ cap ≤ maxLen ∧ (0 < rs.length → ∃ b, ad = some b) := by
  obtain ⟨⟨ad, cap, h1, h2, h3, h4, _⟩, _⟩ := h
  exact ⟨ad, cap, h1, h2, h3, h4⟩

theorem RowAt.of_bytes {l : List UInt8} (h : BytesAt w v l) : RowAt w v l.length (bv l) := by
  obtain ⟨ad, cap, h1, h2, h3, h4⟩ := h.len
  refine ⟨ad, cap, h1, h2, h3, fun h0 => ?_, fun b hb j u hj => ?_⟩
  · obtain ⟨b, hb, _⟩ := h4 h0
    exact ⟨b, hb⟩
  · have hjl := (List.getElem?_eq_some_iff.1 hj).1
    obtain ⟨b', hb', h5⟩ := h4 (by simp at hjl; omega)
    rw [hb] at hb'
    cases hb'
    exact h5 j u hj
end

/-- What a call that reads what stood leaves: a world that holds R beside it. -/
theorem At.lift {w0 W w : World} {R L : List HProp} (H : At W (R ++ [Arg W]) w) (H0 : At w0 L W) : At w0 (R ++ L) w := by
  obtain ⟨a1, a2, a3, x, hs, hx⟩ := H
  obtain ⟨b1, b2, b3, y, ht, hy⟩ := H0
  obtain ⟨p, q, hd, rfl, hp, hq⟩ := (Stars_append _).1 hx
  obtain ⟨q1, q2, hd2, rfl, hq1, hq2⟩ := hq
  have hq1' : q1 = fun k => W.heap[k]? := hq1
  have hsub : ∀ k o, y k = some o → q1 k = some o := fun k o h => by rw [hq1']; exact ht k o h
  have hdy : disj p y := by
    intro k
    rcases hd k with h | h
    · exact .inl h
    · refine .inr ?_
      have h1 : q1 k = none := (uni_none.1 h).1
      cases hyk : y k with
      | none => rfl
      | some o => rw [hsub k o hyk] at h1; cases h1
  refine ⟨a1.trans b1, a2.trans b2, a3.trans b3, uni p y, fun k o e => ?_, (Stars_append _).2 ⟨p, y, hdy, rfl, hp, hy⟩⟩
  rcases (uni_some hdy).1 e with h | h
  · exact hs k o ((uni_some hd).2 (.inl h))
  · exact hs k o ((uni_some hd).2 (.inr ((uni_some hd2).2 (.inl (hsub k o h)))))

theorem At.lift0 {w0 W w : World} {L : List HProp} (H : At W [Arg W] w) (H0 : At w0 L W) : At w0 L w := At.lift (R := []) H H0
theorem At.lift1 {w0 W w : World} {R : HProp} {L : List HProp} (H : At W [R, Arg W] w) (H0 : At w0 L W) : At w0 (R :: L) w := At.lift (R := [R]) H H0
theorem At.ext0 {W w : World} {R : List HProp} (H : At W (R ++ [Arg W]) w) : Ext W w := H.ext R.length (by simp)

theorem At.refl (W : World) : At W [Arg W] W := At.of W
end Go.Hp
end EngRow
section EngIter
namespace Go.Hp
open Go.RowKit

abbrev wideAt (r : Option Nat) : Fence := { Fence.wide with round := r }

def notDefer (o : Oper) : Bool := match o.op with | .defer _ => false | _ => true

section
variable {P : Program} {r : Option Nat} {n : Nat}

theorem calls_in {f : FuncId} {args : Array Value} {w : World} {R : Ending → World → Prop} (h : Calls P f args w R) : CallsIn (wideAt r) n P f args w R :=
  (callsIn_wide.2 h : CallsIn Fence.wide n P f args w R)

theorem calls_of_in {f : FuncId} {args : Array Value} {w : World} {R : Ending → World → Prop} (h : CallsIn (wideAt r) n P f args w R) : Calls P f args w R :=
  callsIn_wide.1 (show CallsIn Fence.wide n P f args w R from h)

theorem round_any {m l : Nat} {f : FuncId} {tmps : Array Value} {assign body : Code} {w : World} {R : Ending → World → Prop} (h : RoundIn (wideAt r) n P l f tmps assign body w R) : RoundIn (wideAt r) m P l f tmps assign body w R :=
  ⟨h.1, fun c cs _ => h.2 c cs (fun _ h => by cases h)⟩

theorem semAt_plain {ρ : Operand → Value} {o : Oper} (h : notDefer o = true) : Oper.semAt r ρ o = execOp ρ o := by
  refine Oper.semAt_eq r ρ o fun c hc => ?_
  unfold notDefer at h
  rw [hc] at h
  cases h

theorem oper_in {o : Oper} {a : Act} {w : World} {K K' : Act → World → Prop} {Q Q' : Exit → Act → World → Prop} (hd : notDefer o = true) (hQ : ∀ a w, ¬ Q .outgrown a w) (hP : ∀ c a w, ¬ Q (.panic c) a w) (hK : ∀ a w, K a w → K' a w)
    (h : o.wp P a w K Q) : o.wpIn (wideAt r) n P a w K' Q' := by
  refine ⟨fun _ _ => trivial, ?_⟩
  rw [semAt_plain hd]
  unfold Oper.wp at h
  cases hx : (execOp a.eval o).run P w with
  | halt x w' =>
    rw [hx] at h
    cases x with
    | panic v => exact (hP _ _ _ h).elim
    | _ => exact h.elim
  | ok x w' =>
    rw [hx] at h
    cases x with
    | value v => exact hK _ _ h
    | skip => exact hK _ _ h
    | defer d => exact hK _ _ h
    | enter f args =>
      refine ⟨fun h => (by cases h), ?_⟩
      refine calls_in (Calls.mono h ?_)
      intro e w2 he
      cases e with
      | returned v => exact hK _ _ he
      | panicked c => exact (hP _ _ _ he).elim
      | outgrown => exact (he.elim fun a h => h.elim fun w h => hQ _ _ h).elim
    | row row args =>
      refine ⟨fun h => (by cases h), fun c cs _ => ?_⟩
      obtain ⟨v, w2, h1, h2⟩ := h c cs
      exact ⟨v, w2, hK _ _ h1, stepsIn_wide.2 h2⟩
    | _ => exact h.elim

theorem list_in {ops : Array Oper} {Q : Exit → Act → World → Prop} {K : Act → World → Prop} (hK : ∀ a w, K a w → Q .normal a w) : ∀ (l : List Oper) (a : Act) (w : World), (l.all notDefer) = true →
    wpList P ops (Exit.then K (fun _ _ _ => False)) l a w → wpListIn (wideAt r) n P ops Q l a w
  | [], a, w, _, h => hK _ _ h
  | o :: l, a, w, hd, h => by
    simp only [List.all_cons, Bool.and_eq_true] at hd
    unfold wpList at h
    unfold wpListIn
    split at h
    · rename_i hw
      rw [if_pos hw]
      rcases h with h | ⟨_, _, _, h⟩
      · exact oper_in hd.1 (fun _ _ h => h) (fun _ _ _ h => h) (fun a w h => list_in hK l a w hd.2 h) h
      · exact h.elim
    · rename_i hw
      rw [if_neg hw]
      exact ⟨fun _ _ => trivial, list_in hK l _ _ hd.2 h⟩

/-- A region, walked by the plain walk's steps. -/
theorem region_in {id : Nat} {l : List Oper} {Q : Exit → Act → World → Prop} {a : Act} {w : World} (hd : (l.all notDefer) = true)
    (h : ∀ K : Act → World → Prop, (∀ a w, Q .normal a w → K a w) → wpList P l.toArray (Exit.then K (fun _ _ _ => False)) l a w) : (Code.region id l.toArray false).wpIn (wideAt r) n P Q a w :=
  wpIn_region_lit (list_in (K := Q .normal) (fun _ _ h => h) l a w hd (h _ fun _ _ h => h))

/-- One operation of a list, by the plain walk's step. -/
theorem in_step {ops : Array Oper} {Q : Exit → Act → World → Prop} {a : Act} {w : World} {o : Oper} {rest : List Oper} (hd : notDefer o = true)
    (h : wpList P ops (Exit.then (wpListIn (wideAt r) n P ops Q rest) (fun _ _ _ => False)) [o] a w) : wpListIn (wideAt r) n P ops Q (o :: rest) a w := by
  unfold wpList at h
  unfold wpListIn
  split at h
  · rename_i hw
    rw [if_pos hw]
    rcases h with h | ⟨_, _, _, h⟩
    · exact oper_in hd (fun _ _ h => h) (fun _ _ _ h => h) (fun a w h => h) h
    · exact h.elim
  · rename_i hw
    rw [if_neg hw]
    exact ⟨fun _ _ => trivial, h⟩

/-- A function that holds a range over a function, from its body. -/
theorem calls_of_marks {f : FuncId} {fn : Func} {c : Code} {args : Array Value} {w : World} {R : Ending → World → Prop} (hf : P.funcs[f]? = some fn) (hb : fn.body = some c)
    (h : c.wpIn (wideAt none) 9 P (bodyPostM (wideAt none) 9 P fn R) { tmps := args ++ Array.replicate (fn.ntmps - args.size) undef, defers := [] } w) : Calls P f args w R :=
  calls_of_in (r := none) (callsIn_of_wp_marks (F := wideAt none) (n := 9) hf hb trivial h rfl)

end

/-- A fact that is carried among what is owned. -/
def pur (p : Prop) : HProp := fun h => p ∧ ∀ k, h k = none

theorem At.pure {w0 w : World} {L : List HProp} {p : Prop} (hp : p) (H : At w0 L w) : At w0 (pur p :: L) w := (At.fold (M := []) H).imp fun _ hh => ⟨hp, hh⟩
theorem At.unpure {w0 w : World} {L : List HProp} {p : Prop} (H : At w0 (pur p :: L) w) : p ∧ At w0 L w := by
  obtain ⟨h1, H⟩ := At.and H
  exact ⟨h1, H.drop⟩

/-- An iterator: whatever its loop keeps (J), it hands on what comes, in turn, and ends. w0, F: what it holds itself. -/
def IterAt {α : Type} (P : Program) (gf : FuncId) (lb : Array Value) (encs : α → Array Value) (w0 : World) (F J : List α → List HProp) (Jx : List α → List HProp) (S Sp : List α → Prop) : Prop :=
  ∀ (l : Nat) (W : World),
    (∀ (pre : List α) (x : α) (W1 : World), Sp (pre ++ [x]) → At w0 (F pre ++ J pre) W1 → YieldAt (wideAt none) 9 P l (encs x) W1 fun e W' =>
      (e = .returned (.bool true) ∧ At w0 (F pre ++ J (pre ++ [x])) W') ∨ (e = .returned (.bool false) ∧ At w0 (F pre ++ Jx (pre ++ [x])) W')) →
    At w0 (F [] ++ J []) W →
    Calls P gf (#[.func (.yield l) #[] #[]] ++ lb) W fun e W' => (∃ v, e = .returned v) ∧ ((∃ xs, S xs ∧ At w0 (J xs) W') ∨ (∃ pre, Sp pre ∧ At w0 (Jx pre) W'))

theorem At.putObj0 {w0 w : World} {L : List HProp} {b : Nat} {o o' : Obj} (H : At w0 (Blk b o :: L) w) : At w0 (Blk b o' :: L) (w.putObj b o') := by
  have hlt : b < w.heap.size := (Array.getElem?_eq_some_iff.1 H.get0).1
  exact H.upd0 rfl rfl rfl (World.putObj_heap_same hlt) (fun k _ hk => World.putObj_heap_other hk)

/-- How the body of a round may be left. -/
def roundAt {α : Type} (w0 : World) (B : List HProp) (I : List α → List HProp) (Ix : Code → List α → List HProp) (xs : List α) : Exit → Act → World → Prop
  | .normal, _, W => At w0 (B ++ I xs) W
  | .ret, _, W => At w0 (B ++ Ix .ret xs) W
  | .exit id, _, W => At w0 (B ++ Ix (.exit id) xs) W
  | .goto t, _, W => At w0 (B ++ Ix (.goto t) xs) W
  | .panic _, _, _ => False
  | .outgrown, _, _ => False

/-- The statement 'for .. := range g { .. }'. -/
theorem wp_rangeFunc_at {α : Type} {P : Program} {g : Operand} {ps : Array Tmp} {assign body : Code} {Q : Exit → Act → World → Prop} {a : Act} {w w0 : World}
    {gf : Nat} {lb : Array Value} (hg : a.eval g = .func (.func gf) #[] lb) (eg : ∀ args w, (callFunc gf args).run P w = .ok (.enter gf args) w) {encs : α → Array Value} (hps : ∀ x, (encs x).size = ps.size)
    (F I : List α → List HProp) (Ix : Code → List α → List HProp) (S Sp : List α → Prop) (H : At w0 (F [] ++ I []) w)
    (hseq : ∀ (J Jx : List α → List HProp), (∀ pre, ∃ X, (J pre).Perm (X ++ I pre)) → IterAt P gf lb encs w0 F J Jx S Sp) (Ax : α → Act → List HProp)
    (hassign : ∀ (l D : Nat) (r : Loop) (pre : List α) (x : α) (W : World) (K : Act → World → Prop), Sp (pre ++ [x]) → At w0 (Blk l (.loop r) :: Blk D (.deferred (some [])) :: (F pre ++ I pre)) W →
      (∀ a' W', At w0 (Ax x a' ++ (Blk l (.loop r) :: Blk D (.deferred (some [])) :: (F pre ++ I pre))) W' → K a' W') →
      assign.wpIn (wideAt (some l)) 9 P (Exit.then K (fun _ _ _ => False)) { tmps := (ps.zip (encs x)).foldl (fun t (p, v) => t.setIfInBounds p v) a.tmps, defers := [] } W)
    (hbody : ∀ (l D : Nat) (r : Loop) (pre : List α) (x : α) (a' : Act) (W : World), Sp (pre ++ [x]) → At w0 (Ax x a' ++ (Blk l (.loop r) :: Blk D (.deferred (some [])) :: (F pre ++ I pre))) W →
      body.wpIn (wideAt (some l)) 9 P (roundAt w0 (Blk l (.loop r) :: Blk D (.deferred (some [])) :: F pre) I Ix (pre ++ [x])) a' W)
    (hdone : ∀ (D : Nat) (xs : List α) (W : World), S xs → At w0 (Blk D (.deferred (some [])) :: I xs) W → Q .normal { a with defers := { target := .collected D, args := #[] } :: a.defers } W)
    (hstop : ∀ (D : Nat) (c : Code) (pre : List α) (W : World), Sp pre → At w0 (Blk D (.deferred (some [])) :: Ix c pre) W → c.wpIn (wideAt none) 9 P Q { a with defers := { target := .collected D, args := #[] } :: a.defers } W) :
    (Code.rangeFunc g ps assign body).wpIn (wideAt none) 9 P Q a w := by
  refine wpIn_rangeFunc ?_
  intro fn hfn
  obtain ⟨rec, hrec⟩ : ∃ rec : LoopState → Option Code → Loop, rec = fun st pe => { state := st, pending := pe, fn, tmps := a.tmps, params := ps, assign, body, defers := w.heap.size } := ⟨_, rfl⟩
  have H1 : At w0 (Blk w.heap.size (.deferred (some [])) :: (F [] ++ I [])) (w.alloc (.deferred (some []))) := H.alloc _
  have H2 := H1.alloc (.loop (rec .ready none))
  rw [World.size_alloc] at H2
  obtain ⟨W1, hW1⟩ : ∃ W1, (w.alloc (.deferred (some []))).alloc (.loop (rec .ready none)) = W1 := ⟨_, rfl⟩
  rw [hW1] at H2
  refine ⟨w.heap.size + 1, [{ target := .collected w.heap.size, args := #[] }], W1, { target := .fn (.func gf) lb, args := #[.func (.yield (w.heap.size + 1)) #[] #[]] }, W1, gf,
    #[.func (.yield (w.heap.size + 1)) #[] #[]] ++ lb, W1, ?_, ?_, ?_, ?_, fun h => (by cases h), ?_⟩
  · rw [← hW1, hrec]; exact run_enterLoop_outer _ _ _ _ _
  · simp only [resolve, hg]
    simp [go_sem]
  · intro f' _; trivial
  · simp [invoke, go_sem, eg]
  · generalize w.heap.size = D at *
    refine calls_in ?_
    have hin := hseq (fun pre => Blk (D + 1) (.loop (rec .ready none)) :: Blk D (.deferred (some [])) :: I pre)
      (fun pre => (fun h => ∃ c, Stars (Blk (D + 1) (.loop (rec .done (some c))) :: Blk D (.deferred (some [])) :: Ix c pre) h) :: []) (fun pre => ⟨[Blk (D + 1) (.loop (rec .ready none)), Blk D (.deferred (some []))], List.Perm.refl _⟩)
    have move : ∀ {A B : HProp} {X Y : List HProp} {W : World}, At w0 (X ++ (A :: B :: Y)) W → At w0 (A :: B :: (X ++ Y)) W := by
      intro A B X Y W h
      refine h.perm ?_
      exact (List.perm_middle.trans ((List.perm_middle (l₁ := X) (l₂ := Y) (a := B)).cons A))
    have moveb : ∀ {A B : HProp} {X Y : List HProp} {W : World}, At w0 (A :: B :: (X ++ Y)) W → At w0 (X ++ (A :: B :: Y)) W := by
      intro A B X Y W h
      refine h.perm ?_
      exact (List.perm_middle.trans ((List.perm_middle (l₁ := X) (l₂ := Y) (a := B)).cons A)).symm
    refine Calls.mono (hin (D + 1) W1 ?_ (moveb H2)) ?_
    · intro pre x W hsp hJ
      have hJ1 := move hJ
      have hl := hJ1.get0
      have hy := run_yield (P := P) (args := encs x) hl (by rw [hrec]; exact hps x)
      rw [hrec] at hy
      refine ⟨fn, _, assign, body, hy, roundIn_of_wpIn (F := wideAt none) trivial ?_⟩
      refine hassign (D + 1) D (rec .ready none) pre x W _ hsp hJ1 ?_
      intro a' Wa HA
      have HA1 : At w0 (Blk (D + 1) (.loop (rec .ready none)) :: (Ax x a' ++ (Blk D (.deferred (some [])) :: (F pre ++ I pre)))) Wa := HA.perm List.perm_middle
      refine ⟨_, run_beginRound HA1.get0 (by rw [hrec]), ?_⟩
      have HB : At w0 (Blk (D + 1) (.loop { rec .ready none with state := .busy }) :: (Ax x a' ++ (Blk D (.deferred (some [])) :: (F pre ++ I pre)))) _ := HA1.putObj0
      have HB1 := HB.perm (List.perm_middle (l₁ := Ax x a') (l₂ := Blk D (.deferred (some [])) :: (F pre ++ I pre)) (a := Blk (D + 1) (.loop { rec .ready none with state := .busy }))).symm
      refine wpIn_mono (hbody (D + 1) D _ pre x a' _ hsp HB1) ?_
      have fin : ∀ (jump : Option Code) (Y : List HProp) (W3 : World), At w0 ((Blk (D + 1) (.loop { rec .ready none with state := .busy }) :: Blk D (.deferred (some [])) :: F pre) ++ Y) W3 →
          (Instr.endRound (D + 1) jump).run P W3 = .ok (.bool jump.isNone) (W3.putObj (D + 1) (.loop (rec (if jump.isNone then .ready else .done) jump))) ∧
          At w0 (F pre ++ (Blk (D + 1) (.loop (rec (if jump.isNone then .ready else .done) jump)) :: Blk D (.deferred (some [])) :: Y)) (W3.putObj (D + 1) (.loop (rec (if jump.isNone then .ready else .done) jump))) := by
        intro jump Y W3 h3
        have hl3 := h3.get0
        have hr := run_endRound (P := P) jump hl3
        rw [hrec] at hr ⊢
        exact ⟨hr, moveb (At.putObj0 h3)⟩
      rintro e a3 W3 hp
      cases e with
      | normal =>
        obtain ⟨hr, h4⟩ := fin none _ W3 hp
        exact ⟨_, _, hr, .inl ⟨rfl, h4⟩⟩
      | ret =>
        obtain ⟨hr, h4⟩ := fin (some .ret) _ W3 hp
        refine ⟨_, _, hr, .inr ⟨rfl, ?_⟩⟩
        have h5 := h4.perm List.perm_append_comm
        have h6 := At.imp (B := fun h => ∃ c, Stars (Blk (D + 1) (.loop (rec .done (some c))) :: Blk D (.deferred (some [])) :: Ix c (pre ++ [x])) h) (At.fold h5) (fun _ hh => ⟨.ret, hh⟩)
        exact h6.perm (List.perm_append_comm (l₁ := [_]) (l₂ := F pre))
      | exit id =>
        obtain ⟨hr, h4⟩ := fin (some (.exit id)) _ W3 hp
        refine ⟨_, _, hr, .inr ⟨rfl, ?_⟩⟩
        have h5 := h4.perm List.perm_append_comm
        have h6 := At.imp (B := fun h => ∃ c, Stars (Blk (D + 1) (.loop (rec .done (some c))) :: Blk D (.deferred (some [])) :: Ix c (pre ++ [x])) h) (At.fold h5) (fun _ hh => ⟨.exit id, hh⟩)
        exact h6.perm (List.perm_append_comm (l₁ := [_]) (l₂ := F pre))
      | goto t =>
        obtain ⟨hr, h4⟩ := fin (some (.goto t)) _ W3 hp
        refine ⟨_, _, hr, .inr ⟨rfl, ?_⟩⟩
        have h5 := h4.perm List.perm_append_comm
        have h6 := At.imp (B := fun h => ∃ c, Stars (Blk (D + 1) (.loop (rec .done (some c))) :: Blk D (.deferred (some [])) :: Ix c (pre ++ [x])) h) (At.fold h5) (fun _ hh => ⟨.goto t, hh⟩)
        exact h6.perm (List.perm_append_comm (l₁ := [_]) (l₂ := F pre))
      | panic ch => exact hp.elim
      | outgrown => exact hp.elim
    · rintro e W2 ⟨⟨v, rfl⟩, (⟨xs, hS, h⟩ | ⟨pre, hSp, h⟩)⟩
      · have hl := h.get0
        have hr := run_endLoop (P := P) hl (by rw [hrec]; simp)
        refine ⟨none, _, by rw [hr, hrec], hdone _ xs _ hS ?_⟩
        exact (At.putObj0 h).drop
      · obtain ⟨c, h⟩ := At.ex h
        have h := (At.flat h)
        rw [List.append_nil] at h
        have hl := h.get0
        have hr := run_endLoop (P := P) hl (by rw [hrec]; simp)
        refine ⟨some c, _, by rw [hr, hrec], hstop _ c pre _ hSp ?_⟩
        exact (At.putObj0 h).drop
end Go.Hp
end EngIter
section EngReg5
namespace Go.Hp
open Go.RowKit

def updE (E : Nat → Bool) (i : Nat) : Nat → Bool := fun j => j == i || E j
def updV (val : Nat → Value) (i : Nat) (v : Value) : Nat → Value := fun j => if j = i then v else val j

theorem updE_same (E : Nat → Bool) (i : Nat) : updE E i i = true := by simp [updE]
theorem updE_ne (E : Nat → Bool) {i j : Nat} (h : (j == i) = false) : updE E i j = E j := by simp [updE, h]
theorem updV_same (val : Nat → Value) (i : Nat) (v : Value) : updV val i v i = v := by simp [updV]
theorem updV_ne (val : Nat → Value) {i j : Nat} (v : Value) (h : (j == i) = false) : updV val i v j = val j := by
  have : ¬ j = i := by simpa using h
  simp [updV, this]

/-- Each operation waits, itself or through others, for those that it needs. -/
def needOk (ops : Array Oper) (eff : List Nat) (need : Nat → List Nat) : Bool :=
  (List.range ops.size).all fun i => (need i).all fun m => decide (m ≠ i) && eff.contains m && (ops[i]?).any fun o => o.after.any fun e => Region.binds .any e && (e.on == m || (need e.on).contains m)

section
variable {P : Program} {ops : Array Oper} {Q : Exit → Act → World → Prop}

def EffOp (P : Program) (ops : Array Oper) (a : Act) (eff : List Nat) (need : Nat → List Nat) (vs : (Nat → Value) → Nat → Value) (J : (Nat → Bool) → (Nat → Value) → World → Prop) (Q : Exit → Act → World → Prop) (i : Nat) (o : Oper) : Prop :=
  if eff.contains i = true then ∀ (E : Nat → Bool) (val : Nat → Value), E i = false → (∀ j, j < ops.size → E j = true → ∀ m ∈ need j, E m = true) → (∀ m ∈ need i, E m = true) → runs o (vs val) = true ∧
      ∀ (T : Array Value) (ds : List Deferred) (w : World) (K : Act → World → Prop), J E val w → know ops (vs val) T o.after.toList →
      (∀ t, outer ops t = true → T[t]?.getD undef = a.tmps[t]?.getD undef) → (∀ x w', J (updE E i) (updV val i x) w' → K (Act.put ⟨T, ds⟩ o.dst x) w') → o.wp P ⟨T, ds⟩ w K Q
  else ∀ (E : Nat → Bool) (val : Nat → Value), (∀ m ∈ need i, E m = true) →
      if runs o (vs val) = true then ∀ (T : Array Value) (ds : List Deferred) (w : World) (K : Act → World → Prop), J E val w → know ops (vs val) T o.after.toList →
      (∀ t, outer ops t = true → T[t]?.getD undef = a.tmps[t]?.getD undef) → (∀ w', J E val w' → K (Act.put ⟨T, ds⟩ o.dst (vs val i)) w') → o.wp P ⟨T, ds⟩ w K Q
      else vs val i = undef

def EffAll (P : Program) (ops : Array Oper) (a : Act) (eff : List Nat) (need : Nat → List Nat) (vs : (Nat → Value) → Nat → Value) (J : (Nat → Bool) → (Nat → Value) → World → Prop) (Q : Exit → Act → World → Prop) : Nat → List Oper → Prop
  | _, [] => True
  | i, o :: l => EffOp P ops a eff need vs J Q i o ∧ EffAll P ops a eff need vs J Q (i + 1) l

theorem EffAll.get {a : Act} {eff : List Nat} {need : Nat → List Nat} {vs : (Nat → Value) → Nat → Value} {J : (Nat → Bool) → (Nat → Value) → World → Prop} : ∀ {l : List Oper} {k i : Nat} {o : Oper}, EffAll P ops a eff need vs J Q k l → l[i]? = some o →
    EffOp P ops a eff need vs J Q (k + i) o
  | [], _, _, _, _, h => by simp at h
  | x :: l, k, 0, o, h, hi => by
    simp at hi
    subst hi
    exact h.1
  | x :: l, k, i + 1, o, h, hi => by
    have := EffAll.get (k := k + 1) (i := i) h.2 (by simpa using hi)
    rwa [show k + 1 + i = k + (i + 1) by omega] at this

def InsOp (eff : List Nat) (need : Nat → List Nat) (vs : (Nat → Value) → Nat → Value) (i : Nat) : Prop :=
  if eff.contains i = true then ∀ val, vs val i = val i else ∀ val val', (∀ m ∈ need i, val m = val' m) → vs val i = vs val' i
theorem ins_mk {eff : List Nat} {need : Nat → List Nat} {vs : (Nat → Value) → Nat → Value} {i : Nat} (h : eff.contains i = true) (h2 : ∀ val, vs val i = val i) : InsOp eff need vs i := by
  unfold InsOp
  rw [if_pos h]
  exact h2
theorem ins_pl {eff : List Nat} {need : Nat → List Nat} {vs : (Nat → Value) → Nat → Value} {i : Nat} (h : eff.contains i = false) (h2 : ∀ val val', (∀ m ∈ need i, val m = val' m) → vs val i = vs val' i) : InsOp eff need vs i := by
  unfold InsOp
  rw [if_neg (by rw [h]; exact Bool.false_ne_true)]
  exact h2

/-- What a value hangs on. -/
def InsL (eff : List Nat) (need : Nat → List Nat) (vs : (Nat → Value) → Nat → Value) : Nat → Nat → Prop
  | _, 0 => True
  | i, k + 1 => InsOp eff need vs i ∧ InsL eff need vs (i + 1) k

theorem InsL.get {eff : List Nat} {need : Nat → List Nat} {vs : (Nat → Value) → Nat → Value} : ∀ {k i j : Nat}, InsL eff need vs i k → j < k → InsOp eff need vs (i + j)
  | 0, _, _, _, h => by omega
  | k + 1, i, 0, hl, _ => hl.1
  | k + 1, i, j + 1, hl, h => by
    have := InsL.get (j := j) hl.2 (by omega)
    rwa [show i + 1 + j = i + (j + 1) by omega] at this

def JOp (eff : List Nat) (J : (Nat → Bool) → (Nat → Value) → World → Prop) (i : Nat) : Prop := eff.contains i = false → ∀ E val v, J (updE E i) (updV val i v) = J E val
theorem j_mk {eff : List Nat} {J : (Nat → Bool) → (Nat → Value) → World → Prop} {i : Nat} (h : eff.contains i = true) : JOp eff J i := fun h2 => by rw [h] at h2; cases h2
theorem j_pl {eff : List Nat} {J : (Nat → Bool) → (Nat → Value) → World → Prop} {i : Nat} (h : ∀ E val v, J (updE E i) (updV val i v) = J E val) : JOp eff J i := fun _ => h

/-- What is told of the world hangs on those that make or write alone. -/
def JL (eff : List Nat) (J : (Nat → Bool) → (Nat → Value) → World → Prop) : Nat → Nat → Prop
  | _, 0 => True
  | i, k + 1 => JOp eff J i ∧ JL eff J (i + 1) k

theorem JL.get {eff : List Nat} {J : (Nat → Bool) → (Nat → Value) → World → Prop} : ∀ {k i j : Nat}, JL eff J i k → j < k → JOp eff J (i + j)
  | 0, _, _, _, h => by omega
  | k + 1, i, 0, hl, _ => hl.1
  | k + 1, i, j + 1, hl, h => by
    have := JL.get (j := j) hl.2 (by omega)
    rwa [show i + 1 + j = i + (j + 1) by omega] at this

theorem eff_mk {a : Act} {eff : List Nat} {need : Nat → List Nat} {vs : (Nat → Value) → Nat → Value} {J : (Nat → Bool) → (Nat → Value) → World → Prop} {i : Nat} {o : Oper} (h : eff.contains i = true)
    (hr : ∀ val, runs o (vs val) = true)
    (h2 : ∀ (E : Nat → Bool) (val : Nat → Value), E i = false → (∀ j, j < ops.size → E j = true → ∀ m ∈ need j, E m = true) → (∀ m ∈ need i, E m = true) →
      ∀ (T : Array Value) (ds : List Deferred) (w : World) (K : Act → World → Prop), J E val w → know ops (vs val) T o.after.toList →
      (∀ t, outer ops t = true → T[t]?.getD undef = a.tmps[t]?.getD undef) → (∀ x w', J (updE E i) (updV val i x) w' → K (Act.put ⟨T, ds⟩ o.dst x) w') → o.wp P ⟨T, ds⟩ w K Q) : EffOp P ops a eff need vs J Q i o := by
  unfold EffOp
  rw [if_pos h]
  exact fun E val hE hc hn => ⟨hr val, h2 E val hE hc hn⟩

theorem eff_pl {a : Act} {eff : List Nat} {need : Nat → List Nat} {vs : (Nat → Value) → Nat → Value} {J : (Nat → Bool) → (Nat → Value) → World → Prop} {i : Nat} {o : Oper} (h : eff.contains i = false)
    (hr : ∀ val, runs o (vs val) = true)
    (h4 : ∀ (E : Nat → Bool) (val : Nat → Value), (∀ m ∈ need i, E m = true) →
      ∀ (T : Array Value) (ds : List Deferred) (w : World) (K : Act → World → Prop), J E val w → know ops (vs val) T o.after.toList →
      (∀ t, outer ops t = true → T[t]?.getD undef = a.tmps[t]?.getD undef) → (∀ w', J E val w' → K (Act.put ⟨T, ds⟩ o.dst (vs val i)) w') → o.wp P ⟨T, ds⟩ w K Q) : EffOp P ops a eff need vs J Q i o := by
  unfold EffOp
  rw [if_neg (by rw [h]; exact Bool.false_ne_true)]
  intro E val hn
  rw [if_pos (hr val)]
  exact h4 E val hn

theorem eff_no {a : Act} {eff : List Nat} {need : Nat → List Nat} {vs : (Nat → Value) → Nat → Value} {J : (Nat → Bool) → (Nat → Value) → World → Prop} {i : Nat} {o : Oper} (h : eff.contains i = false)
    (hr : ∀ val, runs o (vs val) = false) (hv : ∀ val, vs val i = undef) : EffOp P ops a eff need vs J Q i o := by
  unfold EffOp
  rw [if_neg (by rw [h]; exact Bool.false_ne_true)]
  intro E val hn
  rw [if_neg (by rw [hr val]; exact Bool.false_ne_true)]
  exact hv val

theorem wp_region_eff {id : Nat} {a : Act} {w : World} (eff : List Nat) (need : Nat → List Nat) (vs : (Nat → Value) → Nat → Value) (J : (Nat → Bool) → (Nat → Value) → World → Prop) (hm : P.follows .mixedOrders = true) (hok : regOk ops a.tmps.size = true)
    (hnd : needOk ops eff need = true) (hlt : (eff.all fun m => decide (m < ops.size)) = true) (h0 : J (fun _ => false) (fun _ => undef) w.drew) (step : EffAll P ops a eff need vs J Q 0 ops.toList) (ins : InsL eff need vs 0 ops.size) (jns : JL eff J 0 ops.size)
    (fin : ∀ E val w, (∀ m ∈ eff, E m = true) → J E val w → Q .normal (putAll a (vs val) 0 ops.toList) w) : (Code.region id ops true).wp P Q a w := by
  have stab : ∀ {j : Nat}, j < ops.size → ∀ {E : Nat → Bool} {val : Nat → Value} {i : Nat} {v : Value}, E i = false → (E j = true) → (∀ m ∈ need j, E m = true) → vs (updV val i v) j = vs val j := by
    intro j hj E val i v hi hEj hn
    have hop := InsL.get ins hj
    rw [Nat.zero_add] at hop
    have hji : j ≠ i := by rintro rfl; rw [hi] at hEj; cases hEj
    unfold InsOp at hop
    split at hop
    · rw [hop, hop]
      simp [updV, hji]
    · refine hop _ _ fun m hm => ?_
      have hmi : m ≠ i := by rintro rfl; have := hn m hm; rw [hi] at this; cases this
      simp [updV, hmi]
  refine wp_region_vals hm hok (fun E val w => ∃ vm, J E vm w ∧ (∀ j, j < ops.size → E j = true → val j = vs vm j ∧ ∀ m ∈ need j, E m = true) ∧ ∀ j, E j = true → j < ops.size) ⟨_, h0, fun _ _ h => Bool.noConfusion h, fun _ h => Bool.noConfusion h⟩ ?_ ?_
  · rintro E val a' w i o hi hE hdeps ⟨vm, hJ, hv, hin⟩ hdone hold
    have hilt : i < ops.size := (Array.getElem?_eq_some_iff.1 hi).1
    have hop := EffAll.get step (by simpa using hi : ops.toList[i]? = some o)
    rw [Nat.zero_add] at hop
    have hneed : ∀ m ∈ need i, E m = true := by
      intro m hm'
      have h1 := List.all_eq_true.1 hnd i (List.mem_range.2 hilt)
      have h2 := List.all_eq_true.1 h1 m hm'
      rw [hi] at h2
      simp only [Option.any_some, Array.any_eq_true', Bool.and_eq_true, Bool.or_eq_true] at h2
      obtain ⟨_, e, he, hb, h3⟩ := h2
      have hEe := hdeps e he hb
      rcases h3 with h3 | h3
      · have h3 : e.on = m := by simpa using h3
        rw [← h3]; exact hEe
      · exact (hv _ (hin _ hEe) hEe).2 m (by simpa using h3)
    have hruns : runs o val = runs o (vs vm) := by
      unfold runs
      cases hg : o.guard with
      | none => rfl
      | some g =>
        obtain ⟨j, want⟩ := g
        obtain ⟨⟨e, he, hon, hb⟩, hs⟩ := (regOk_at hok hilt).2 o j want hi hg
        have hEj : E j = true := by rw [← hon]; exact hdeps e he hb
        simp only [(hv j (hin j hEj) hEj).1]
    have hkn : know ops (vs vm) a'.tmps o.after.toList := know_of fun e he hb t ht => by
      have hEj := hdeps e (by simpa using he) hb
      have h1 := hdone e.on t ht hEj
      rw [(hv _ (hin _ hEj) hEj).1] at h1
      simpa [Act.eval] using h1
    have hou : ∀ t, outer ops t = true → a'.tmps[t]?.getD undef = a.tmps[t]?.getD undef := fun t ht => by
      have h1 := hold t fun j hj => by
        unfold dstAt at hj
        cases ho : ops[j]? with
        | none => simp [ho] at hj
        | some o' =>
          simp [ho] at hj
          have := List.all_eq_true.1 ht o' (List.mem_of_getElem? (i := j) (by simpa using ho))
          simp [hj] at this
      simpa [Act.eval] using h1
    have hin' : ∀ j, (j == i || E j) = true → j < ops.size := by
      intro j hj
      by_cases hji : j = i
      · rw [hji]; exact hilt
      · exact hin j (by simpa [hji] using hj)
    rw [hruns]
    have next : ∀ x, (vs (updV vm i x) i = x) → ∀ j, j < ops.size → (j == i || E j) = true → (if j = i then x else val j) = vs (updV vm i x) j ∧ ∀ m ∈ need j, (m == i || E m) = true := by
      intro x hx j hj hEj
      by_cases hji : j = i
      · subst hji
        exact ⟨by rw [if_pos rfl, hx], fun m hm => by rw [hneed m hm]; simp⟩
      · have hEj' : E j = true := by simpa [hji] using hEj
        obtain ⟨h1, h2⟩ := hv j hj hEj'
        exact ⟨by rw [if_neg hji, h1, stab hj hE hEj' h2], fun m hm => by rw [h2 m hm]; simp⟩
    have hinsi := InsL.get ins hilt
    have hjnsi := JL.get jns hilt
    rw [Nat.zero_add] at hinsi hjnsi
    unfold EffOp at hop
    unfold InsOp at hinsi
    split at hop
    · rename_i hci
      rw [if_pos hci] at hinsi
      obtain ⟨hr, hop⟩ := hop E vm hE (fun j hj hEj => (hv j hj hEj).2) hneed
      rw [if_pos hr]
      obtain ⟨T, ds⟩ := a'
      exact hop T ds w _ hJ hkn hou fun x w' hJ' => ⟨x, rfl, _, hJ', next x (by rw [hinsi, updV_same]), hin'⟩
    · rename_i hci
      rw [if_neg hci] at hinsi
      have hJi := hjnsi (by simpa using hci)
      have hop := hop E vm hneed
      have hself : ∀ x, vs (updV vm i x) i = vs vm i := fun x => hinsi _ _ fun m hm => by
        have hmi : m ≠ i := by rintro rfl; have := hneed m hm; rw [hE] at this; cases this
        simp [updV, hmi]
      split
      · rename_i hr
        rw [if_pos hr] at hop
        obtain ⟨T, ds⟩ := a'
        refine hop T ds w _ hJ hkn hou fun w' hJ' => ⟨_, rfl, updV vm i (vs vm i), ?_, next _ (hself _), hin'⟩
        show J (updE E i) _ w'
        rw [hJi]; exact hJ'
      · rename_i hr
        rw [if_neg hr] at hop
        refine ⟨updV vm i undef, ?_, ?_, hin'⟩
        · show J (updE E i) _ w
          rw [hJi]; exact hJ
        · exact next undef (by rw [hself, hop])
  · rintro E val w hall ⟨vm, hJ, hv, hin⟩
    rw [putAll_congr (val' := vs vm) _ _ _ (fun j _ h2 => (hv j (by simpa using h2) (hall j (by simpa using h2))).1)]
    exact fin E vm w (fun m hm => hall m (by simpa using List.all_eq_true.1 hlt m hm)) hJ
end

section
variable {P : Program} {Q : Exit → Act → World → Prop} {o : Oper} {Tm : Array Value} {ds : List Deferred} {w w0 : World} {L : List HProp} {K : Act → World → Prop} {T : TypeId} {t : Nat}

theorem op_loadT {g off : Nat} {c : Array Value} {ct : TypeId} {fr : Nat × Nat} {v : Value} (ho : o.op = .load T (.tmp t)) (hx : Tm[t]?.getD undef = .pointer (some ⟨g, off, none⟩)) (hT : plainT P T = true) (H : At w0 L w) (i : Nat)
    (hL : L[i]? = some (Blk g (.cells c ct fr))) (hc : c[off]? = some v) (h : K (Act.put ⟨Tm, ds⟩ o.dst v) w) : o.wp P ⟨Tm, ds⟩ w K Q :=
  op_load T (.tmp t) ho g off (by simpa [Act.eval] using hx) hT H i hL hc h

theorem op_rowT {g n : Nat} {c : Array Value} {ct : TypeId} {fr : Nat × Nat} (ho : o.op = .load T (.tmp t)) (hx : Tm[t]?.getD undef = .pointer (some ⟨g, 0, none⟩)) (hT : aggT P T = true) (hn : sizeT P T = some n) (H : At w0 L w) (i : Nat)
    (hL : L[i]? = some (Blk g (.cells c ct fr))) (hc : c.size = n) (h : K (Act.put ⟨Tm, ds⟩ o.dst (.agg c)) w) : o.wp P ⟨Tm, ds⟩ w K Q := by
  have e : c.extract 0 (0 + n) = c := by rw [Nat.zero_add, ← hc, Array.extract_size]
  refine op_loads T (.tmp t) ho g 0 (by simpa [Act.eval] using hx) hT n hn H i hL (by omega) ?_
  rw [e]
  exact h

/-- Some cells of a block. -/
theorem op_loadsT {g off n : Nat} {c : Array Value} {ct : TypeId} {fr : Nat × Nat} {vs : List Value} (ho : o.op = .load T (.tmp t)) (hx : Tm[t]?.getD undef = .pointer (some ⟨g, off, none⟩)) (hT : aggT P T = true) (hn : sizeT P T = some n) (H : At w0 L w) (i : Nat)
    (hL : L[i]? = some (Blk g (.cells c ct fr))) (hv : (c.toList.drop off).take n = vs) (hl : vs.length = n) (h : K (Act.put ⟨Tm, ds⟩ o.dst (.agg vs.toArray)) w) : o.wp P ⟨Tm, ds⟩ w K Q := by
  have hle : off + n ≤ c.size ∨ n = 0 := by
    rw [← hv, List.length_take, List.length_drop] at hl
    simp at hl
    omega
  have e : c.extract off (off + n) = vs.toArray := by
    apply Array.ext'
    rw [← hv]
    simp
  rcases hle with hle | h0
  · refine op_loads T (.tmp t) ho g off (by simpa [Act.eval] using hx) hT n hn H i hL hle ?_
    rw [e]
    exact h
  · refine op_value (v := .agg vs.toArray) (w' := w) ?_ h
    have hv0 : vs = [] := List.eq_nil_of_length_eq_zero (by omega)
    have hx' : Act.eval ⟨Tm, ds⟩ (.tmp t) = .pointer (some ⟨g, off, none⟩) := by simpa [Act.eval] using hx
    subst hv0 h0
    simp [execOp, ho, hx', Instr.loadAt, Instr.sureAddr, loadVar, run_isAgg_agg hT, run_sizeOf hn, loadCells, loadCellsFrom]

/-- A whole block is written. -/
theorem op_putT {g u : Nat} {c vs : Array Value} {ct : TypeId} (ho : o.op = .store T (.tmp t) (.tmp u)) (hx : Tm[t]?.getD undef = .pointer (some ⟨g, 0, none⟩)) (hy : Tm[u]?.getD undef = .agg vs) (hv : ∀ v ∈ vs.toList, v.oneCell' = true) {n : Nat} (hn : sizeT P T = some n)
    (H : At w0 L w) (i : Nat) (hL : L[i]? = some (Blk g (.cells c ct (0, 0)))) (hc : vs.size = c.size) (hcn : vs.size = n) (h : ∀ w', At w0 (L.set i (Blk g (.cells vs ct (0, 0)))) w' → K (Act.put ⟨Tm, ds⟩ o.dst undef) w') : o.wp P ⟨Tm, ds⟩ w K Q := by
  have hr := run_storeVar_agg (P := P) (T := T) (off := 0) (by rw [hcn]; exact hn) hv (H.get i hL) (by omega)
  have he : (c.toList.take 0 ++ vs.toList ++ c.toList.drop (0 + vs.size)).toArray = vs := by
    have e2 : c.toList.drop (0 + vs.size) = [] := List.drop_eq_nil_of_le (by simp [hc])
    rw [e2]
    simp
  rw [he] at hr
  unfold Oper.wp
  have hx' : Act.eval ⟨Tm, ds⟩ (.tmp t) = .pointer (some ⟨g, 0, none⟩) := by simpa [Act.eval] using hx
  have hy' : Act.eval ⟨Tm, ds⟩ (.tmp u) = .agg vs := by simpa [Act.eval] using hy
  have hrun : (execOp (Act.eval ⟨Tm, ds⟩) o).run P w = .ok .skip (w.setRow g vs) := by simp [execOp, ho, hx', hy', Instr.storeAt, Instr.sureAddr, hr]
  rw [hrun]
  exact h _ (H.setAt i hL fun h => h.setRow0)

/-- A cell, or cells, that are known by their address. -/
theorem op_load1T {p : Addr} {v : Value} (ho : o.op = .load T (.tmp t)) (hx : Tm[t]?.getD undef = .pointer (some p)) (hT : plainT P T = true) (hc : w.cell? p = some v) (h : K (Act.put ⟨Tm, ds⟩ o.dst v) w) : o.wp P ⟨Tm, ds⟩ w K Q := by
  refine op_value (v := v) (w' := w) ?_ h
  have hx' : Act.eval ⟨Tm, ds⟩ (.tmp t) = .pointer (some p) := by simpa [Act.eval] using hx
  simp [execOp, ho, hx', Instr.loadAt, Instr.sureAddr, loadVar, run_isAgg_plain hT, hc]

theorem op_cellsT {p : Addr} {vs : List Value} (ho : o.op = .load T (.tmp t)) (hx : Tm[t]?.getD undef = .pointer (some p)) (hT : aggT P T = true) (hn : sizeT P T = some vs.length) (hc : ∀ j u, vs[j]? = some u → w.cell? (p.add j) = some u)
    (h : K (Act.put ⟨Tm, ds⟩ o.dst (.agg vs.toArray)) w) : o.wp P ⟨Tm, ds⟩ w K Q := by
  refine op_value (v := .agg vs.toArray) (w' := w) ?_ h
  have hx' : Act.eval ⟨Tm, ds⟩ (.tmp t) = .pointer (some p) := by simpa [Act.eval] using hx
  have hl := run_loadCells_list (P := P) w p vs hc
  simp [execOp, ho, hx', Instr.loadAt, Instr.sureAddr, loadVar, run_isAgg_agg hT, run_sizeOf hn, hl]
end
end Go.Hp
end EngReg5
section EngReg6
namespace Go.Hp
open Go.RowKit
set_option linter.unusedVariables false
set_option linter.unusedSimpArgs false

def comp (v : Value) (i : Nat) : Value := match v with | .agg cs => cs.getD i undef | _ => undef

section
variable {P : Program} {Q : Exit → Act → World → Prop} {o : Oper} {Tm : Array Value} {ds : List Deferred} {w w0 : World} {L : List HProp} {K : Act → World → Prop} {T : TypeId} {t u : Nat}

theorem op_storeT {g off : Nat} {c : Array Value} {ct : TypeId} {v : Value} (ho : o.op = .store T (.tmp t) (.tmp u)) (hx : Tm[t]?.getD undef = .pointer (some ⟨g, off, none⟩)) (hy : Tm[u]?.getD undef = v) (hv : v.oneCell' = true) (hn : sizeT P T = some 1)
    (H : At w0 L w) (i : Nat) (hL : L[i]? = some (Blk g (.cells c ct (0, 0)))) (hc : off < c.size) (h : ∀ w', At w0 (L.set i (Blk g (.cells (c.setIfInBounds off v) ct (0, 0)))) w' → K (Act.put ⟨Tm, ds⟩ o.dst undef) w') : o.wp P ⟨Tm, ds⟩ w K Q := by
  have hr := run_storeVar_cell (P := P) (T := T) hn hv (H.get i hL) hc
  unfold Oper.wp
  have hx' : Act.eval ⟨Tm, ds⟩ (.tmp t) = .pointer (some ⟨g, off, none⟩) := by simpa [Act.eval] using hx
  have hy' : Act.eval ⟨Tm, ds⟩ (.tmp u) = v := by simpa [Act.eval] using hy
  have hrun : (execOp (Act.eval ⟨Tm, ds⟩) o).run P w = .ok .skip (w.setCell ⟨g, off, none⟩ v) := by simp [execOp, ho, hx', hy', Instr.storeAt, Instr.sureAddr, hr]
  rw [hrun]
  exact h _ (H.setAt i hL fun h => h.set0 (i := off) v)

theorem op_storesT {g off : Nat} {c vs : Array Value} {ct : TypeId} (ho : o.op = .store T (.tmp t) (.tmp u)) (hx : Tm[t]?.getD undef = .pointer (some ⟨g, off, none⟩)) (hy : Tm[u]?.getD undef = .agg vs) (hv : ∀ v ∈ vs.toList, v.oneCell' = true) {n : Nat} (hn : sizeT P T = some n) (hcn : vs.size = n)
    (H : At w0 L w) (i : Nat) (hL : L[i]? = some (Blk g (.cells c ct (0, 0)))) (hc : off + vs.size ≤ c.size) (h : ∀ w', At w0 (L.set i (Blk g (.cells (c.toList.take off ++ vs.toList ++ c.toList.drop (off + vs.size)).toArray ct (0, 0)))) w' → K (Act.put ⟨Tm, ds⟩ o.dst undef) w') : o.wp P ⟨Tm, ds⟩ w K Q := by
  have hr := run_storeVar_agg (P := P) (T := T) (by rw [hcn]; exact hn) hv (H.get i hL) hc
  unfold Oper.wp
  have hx' : Act.eval ⟨Tm, ds⟩ (.tmp t) = .pointer (some ⟨g, off, none⟩) := by simpa [Act.eval] using hx
  have hy' : Act.eval ⟨Tm, ds⟩ (.tmp u) = .agg vs := by simpa [Act.eval] using hy
  have hrun : (execOp (Act.eval ⟨Tm, ds⟩) o).run P w = .ok .skip (w.setRow g (c.toList.take off ++ vs.toList ++ c.toList.drop (off + vs.size)).toArray) := by
    simp only [execOp, ho, hx', hy', Instr.storeAt, Instr.sureAddr, hr, Sem.run_bind, Sem.run_pure, Result.andThen_ok]
  rw [hrun]
  exact h _ (H.setAt i hL fun h => h.setRow0)
end

theorem cells_of {w : World} {g : Nat} {c : List Value} {t : TypeId} {fr : Nat × Nat} (hg : w.heap[g]? = some (.cells c.toArray t fr)) : ∀ j u, c[j]? = some u → w.cell? ((⟨g, 0, none⟩ : Addr).add j) = some u := by
  intro j u hj
  rw [Addr.add_lit, Nat.zero_add, cell_of_row w g j _ _ _ hg, List.getElem?_toArray]
  exact hj

theorem fold_set (c : Array Value) : ∀ (k : Nat) (z : Array Value), z.size = c.size → k ≤ c.size → (∀ j, j < c.size - k → z[j]? = c[j]?) →
    ((c.zipIdx.toList.drop (c.size - k)).foldl (fun cs (x : Value × Nat) => cs.setIfInBounds (0 + x.2) x.1) z) = c
  | 0, z, hz, _, h => by
    rw [Nat.sub_zero, List.drop_eq_nil_of_le (by simp)]
    rw [List.foldl_nil]
    apply Array.ext_getElem?
    intro j
    by_cases hj : j < c.size
    · exact h j (by omega)
    · rw [Array.getElem?_eq_none (by omega), Array.getElem?_eq_none (by omega)]
  | k + 1, z, hz, hk, h => by
    have hlt : c.size - (k + 1) < c.zipIdx.toList.length := by simp; omega
    rw [List.drop_eq_getElem_cons hlt, List.foldl_cons]
    have e : c.zipIdx.toList[c.size - (k + 1)] = (c[c.size - (k + 1)]'(by omega), c.size - (k + 1)) := by simp
    rw [e, show c.size - (k + 1) + 1 = c.size - k by omega]
    refine fold_set c k _ (by simpa using hz) (by omega) ?_
    intro j hj
    rw [Nat.zero_add, Array.getElem?_setIfInBounds]
    by_cases hjk : c.size - (k + 1) = j
    · subst hjk
      rw [if_pos rfl, if_pos (by omega)]
      simp
    · rw [if_neg hjk]
      exact h j (by omega)

theorem fill_one {c z : Array Value} {size : Nat} (hs : c.size = size) (hz : z.size = size) : Instr.fill (fun i => some (i * size, size)) z [(0, .agg c)] = some c := by
  have := fold_set c c.size z (by omega) (Nat.le_refl _) (fun j hj => by omega)
  rw [Nat.sub_self, List.drop_zero] at this
  unfold Instr.fill
  simp only [Value.cells, Nat.zero_mul]
  unfold Instr.fill
  rw [← Array.foldl_toList, this]
  refine if_neg fun h => ?_
  rcases Bool.or_eq_true_iff.1 h with h | h
  · exact (of_decide_eq_true h) hs
  · have h3 : 0 + c.size > z.size := of_decide_eq_true h
    omega

theorem run_lit_one {P : Program} {w : World} {T e : TypeId} {size : Nat} {c z : Array Value} (hT : P.underlying T = some (.slice e)) (hs : sizeT P e = some size) (hz : zeroT P e = some (.agg z)) (hzs : z.size = size) (hc : c.size = size) (h0 : 0 < size) (hsm : size ≤ 16777216) :
    (Instr.buildSlice T 1 #[(0, .agg c)]).run P w = .ok (.slice (some ⟨w.heap.size, 0, none⟩) 1 1) (w.alloc (.cells c e)) := by
  have hne : ¬ (size = 0) := by omega
  have hle : ¬ (16777216 < size) := by omega
  have hf := fill_one (c := c) (z := (Array.range (1 * size)).map (z[· % z.size]!)) hc (by simp)
  simp only [Nat.one_mul] at hf
  unfold Instr.buildSlice
  simp only [Sem.run_bind, run_underlying hT, run_sizeOf hs, Result.andThen_ok, Nat.one_mul]
  rw [if_neg (by omega)]
  simp only [Sem.run_bind, Sem.run_pure, Result.andThen_ok, if_neg hne, run_zeroValue hz, Value.cells, hf]
  simp [newRow]

section
variable {P : Program} {ops : Array Oper} {Q : Exit → Act → World → Prop} {a : Act} {w : World} {rest : List Oper} {o : Oper} {w0 : World} {L : List HProp}

/-- A slice's literal of one record. -/
theorem st_lit1 (hw : Region.wanted o (yielded ops a.tmps) = true) (T : TypeId) (x : Operand) (ho : o.op = .buildSlice T 1 #[(0, x)]) (c : Array Value) (hx : a.eval x = .agg c) (e : TypeId) (hT : P.underlying T = some (.slice e)) (size : Nat) (hs : sizeT P e = some size) (z : Array Value) (hz : zeroT P e = some (.agg z)) (hzs : z.size = size)
    (hc : c.size = size) (h0 : 0 < size) (hsm : size ≤ 16777216) (H : At w0 L w)
    (h : ∀ g w', At w0 (Blk g (.cells c e (0, 0)) :: L) w' → ∀ K : Act → World → Prop, (∀ a w, wpList P ops Q rest a w → K a w) → K (a.put o.dst (.slice (some ⟨g, 0, none⟩) 1 1)) w') : wpList P ops Q (o :: rest) a w := by
  refine st_value hw (v := .slice (some ⟨w.heap.size, 0, none⟩) 1 1) (w' := w.alloc (.cells c e)) ?_ (h _ _ (H.alloc _) _ fun _ _ h => h)
  have hr := run_lit_one (P := P) (w := w) hT hs hz hzs hc h0 hsm
  simp [execOp, ho, hx, hr]
end
end Go.Hp
end EngReg6
section EngReg7
namespace Go.Hp
open Go.RowKit
set_option linter.unusedVariables false
set_option linter.unusedSimpArgs false

/-- A variable behind a pointer. -/
def PtrBlk (v : Value) (o : Obj) : HProp := fun hp => ∃ g : Nat, v = .pointer (some ⟨g, 0, none⟩) ∧ Blk g o hp
/-- A slice of one. -/
def SlBlk (v : Value) (cs : Array Value) (e : TypeId) : HProp := fun hp => ∃ g : Nat, v = .slice (some ⟨g, 0, none⟩) 1 1 ∧ Blk g (.cells cs e (0, 0)) hp

theorem ptr_ex {w0 w : World} {L : List HProp} {v : Value} {o : Obj} (H : At w0 (PtrBlk v o :: L) w) : ∃ g, v = .pointer (some ⟨g, 0, none⟩) ∧ At w0 (Blk g o :: L) w := by
  obtain ⟨g, H⟩ := At.ex H
  obtain ⟨h, H2⟩ := At.and H
  exact ⟨g, h, H2⟩
theorem sl_ex {w0 w : World} {L : List HProp} {v : Value} {cs : Array Value} {e : TypeId} (H : At w0 (SlBlk v cs e :: L) w) : ∃ g, v = .slice (some ⟨g, 0, none⟩) 1 1 ∧ At w0 (Blk g (.cells cs e (0, 0)) :: L) w := by
  obtain ⟨g, H⟩ := At.ex H
  obtain ⟨h, H2⟩ := At.and H
  exact ⟨g, h, H2⟩
theorem ptr_mk {w0 w : World} {L : List HProp} {g : Nat} {o : Obj} (H : At w0 (Blk g o :: L) w) : At w0 (PtrBlk (.pointer (some ⟨g, 0, none⟩)) o :: L) w := H.imp fun _ hh => ⟨g, rfl, hh⟩

section
variable {P : Program} {o : Oper} {Tm : Array Value} {ds : List Deferred} {w w0 : World} {K : Act → World → Prop} {Q : Exit → Act → World → Prop} {L : List HProp} {T : TypeId} {t u : Tmp}

theorem op_allocT {z : Value} {cs : Array Value} (ho : o.op = .alloc T) (hz : zeroT P T = some z) (hcs : z.cells = cs) (H : At w0 L w)
    (h : ∀ x w', At w0 (PtrBlk x (.cells cs T (0, 0)) :: L) w' → K (Act.put ⟨Tm, ds⟩ o.dst x) w') : o.wp P ⟨Tm, ds⟩ w K Q := by
  subst hcs
  refine op_value (v := .pointer (some ⟨w.heap.size, 0, none⟩)) (w' := w.alloc (.cells z.cells T)) ?_ (h _ _ (ptr_mk (H.alloc _)))
  simp [execOp, ho, Instr.alloc, run_zeroValue hz, newVar, newRow]

theorem op_lit1T {c z : Array Value} {e : TypeId} {size : Nat} (ho : o.op = .buildSlice T 1 #[(0, .tmp t)]) (hx : Tm[t]?.getD undef = .agg c) (hT : P.underlying T = some (.slice e)) (hs : sizeT P e = some size) (hz : zeroT P e = some (.agg z)) (hzs : z.size = size)
    (hc : c.size = size) (h0 : 0 < size) (hsm : size ≤ 16777216) (H : At w0 L w)
    (h : ∀ x w', At w0 (SlBlk x c e :: L) w' → K (Act.put ⟨Tm, ds⟩ o.dst x) w') : o.wp P ⟨Tm, ds⟩ w K Q := by
  have hr := run_lit_one (P := P) (w := w) hT hs hz hzs hc h0 hsm
  refine op_value (v := .slice (some ⟨w.heap.size, 0, none⟩) 1 1) (w' := w.alloc (.cells c e)) ?_ (h _ _ ((H.alloc _).imp fun _ hh => ⟨_, rfl, hh⟩))
  have hx' : Act.eval ⟨Tm, ds⟩ (.tmp t) = .agg c := by simpa [Act.eval] using hx
  simp [execOp, ho, hx', hr]

theorem op_appendT {s : TypeId} {e : TypeId} {size bytes : Nat} {z v : Value} {n m c : Nat} {xs news : List Value} {sp : Option Addr} (ho : o.op = .call { callee := .builtin .append, args := #[.tmp t, .tmp u], argTypes := #[s, s] }) (ht : P.underlying s = some (.slice e)) (hsz : sizeT P e = some size) (hby : bytesT P e = some bytes) (hz : zeroT P e = some z) (hzs : z.cells.size = size)
    (hs : Tm[t]?.getD undef = v) (hx : Tm[u]?.getD undef = .slice sp m c) (H : At w0 (OwnRow e size v n xs :: L) w) (hl : news.length = m * size) (hsp : 0 < m → ∃ ad, sp = some ad ∧ ∀ j u, news[j]? = some u → w.cell? (ad.add j) = some u)
    (h1 : ∀ u ∈ news, u.oneCell' = true) (h63 : n + m ≤ maxLen) (hbytes : (n + m) * bytes ≤ 140737488355328)
    (h : ∀ v' w', At w0 (OwnRow e size v' (n + m) (xs ++ news) :: L) w' → K (Act.put ⟨Tm, ds⟩ o.dst v') w') : o.wp P ⟨Tm, ds⟩ w K Q := by
  obtain ⟨v', w', hr, H'⟩ := run_append_at (P := P) (ty := o.type) ht hsz hby hz hzs H sp m c news hl hsp h1 h63 hbytes
  refine op_value (v := v') (w' := w') ?_ (h v' w' H')
  have hs' : Act.eval ⟨Tm, ds⟩ (.tmp t) = v := by simpa [Act.eval] using hs
  have hx' : Act.eval ⟨Tm, ds⟩ (.tmp u) = .slice sp m c := by simpa [Act.eval] using hx
  simp [execOp, ho, resolve, invoke, builtin, hs', hx', hr]
end

/-- Three results, the second in memory. -/
theorem results_three {P : Program} {fn : Func} {p q r : Tmp} {ty : TypeId} (h : fn.results = #[.tmp p, .cell q ty, .tmp r]) {tmps : Array Value} {w : World} {g : Nat} {t : TypeId} {cs : Array Value} {fr : Nat × Nat} {n : Nat}
    (hq : tmps.getD q undef = .pointer (some ⟨g, 0, none⟩)) (hT : aggT P ty = true) (hn : sizeT P ty = some n) (hg : w.heap[g]? = some (.cells cs t fr)) (hc : cs.size = n) {x y : Value} (hx : tmps.getD p undef = x) (hy : tmps.getD r undef = y) :
    (results fn tmps).run P w = .ok (.tuple #[x, .agg cs, y]) w := by
  have hr := run_loadVar_agg (P := P) (off := 0) hT hn hg (by omega)
  have e : cs.extract 0 (0 + n) = cs := by rw [Nat.zero_add, ← hc, Array.extract_size]
  rw [e] at hr
  have hq' : tmps[q]?.getD undef = .pointer (some ⟨g, 0, none⟩) := by simpa using hq
  have hx' : tmps[p]?.getD undef = x := by simpa using hx
  have hy' : tmps[r]?.getD undef = y := by simpa using hy
  simp [results, h, hq', hx', hy', asAddr, hr]
end Go.Hp
end EngReg7
section EngReg8
namespace Go.Hp
open Go.RowKit

/-- Those that write the slot wait for that operation. -/
def outerN (ops : Array Oper) (need : Nat → List Nat) (i : Nat) (t : Nat) : Bool := (List.range ops.size).all fun j => dstAt ops j != some t || (need j).contains i

section
variable {P : Program} {ops : Array Oper} {Q : Exit → Act → World → Prop}

theorem wp_region_valsN {id : Nat} {a : Act} {w : World} (hm : P.follows .mixedOrders = true) (hok : regOk ops a.tmps.size = true) (R : (Nat → Bool) → (Nat → Value) → World → Prop)
    (h0 : R (fun _ => false) (fun _ => undef) w.drew)
    (step : ∀ (E : Nat → Bool) (val : Nat → Value) (a' : Act) (w : World) (i : Nat) (o : Oper), ops[i]? = some o → E i = false → (∀ e ∈ o.after, Region.binds .any e = true → E e.on = true) → R E val w →
      (∀ j t, dstAt ops j = some t → E j = true → a'.eval (.tmp t) = val j) → (∀ t, (∀ j, dstAt ops j = some t → E j = false) → a'.eval (.tmp t) = a.eval (.tmp t)) →
      if runs o val = true then o.wp P a' w (fun a'' w'' => ∃ v, a'' = a'.put o.dst v ∧ R (fun j => j == i || E j) (fun j => if j = i then v else val j) w'') Q
      else R (fun j => j == i || E j) (fun j => if j = i then undef else val j) w)
    (fin : ∀ (E : Nat → Bool) (val : Nat → Value) (w : World), (∀ j, j < ops.size → E j = true) → R E val w → Q .normal (putAll a val 0 ops.toList) w) : (Code.region id ops true).wp P Q a w := by
  have inb : ∀ {j t}, dstAt ops j = some t → j < ops.size := by
    intro j t h
    rcases Nat.lt_or_ge j ops.size with h' | h'
    · exact h'
    · simp [dstAt, Array.getElem?_eq_none h'] at h
  have uniq : ∀ {j k t}, dstAt ops j = some t → dstAt ops k = some t → j = k := by
    intro j k t h1 h2
    rcases Nat.lt_trichotomy j k with h | h | h
    · exact absurd h1 (((regOk_at hok (inb h2)).1 t h2).2 j h)
    · exact h
    · exact absurd h2 (((regOk_at hok (inb h1)).1 t h1).2 k h)
  refine wp_region_inv hm (regOk_deps hok) (fun E a' w' => ∃ val, R E val w' ∧ a'.defers = a.defers ∧ a'.tmps.size = a.tmps.size ∧ (∀ j t, dstAt ops j = some t → E j = true → a'.tmps[t]? = some (val j)) ∧
    (∀ t, (∀ j, dstAt ops j = some t → E j = false) → a'.tmps[t]? = a.tmps[t]?)) ?_ ?_ ?_
  · exact ⟨_, h0, rfl, rfl, fun _ _ _ h => Bool.noConfusion h, fun _ _ => rfl⟩
  · rintro E a' w' i o hi hE hdeps ⟨val, hR, hdf, hsz, hdone, hold⟩
    have hilt : i < ops.size := (Array.getElem?_eq_some_iff.1 hi).1
    have hdi : dstAt ops i = o.dst := by simp [dstAt, hi]
    have hst := step E val a' w' i o hi hE hdeps hR (fun j t hj hEj => by simp [Act.eval, hdone j t hj hEj])
      (fun t ht => by simp only [Act.eval, Array.getD_eq_getD_getElem?]; rw [hold t ht])
    have hwant : Region.wanted o (yielded ops a'.tmps) = runs o val := by
      unfold Region.wanted runs
      cases hg : o.guard with
      | none => rfl
      | some g =>
        obtain ⟨j, want⟩ := g
        obtain ⟨⟨e, he, hon, hb⟩, hs⟩ := (regOk_at hok hilt).2 o j want hi hg
        have hEj : E j = true := by rw [← hon]; exact hdeps e he hb
        obtain ⟨t, ht⟩ := Option.isSome_iff_exists.1 hs
        have hv := hdone j t ht hEj
        have hd : (ops[j]?).bind (·.dst) = some t := ht
        simp only [yielded, hd, Option.bind_some, hv]
        cases val j <;> simp
    have next : ∀ (v : Value) (w'' : World), R (fun j => j == i || E j) (fun j => if j = i then v else val j) w'' → ∃ val', R (fun j => j == i || E j) val' w'' ∧ (a'.put o.dst v).defers = a.defers ∧ (a'.put o.dst v).tmps.size = a.tmps.size ∧
        (∀ j t, dstAt ops j = some t → (j == i || E j) = true → (a'.put o.dst v).tmps[t]? = some (val' j)) ∧ (∀ t, (∀ j, dstAt ops j = some t → (j == i || E j) = false) → (a'.put o.dst v).tmps[t]? = a.tmps[t]?) := by
      intro v w'' hR'
      refine ⟨_, hR', by rw [put_defers]; exact hdf, by rw [put_size]; exact hsz, ?_, ?_⟩
      · intro j t hj hEj
        have htn : t < a'.tmps.size := by rw [hsz]; exact ((regOk_at hok (inb hj)).1 t hj).1
        rw [put_get _ _ _ _ htn]
        by_cases hji : j = i
        · subst hji
          rw [if_pos (by rw [← hdi]; exact hj)]
          simp
        · rw [if_neg (fun h => hji (uniq hj (hdi.trans h)))]
          have : E j = true := by simpa [hji] using hEj
          simpa [hji] using hdone j t hj this
      · intro t ht
        by_cases htn : t < a'.tmps.size
        · rw [put_get _ _ _ _ htn, if_neg (fun h => by have := ht i (hdi.trans h); simp at this)]
          refine hold t fun j hj => ?_
          have := ht j hj
          simp only [Bool.or_eq_false_iff] at this
          exact this.2
        · rw [Array.getElem?_eq_none (by rw [put_size]; exact Nat.le_of_not_lt htn), Array.getElem?_eq_none (by rw [← hsz]; exact Nat.le_of_not_lt htn)]
    rw [hwant]
    split
    · rename_i hr
      rw [if_pos hr] at hst
      refine Oper.wp_mono ?_ hst
      rintro a'' w'' ⟨v, rfl, hR'⟩
      exact next v w'' hR'
    · rename_i hr
      rw [if_neg hr] at hst
      exact next undef w' hst
  · rintro E a' w' hall ⟨val, hR, hdf, hsz, hdone, hold⟩
    have he : a' = putAll a val 0 ops.toList := by
      have ht : a'.tmps = (putAll a val 0 ops.toList).tmps := by
        apply Array.ext_getElem?
        intro t
        by_cases htn : t < a.tmps.size
        · by_cases hj : ∃ j, dstAt ops j = some t
          · obtain ⟨j, hj⟩ := hj
            have hjl := inb hj
            have hoj : ops.toList[j]? = some ops[j] := by simp [hjl]
            have hdj : ops[j].dst = some t := by simpa [dstAt, hjl] using hj
            rw [hdone j t hj (hall j hjl), putAll_at val t ops.toList 0 j a ops[j] htn hoj hdj ?_, Nat.zero_add]
            intro k o' hk ho' hd'
            have hkd : dstAt ops k = some t := by
              have : ops[k]? = some o' := by simpa using ho'
              simp [dstAt, this, hd']
            have := uniq hj hkd
            omega
          · have hn : ∀ j, dstAt ops j ≠ some t := fun j h => hj ⟨j, h⟩
            rw [hold t (fun j h => absurd h (hn j)), putAll_other val t ops.toList 0 a htn]
            intro o' ho' hd'
            obtain ⟨k, hk⟩ := List.getElem?_of_mem ho'
            refine hn k ?_
            have : ops[k]? = some o' := by simpa using hk
            simp [dstAt, this, hd']
        · rw [Array.getElem?_eq_none (by omega), Array.getElem?_eq_none (by rw [putAll_size]; omega)]
      have hd : a'.defers = (putAll a val 0 ops.toList).defers := by rw [hdf, putAll_defers]
      cases a'
      cases hx : putAll a val 0 ops.toList
      rw [hx] at ht hd
      simp only at ht hd
      rw [ht, hd]
    rw [he]
    exact fin E val w' hall hR


def EffOpN (P : Program) (ops : Array Oper) (a : Act) (eff : List Nat) (need : Nat → List Nat) (vs : (Nat → Value) → Nat → Value) (J : (Nat → Bool) → (Nat → Value) → World → Prop) (Q : Exit → Act → World → Prop) (i : Nat) (o : Oper) : Prop :=
  if eff.contains i = true then ∀ (E : Nat → Bool) (val : Nat → Value), E i = false → (∀ j, j < ops.size → E j = true → ∀ m ∈ need j, E m = true) → (∀ m ∈ need i, E m = true) → runs o (vs val) = true ∧
      ∀ (T : Array Value) (ds : List Deferred) (w : World) (K : Act → World → Prop), J E val w → know ops (vs val) T o.after.toList →
      (∀ t, outerN ops need i t = true → T[t]?.getD undef = a.tmps[t]?.getD undef) → (∀ x w', J (updE E i) (updV val i x) w' → K (Act.put ⟨T, ds⟩ o.dst x) w') → o.wp P ⟨T, ds⟩ w K Q
  else ∀ (E : Nat → Bool) (val : Nat → Value), (∀ m ∈ need i, E m = true) →
      if runs o (vs val) = true then ∀ (T : Array Value) (ds : List Deferred) (w : World) (K : Act → World → Prop), J E val w → know ops (vs val) T o.after.toList →
      (∀ t, outer ops t = true → T[t]?.getD undef = a.tmps[t]?.getD undef) → (∀ w', J E val w' → K (Act.put ⟨T, ds⟩ o.dst (vs val i)) w') → o.wp P ⟨T, ds⟩ w K Q
      else vs val i = undef

def EffAllN (P : Program) (ops : Array Oper) (a : Act) (eff : List Nat) (need : Nat → List Nat) (vs : (Nat → Value) → Nat → Value) (J : (Nat → Bool) → (Nat → Value) → World → Prop) (Q : Exit → Act → World → Prop) : Nat → List Oper → Prop
  | _, [] => True
  | i, o :: l => EffOpN P ops a eff need vs J Q i o ∧ EffAllN P ops a eff need vs J Q (i + 1) l

theorem EffAllN.get {a : Act} {eff : List Nat} {need : Nat → List Nat} {vs : (Nat → Value) → Nat → Value} {J : (Nat → Bool) → (Nat → Value) → World → Prop} : ∀ {l : List Oper} {k i : Nat} {o : Oper}, EffAllN P ops a eff need vs J Q k l → l[i]? = some o →
    EffOpN P ops a eff need vs J Q (k + i) o
  | [], _, _, _, _, h => by simp at h
  | x :: l, k, 0, o, h, hi => by
    simp at hi
    subst hi
    exact h.1
  | x :: l, k, i + 1, o, h, hi => by
    have := EffAllN.get (k := k + 1) (i := i) h.2 (by simpa using hi)
    rwa [show k + 1 + i = k + (i + 1) by omega] at this

theorem eff_mkN {a : Act} {eff : List Nat} {need : Nat → List Nat} {vs : (Nat → Value) → Nat → Value} {J : (Nat → Bool) → (Nat → Value) → World → Prop} {i : Nat} {o : Oper} (h : eff.contains i = true)
    (hr : ∀ val, runs o (vs val) = true)
    (h2 : ∀ (E : Nat → Bool) (val : Nat → Value), E i = false → (∀ j, j < ops.size → E j = true → ∀ m ∈ need j, E m = true) → (∀ m ∈ need i, E m = true) →
      ∀ (T : Array Value) (ds : List Deferred) (w : World) (K : Act → World → Prop), J E val w → know ops (vs val) T o.after.toList →
      (∀ t, outerN ops need i t = true → T[t]?.getD undef = a.tmps[t]?.getD undef) → (∀ x w', J (updE E i) (updV val i x) w' → K (Act.put ⟨T, ds⟩ o.dst x) w') → o.wp P ⟨T, ds⟩ w K Q) : EffOpN P ops a eff need vs J Q i o := by
  unfold EffOpN
  rw [if_pos h]
  exact fun E val hE hc hn => ⟨hr val, h2 E val hE hc hn⟩

theorem eff_plN {a : Act} {eff : List Nat} {need : Nat → List Nat} {vs : (Nat → Value) → Nat → Value} {J : (Nat → Bool) → (Nat → Value) → World → Prop} {i : Nat} {o : Oper} (h : eff.contains i = false)
    (hr : ∀ val, runs o (vs val) = true)
    (h4 : ∀ (E : Nat → Bool) (val : Nat → Value), (∀ m ∈ need i, E m = true) →
      ∀ (T : Array Value) (ds : List Deferred) (w : World) (K : Act → World → Prop), J E val w → know ops (vs val) T o.after.toList →
      (∀ t, outer ops t = true → T[t]?.getD undef = a.tmps[t]?.getD undef) → (∀ w', J E val w' → K (Act.put ⟨T, ds⟩ o.dst (vs val i)) w') → o.wp P ⟨T, ds⟩ w K Q) : EffOpN P ops a eff need vs J Q i o := by
  unfold EffOpN
  rw [if_neg (by rw [h]; exact Bool.false_ne_true)]
  intro E val hn
  rw [if_pos (hr val)]
  exact h4 E val hn

theorem eff_noN {a : Act} {eff : List Nat} {need : Nat → List Nat} {vs : (Nat → Value) → Nat → Value} {J : (Nat → Bool) → (Nat → Value) → World → Prop} {i : Nat} {o : Oper} (h : eff.contains i = false)
    (hr : ∀ val, runs o (vs val) = false) (hv : ∀ val, vs val i = undef) : EffOpN P ops a eff need vs J Q i o := by
  unfold EffOpN
  rw [if_neg (by rw [h]; exact Bool.false_ne_true)]
  intro E val hn
  rw [if_neg (by rw [hr val]; exact Bool.false_ne_true)]
  exact hv val

theorem wp_region_effN {id : Nat} {a : Act} {w : World} (eff : List Nat) (need : Nat → List Nat) (vs : (Nat → Value) → Nat → Value) (J : (Nat → Bool) → (Nat → Value) → World → Prop) (hm : P.follows .mixedOrders = true) (hok : regOk ops a.tmps.size = true)
    (hnd : needOk ops eff need = true) (hlt : (eff.all fun m => decide (m < ops.size)) = true) (h0 : J (fun _ => false) (fun _ => undef) w.drew) (step : EffAllN P ops a eff need vs J Q 0 ops.toList) (ins : InsL eff need vs 0 ops.size) (jns : JL eff J 0 ops.size)
    (fin : ∀ E val w, (∀ m ∈ eff, E m = true) → J E val w → Q .normal (putAll a (vs val) 0 ops.toList) w) : (Code.region id ops true).wp P Q a w := by
  have stab : ∀ {j : Nat}, j < ops.size → ∀ {E : Nat → Bool} {val : Nat → Value} {i : Nat} {v : Value}, E i = false → (E j = true) → (∀ m ∈ need j, E m = true) → vs (updV val i v) j = vs val j := by
    intro j hj E val i v hi hEj hn
    have hop := InsL.get ins hj
    rw [Nat.zero_add] at hop
    have hji : j ≠ i := by rintro rfl; rw [hi] at hEj; cases hEj
    unfold InsOp at hop
    split at hop
    · rw [hop, hop]
      simp [updV, hji]
    · refine hop _ _ fun m hm => ?_
      have hmi : m ≠ i := by rintro rfl; have := hn m hm; rw [hi] at this; cases this
      simp [updV, hmi]
  refine wp_region_valsN hm hok (fun E val w => ∃ vm, J E vm w ∧ (∀ j, j < ops.size → E j = true → val j = vs vm j ∧ ∀ m ∈ need j, E m = true) ∧ ∀ j, E j = true → j < ops.size) ⟨_, h0, fun _ _ h => Bool.noConfusion h, fun _ h => Bool.noConfusion h⟩ ?_ ?_
  · rintro E val a' w i o hi hE hdeps ⟨vm, hJ, hv, hin⟩ hdone hold
    have hilt : i < ops.size := (Array.getElem?_eq_some_iff.1 hi).1
    have hop := EffAllN.get step (by simpa using hi : ops.toList[i]? = some o)
    rw [Nat.zero_add] at hop
    have hneed : ∀ m ∈ need i, E m = true := by
      intro m hm'
      have h1 := List.all_eq_true.1 hnd i (List.mem_range.2 hilt)
      have h2 := List.all_eq_true.1 h1 m hm'
      rw [hi] at h2
      simp only [Option.any_some, Array.any_eq_true', Bool.and_eq_true, Bool.or_eq_true] at h2
      obtain ⟨_, e, he, hb, h3⟩ := h2
      have hEe := hdeps e he hb
      rcases h3 with h3 | h3
      · have h3 : e.on = m := by simpa using h3
        rw [← h3]; exact hEe
      · exact (hv _ (hin _ hEe) hEe).2 m (by simpa using h3)
    have hruns : runs o val = runs o (vs vm) := by
      unfold runs
      cases hg : o.guard with
      | none => rfl
      | some g =>
        obtain ⟨j, want⟩ := g
        obtain ⟨⟨e, he, hon, hb⟩, hs⟩ := (regOk_at hok hilt).2 o j want hi hg
        have hEj : E j = true := by rw [← hon]; exact hdeps e he hb
        simp only [(hv j (hin j hEj) hEj).1]
    have hkn : know ops (vs vm) a'.tmps o.after.toList := know_of fun e he hb t ht => by
      have hEj := hdeps e (by simpa using he) hb
      have h1 := hdone e.on t ht hEj
      rw [(hv _ (hin _ hEj) hEj).1] at h1
      simpa [Act.eval] using h1
    have hou : ∀ t, outer ops t = true → a'.tmps[t]?.getD undef = a.tmps[t]?.getD undef := fun t ht => by
      have h1 := hold t fun j hj => by
        unfold dstAt at hj
        cases ho : ops[j]? with
        | none => simp [ho] at hj
        | some o' =>
          simp [ho] at hj
          have := List.all_eq_true.1 ht o' (List.mem_of_getElem? (i := j) (by simpa using ho))
          simp [hj] at this
      simpa [Act.eval] using h1
    have houN : ∀ t, outerN ops need i t = true → a'.tmps[t]?.getD undef = a.tmps[t]?.getD undef := fun t ht => by
      have h1 := hold t fun j hj => by
        have hjl : j < ops.size := by
          unfold dstAt at hj
          cases ho : ops[j]? with
          | none => simp [ho] at hj
          | some o' => exact (Array.getElem?_eq_some_iff.1 ho).1
        have h2 := List.all_eq_true.1 ht j (List.mem_range.2 hjl)
        rw [hj] at h2
        have h3 : (need j).contains i = true := by simpa using h2
        cases hEj : E j with
        | false => rfl
        | true =>
          have := (hv j hjl hEj).2 i (by simpa using h3)
          rw [hE] at this
          cases this
      simpa [Act.eval] using h1
    have hin' : ∀ j, (j == i || E j) = true → j < ops.size := by
      intro j hj
      by_cases hji : j = i
      · rw [hji]; exact hilt
      · exact hin j (by simpa [hji] using hj)
    rw [hruns]
    have next : ∀ x, (vs (updV vm i x) i = x) → ∀ j, j < ops.size → (j == i || E j) = true → (if j = i then x else val j) = vs (updV vm i x) j ∧ ∀ m ∈ need j, (m == i || E m) = true := by
      intro x hx j hj hEj
      by_cases hji : j = i
      · subst hji
        exact ⟨by rw [if_pos rfl, hx], fun m hm => by rw [hneed m hm]; simp⟩
      · have hEj' : E j = true := by simpa [hji] using hEj
        obtain ⟨h1, h2⟩ := hv j hj hEj'
        exact ⟨by rw [if_neg hji, h1, stab hj hE hEj' h2], fun m hm => by rw [h2 m hm]; simp⟩
    have hinsi := InsL.get ins hilt
    have hjnsi := JL.get jns hilt
    rw [Nat.zero_add] at hinsi hjnsi
    unfold EffOpN at hop
    unfold InsOp at hinsi
    split at hop
    · rename_i hci
      rw [if_pos hci] at hinsi
      obtain ⟨hr, hop⟩ := hop E vm hE (fun j hj hEj => (hv j hj hEj).2) hneed
      rw [if_pos hr]
      obtain ⟨T, ds⟩ := a'
      exact hop T ds w _ hJ hkn houN fun x w' hJ' => ⟨x, rfl, _, hJ', next x (by rw [hinsi, updV_same]), hin'⟩
    · rename_i hci
      rw [if_neg hci] at hinsi
      have hJi := hjnsi (by simpa using hci)
      have hop := hop E vm hneed
      have hself : ∀ x, vs (updV vm i x) i = vs vm i := fun x => hinsi _ _ fun m hm => by
        have hmi : m ≠ i := by rintro rfl; have := hneed m hm; rw [hE] at this; cases this
        simp [updV, hmi]
      split
      · rename_i hr
        rw [if_pos hr] at hop
        obtain ⟨T, ds⟩ := a'
        refine hop T ds w _ hJ hkn hou fun w' hJ' => ⟨_, rfl, updV vm i (vs vm i), ?_, next _ (hself _), hin'⟩
        show J (updE E i) _ w'
        rw [hJi]; exact hJ'
      · rename_i hr
        rw [if_neg hr] at hop
        refine ⟨updV vm i undef, ?_, ?_, hin'⟩
        · show J (updE E i) _ w
          rw [hJi]; exact hJ
        · exact next undef (by rw [hself, hop])
  · rintro E val w hall ⟨vm, hJ, hv, hin⟩
    rw [putAll_congr (val' := vs vm) _ _ _ (fun j _ h2 => (hv j (by simpa using h2) (hall j (by simpa using h2))).1)]
    exact fin E vm w (fun m hm => hall m (by simpa using List.all_eq_true.1 hlt m hm)) hJ
end
end Go.Hp
end EngReg8
section EngReg9
namespace Go.Hp
open Go.RowKit
set_option linter.unusedVariables false
set_option linter.unusedSimpArgs false

section
variable {P : Program} {w : World}
theorem run_copy_recs {dT sT ty elem : TypeId} {g o dLen dCap sLen sCap size : Nat} {sp : Option Addr} {cur : Array Value} {t : TypeId} {cs : List Value} {n : Nat}
    (hu : P.underlying dT = some (.slice elem)) (hs : sizeT P elem = some size) (hg : w.heap[g]? = some (.cells cur t (0, 0))) (hn : n = Nat.min sLen dLen) (hl : cs.length = n * size)
    (hsp : 0 < cs.length → ∃ a, sp = some a ∧ ∀ j v, cs[j]? = some v → w.cell? (a.add j) = some v) (hfit : o + cs.length ≤ cur.size) (h1 : ∀ v ∈ cs, v.oneCell' = true) :
    (0 < cs.length ∧ (Builtin.copy_ #[dT, sT] ty #[.slice (some ⟨g, o, none⟩) dLen dCap, .slice sp sLen sCap]).run P w = .ok (goInt n) (w.setRow g (cur.toList.take o ++ cs ++ cur.toList.drop (o + cs.length)).toArray)) ∨
    (cs = [] ∧ (Builtin.copy_ #[dT, sT] ty #[.slice (some ⟨g, o, none⟩) dLen dCap, .slice sp sLen sCap]).run P w = .ok (goInt n) w) := by
  rcases Nat.eq_zero_or_pos cs.length with h0 | h0
  · right
    obtain rfl : cs = [] := List.eq_nil_of_length_eq_zero h0
    refine ⟨rfl, ?_⟩
    have hz : n * size = 0 := by simpa using hl.symm
    cases sp with
    | none => simp [Builtin.copy_, run_underlying hu, Builtin.lenOf, Builtin.firstCells, run_sizeOf hs, ← hn, storeCells]
    | some a => simp [Builtin.copy_, run_underlying hu, Builtin.lenOf, Builtin.firstCells, run_sizeOf hs, ← hn, hz, loadCells, loadCellsFrom, storeCells]
  · left
    refine ⟨h0, ?_⟩
    obtain ⟨a, rfl, hsr⟩ := hsp h0
    have hld := run_loadCells_list (P := P) w a cs hsr
    have hst := run_storeCells_at P g o t cs 0 cur w hg (by simpa using hfit) h1
    rw [hl] at hld
    simp [Builtin.copy_, run_underlying hu, Builtin.lenOf, Builtin.firstCells, run_sizeOf hs, ← hn, hld, hst]
end

section
variable {P : Program} {ops : Array Oper} {Q : Exit → Act → World → Prop} {a : Act} {w : World} {rest : List Oper} {o : Oper} {w0 : World} {L : List HProp}

/-- copy of records into a block. -/
theorem st_copyR (hw : Region.wanted o (yielded ops a.tmps) = true) (d s : Operand) (dT sT : TypeId) (ho : o.op = .call { callee := .builtin .copy, args := #[d, s], argTypes := #[dT, sT] })
    (elem : TypeId) (hu : P.underlying dT = some (.slice elem)) (size : Nat) (hsz : sizeT P elem = some size)
    (g off dLen dCap sLen sCap : Nat) (sp : Option Addr) (hd : a.eval d = .slice (some ⟨g, off, none⟩) dLen dCap) (hs : a.eval s = .slice sp sLen sCap)
    (vs : List Value) (n : Nat) (hn : n = Nat.min sLen dLen) (hvl : vs.length = n * size) (hsrc : 0 < vs.length → ∃ ad, sp = some ad ∧ ∀ j v, vs[j]? = some v → w.cell? (ad.add j) = some v) (h1 : ∀ v ∈ vs, v.oneCell' = true)
    (H : At w0 L w) (i : Nat) {c : List Value} {t : TypeId} (hL : L[i]? = some (Blk g (.cells c.toArray t (0, 0)))) (hc : off + vs.length ≤ c.length)
    (h : ∀ w', At w0 (L.set i (Blk g (.cells (splice c off vs).toArray t (0, 0)))) w' → ∀ K : Act → World → Prop, (∀ a w, wpList P ops Q rest a w → K a w) → K (a.put o.dst (goInt n)) w') :
    wpList P ops Q (o :: rest) a w := by
  rcases run_copy_recs (P := P) (ty := o.type) (dT := dT) (sT := sT) (dLen := dLen) (dCap := dCap) (sCap := sCap) hu hsz (H.get i hL) hn hvl hsrc (by simpa using hc) h1 with ⟨h0, hrun⟩ | ⟨h0, hrun⟩
  · refine st_value hw (v := goInt n) (w' := w.setRow g (splice c off vs).toArray) ?_ (h _ ?_ _ fun _ _ h => h)
    · simp [execOp, ho, resolve, invoke, builtin, hd, hs, hrun, splice]
    · exact H.setAt i hL fun h => h.setRow0
  · subst h0
    have e : L.set i (Blk g (.cells (splice c off []).toArray t (0, 0))) = L := by
      have e2 : splice c off [] = c := by simp [splice]
      rw [e2]
      apply List.ext_getElem?
      intro j
      rw [List.getElem?_set]
      split
      · rename_i h
        subst h
        rw [if_pos (List.getElem?_eq_some_iff.1 hL).1, hL]
      · rfl
    refine st_value hw (v := goInt n) (w' := w) ?_ (h _ (by rw [e]; exact H) _ fun _ _ h => h)
    simp [execOp, ho, resolve, invoke, builtin, hd, hs, hrun]
end

theorem madeCells_recs (z : List Value) (hz : 0 < z.length) : ∀ n, madeCells z.toArray (n * z.length) = (List.replicate n z).flatten.toArray := by
  intro n
  apply Array.ext'
  simp only [madeCells, Array.toList_map, Array.toList_range]
  induction n with
  | zero => simp
  | succ n ih =>
    rw [List.replicate_succ', List.flatten_append, ← ih, Nat.add_mul, Nat.one_mul, List.range_add, List.map_append]
    congr 1
    rw [List.map_map, List.flatten_cons, List.flatten_nil, List.append_nil]
    apply List.ext_getElem?
    intro i
    rw [List.getElem?_map]
    by_cases hi : i < z.length
    · rw [List.getElem?_range hi, List.getElem?_eq_getElem hi]
      have e : (n * z.length + i) % z.length = i := by rw [Nat.mul_add_mod', Nat.mod_eq_of_lt hi]
      simp [e, hi]
    · rw [List.getElem?_eq_none (by simpa using Nat.le_of_not_lt hi), List.getElem?_eq_none (Nat.le_of_not_lt hi)]
      rfl

/-- Records, then marks, then zero records. -/
def fillR (A : List Value) (mk : Nat → List Value) (z : List Value) (k m : Nat) : List Value := A ++ (((List.range k).map mk).flatten ++ (List.replicate (m - k) z).flatten)

theorem flat_len {l : List (List Value)} {size : Nat} (h : ∀ r ∈ l, r.length = size) : l.flatten.length = l.length * size := by
  induction l with
  | nil => simp
  | cons r l ih =>
    rw [List.flatten_cons, List.length_append, ih (fun r hr => h r (by simp [hr])), h r (by simp), List.length_cons, Nat.add_mul]
    omega

theorem len_marks {mk : Nat → List Value} {size : Nat} (h : ∀ i, (mk i).length = size) (k : Nat) : ((List.range k).map mk).flatten.length = k * size := by
  rw [flat_len (size := size)]
  · simp
  · intro r hr
    obtain ⟨i, _, rfl⟩ := List.mem_map.1 hr
    exact h i

theorem len_zeros {z : List Value} {size : Nat} (h : z.length = size) (k : Nat) : (List.replicate k z).flatten.length = k * size := by
  rw [flat_len (size := size)]
  · simp
  · intro r hr
    rw [(List.mem_replicate.1 hr).2, h]

theorem fillR_set {A : List Value} {mk : Nat → List Value} {z : List Value} {n k m size off : Nat} (hA : A.length = n * size) (hmk : ∀ i, (mk i).length = size) (hz : z.length = size) (h : k < m) (ho : off = (n + k) * size) :
    (fillR A mk z k m).take off ++ mk k ++ (fillR A mk z k m).drop (off + size) = fillR A mk z (k + 1) m := by
  have hm : m - k = (m - (k + 1)) + 1 := by omega
  have hM : (A ++ ((List.range k).map mk).flatten).length = off := by
    rw [List.length_append, hA, len_marks hmk, ho, Nat.add_mul]
  unfold fillR
  rw [hm, List.replicate_succ, List.flatten_cons, ← List.append_assoc, List.take_left' hM, ← List.append_assoc, List.drop_left' (by rw [List.length_append, hM, hz]), List.range_succ, List.map_append, List.flatten_append]
  simp [List.append_assoc]

theorem fillR_len {A : List Value} {mk : Nat → List Value} {z : List Value} {n k m size : Nat} (hA : A.length = n * size) (hmk : ∀ i, (mk i).length = size) (hz : z.length = size) (h : k ≤ m) : (fillR A mk z k m).length = (n + m) * size := by
  unfold fillR
  rw [List.length_append, List.length_append, hA, len_marks hmk, len_zeros hz, ← Nat.add_mul, ← Nat.add_mul]
  congr 1
  omega

section
variable {P : Program} {o : Oper} {Tm : Array Value} {ds : List Deferred} {w w0 : World} {K : Act → World → Prop} {Q : Exit → Act → World → Prop} {T : TypeId} {t u : Tmp}
/-- s[:k], in a drawn region. -/
theorem op_sliceT {e : TypeId} {g n cap k size : Nat} (ho : o.op = .slice T (.tmp t) none (some (.tmp u)) none) (hx : Tm[t]?.getD undef = .slice (some ⟨g, 0, none⟩) n cap) (hy : Tm[u]?.getD undef = .int .i64 k) (hT : P.underlying T = some (.slice e)) (hs : sizeT P e = some size) (hk : k ≤ cap)
    (h : K (Act.put ⟨Tm, ds⟩ o.dst (.slice (some ⟨g, 0, none⟩) k cap)) w) : o.wp P ⟨Tm, ds⟩ w K Q := by
  have hx' : Act.eval ⟨Tm, ds⟩ (.tmp t) = .slice (some ⟨g, 0, none⟩) n cap := by simpa [Act.eval] using hx
  have hy' : Act.eval ⟨Tm, ds⟩ (.tmp u) = .int .i64 k := by simpa [Act.eval] using hy
  have hb : ∀ code, (Instr.sliceBound (.int .i64 (k : Int)) cap code).run P w = .ok k w := fun code => by
    rw [run_sliceBound (w := w) (k := .i64) (i := (k : Int)) (y := cap) (code := code) (by omega) (by omega)]
    rfl
  refine op_value (v := .slice (some ⟨g, 0, none⟩) k cap) (w' := w) ?_ h
  simp [execOp, ho, hx', hy', Instr.sliceAt, Instr.slice, run_underlying hT, Instr.sliceBounds, run_sizeOf hs, hb, Addr.add]
end
end Go.Hp
end EngReg9
section EngShape
namespace Go.Hp
open Go.RowKit Go.ChangeShapes Go.Deep
set_option linter.unusedVariables false
set_option linter.unusedSimpArgs false

def I64 (n : Int) : Prop := -9223372036854775808 ≤ n ∧ n ≤ 9223372036854775807

def Ck.fitsR : Ck → Value → Prop
  | .bool, v => ∃ b, v = .bool b
  | .int k, v => ∃ n, v = .int k n ∧ (k = .i64 → I64 n)
  | .str, v => ∃ s, v = .string s

def FitsR : List Ck → List Value → Prop
  | [], [] => True
  | k :: ks, v :: vs => k.fitsR v ∧ FitsR ks vs
  | _, _ => False

theorem FitsR.fits : ∀ {ks : List Ck} {vs : List Value}, FitsR ks vs → Fits ks vs
  | [], [], _ => trivial
  | k :: ks, v :: vs, h => by
    refine ⟨?_, FitsR.fits h.2⟩
    cases k with
    | bool => exact h.1
    | str => exact h.1
    | int k => obtain ⟨n, e, _⟩ := h.1; exact ⟨n, e⟩
  | [], _ :: _, h => h.elim
  | _ :: _, [], h => h.elim

inductive Sh where
  | ck (k : Ck)
  | bytes
  | recs (ks : List Ck) (b : Nat)

def ShOne (W : World) (B : Nat) : Sh → Value → Prop
  | .ck k, v => k.fitsR v
  | .bytes, v => ∃ l : List UInt8, RowAt W v l.length (bv l) ∧ l.length ≤ B
  | .recs ks b, v => ∃ rs : List (List Value), RecsAt W v ks.length rs ∧ (∀ r ∈ rs, FitsR ks r) ∧ rs.length * b ≤ B

def ShFits (W : World) (B : Nat) : List Sh → List Value → Prop
  | [], [] => True
  | s :: ss, v :: vs => ShOne W B s v ∧ ShFits W B ss vs
  | _, _ => False

theorem ShFits.len {W : World} {B : Nat} : ∀ {ss : List Sh} {vs : List Value}, ShFits W B ss vs → vs.length = ss.length
  | [], [], _ => rfl
  | _ :: _, _ :: _, h => by simp [ShFits.len h.2]
  | [], _ :: _, h => h.elim
  | _ :: _, [], h => h.elim

theorem ShFits.app {W : World} {B : Nat} : ∀ {ss ts : List Sh} {vs us : List Value}, ShFits W B ss vs → ShFits W B ts us → ShFits W B (ss ++ ts) (vs ++ us)
  | [], _, [], _, _, h => h
  | _ :: _, _, _ :: _, _, h, h2 => ⟨h.1, ShFits.app h.2 h2⟩
  | [], _, _ :: _, _, h, _ => h.elim
  | _ :: _, _, [], _, h, _ => h.elim

def cks : List Sh → Option (List Ck)
  | [] => some []
  | .ck k :: ss => (cks ss).map (k :: ·)
  | _ :: _ => none

theorem cks_fits {W : World} {B : Nat} : ∀ {ss : List Sh} {ks : List Ck} {vs : List Value}, cks ss = some ks → ShFits W B ss vs → FitsR ks vs
  | [], ks, [], h, _ => by simp only [cks, Option.some.injEq] at h; subst h; trivial
  | .ck k :: ss, ks, v :: vs, h, hf => by
    simp only [cks, Option.map_eq_some_iff] at h
    obtain ⟨ls, h1, rfl⟩ := h
    exact ⟨hf.1, cks_fits h1 hf.2⟩
  | .bytes :: ss, _, _, h, _ => by simp [cks] at h
  | .recs _ _ :: ss, _, _, h, _ => by simp [cks] at h
  | [], _, _ :: _, _, h => h.elim
  | .ck _ :: _, _, [], _, h => h.elim

def shF (P : Program) (rec_ : TypeId → Option (List Sh)) : List Field → Nat → Option (List Sh)
  | [], _ => some []
  | f :: fs, o =>
    if f.offset = o then
      match rec_ f.type with
      | some ks => if P.cellsOf f.type = ks.length then (shF P rec_ fs (o + ks.length)).map (ks ++ ·) else none
      | none => none
    else none

def isU8 (P : Program) (e : TypeId) : Bool := match P.underlying e with | some (.int .u8) => P.cellsOf e == 1 && P.bytesOf e == 1 | _ => false

def shT (P : Program) : Nat → TypeId → Option (List Sh)
  | 0, _ => none
  | d + 1, t => match P.underlying t with
    | some .bool => some [.ck .bool]
    | some (.int k) => some [.ck (.int k)]
    | some .string => some [.ck .str]
    | some (.slice e) => if isU8 P e = true then some [.bytes] else
      match (shT P d e).bind cks with
      | some ks => if P.cellsOf e = ks.length ∧ 0 < ks.length then some [.recs ks (P.bytesOf e)] else none
      | none => none
    | some (.struct fs) => match shF P (shT P d) fs.toList 0 with
      | some ls => if P.cellsOf t = ls.length then some ls else none
      | none => none
    | _ => none

variable {H : Type} {enc : TypeId × Value → H} {P : Program} {W : World} {B : Nat}

theorem each_weights : ∀ {ts : List TypeId} {ds : List (DataW H)}, (DataW.weightsEach P ts ds).all (· ≤ B) = true → ∀ (i : Nat) (t : TypeId) (d : DataW H), ts[i]? = some t → ds[i]? = some d → (d.weights P t).all (· ≤ B) = true
  | [], _, _, i, t, d, ht, _ => by simp at ht
  | t :: ts, [], _, i, t', d, ht, hd => by simp at hd
  | t :: ts, d :: ds, h, 0, t', d', ht, hd => by
    simp only [DataW.weightsEach, List.all_append, Bool.and_eq_true] at h
    simp at ht hd
    subst ht hd
    exact h.1
  | t :: ts, d :: ds, h, i + 1, t', d', ht, hd => by
    simp only [DataW.weightsEach, List.all_append, Bool.and_eq_true] at h
    exact each_weights h.2 i t' d' (by simpa using ht) (by simpa using hd)

theorem all_weights : ∀ {e : TypeId} {l : List (DataW H)}, (DataW.weightsAll P e l).all (· ≤ B) = true → ∀ d ∈ l, (d.weights P e).all (· ≤ B) = true
  | _, [], _, _, h => by simp at h
  | e, d :: l, hB, d', h => by
    simp only [DataW.weightsAll, List.all_append, Bool.and_eq_true] at hB
    rcases List.mem_cons.1 h with rfl | h
    · exact hB.1
    · exact all_weights hB.2 d' h

theorem flatten_back {size : Nat} : ∀ {rs : List (List Value)}, (∀ r ∈ rs, r.length = size) → ∀ {j : Nat} {u : Value}, rs.flatten[j]? = some u → ∃ i r k, rs[i]? = some r ∧ j = i * size + k ∧ r[k]? = some u
  | [], _, j, u, h => by simp at h
  | r :: rs, hl, j, u, h => by
    have hr := hl r (by simp)
    rw [List.flatten_cons] at h
    by_cases hj : j < r.length
    · rw [List.getElem?_append_left hj] at h
      exact ⟨0, r, j, rfl, by simp, h⟩
    · rw [List.getElem?_append_right (by omega)] at h
      obtain ⟨i, r', k, h1, h2, h3⟩ := flatten_back (fun r hr => hl r (by simp [hr])) h
      refine ⟨i + 1, r', k, by simpa using h1, ?_, h3⟩
      rw [Nat.add_mul]
      omega

theorem shF_fits {rec_ : TypeId → Option (List Sh)} {cs : List Value} : ∀ {fs : List Field} {o : Nat} {ls : List Sh}, shF P rec_ fs o = some ls → cs.length = o + ls.length →
    (∀ (i : Nat) (f : Field) (ks : List Sh), fs[i]? = some f → rec_ f.type = some ks → ShFits W B ks ((cs.drop f.offset).take (P.cellsOf f.type))) → ShFits W B ls (cs.drop o)
  | [], o, ls, h, hl, _ => by
    simp only [shF, Option.some.injEq] at h
    subst h
    rw [List.drop_eq_nil_of_le (by simp at hl; omega)]
    trivial
  | f :: fs, o, ls, h, hl, hx => by
    unfold shF at h
    split at h
    · rename_i ho
      split at h
      · rename_i ks hks
        split at h
        · rename_i hc
          rw [Option.map_eq_some_iff] at h
          obtain ⟨ls', h1, rfl⟩ := h
          have h0 := hx 0 f ks rfl hks
          rw [hc, ho] at h0
          have hr := shF_fits (cs := cs) h1 (by rw [List.length_append] at hl; omega) (fun i f' ks' hi hk => hx (i + 1) f' ks' (by simpa using hi) hk)
          have e : cs.drop o = (cs.drop o).take ks.length ++ cs.drop (o + ks.length) := by
            rw [← List.drop_drop, List.take_append_drop]
          rw [e]
          exact h0.app hr
        · cases h
      · cases h
    · cases h

theorem sh_trod : ∀ (d : Nat) (t : TypeId) (ss : List Sh), shT P d t = some ss → ∀ (fuel : Nat) (cs : List Value) (x : DataW H × List MemPlace), DataW.trod enc P W 0 (fun _ => true) true fuel t cs = some x → (x.1.weights P t).all (· ≤ B) = true → ShFits W B ss cs
  | 0, _, _, h => by simp [shT] at h
  | d + 1, t, ss, h => by
    intro fuel cs x hx hw
    unfold shT at h
    split at h
    · rename_i hu
      cases h
      obtain ⟨b, rfl, _⟩ := DataW.trod_bool hu hx
      exact ⟨⟨b, rfl⟩, trivial⟩
    · rename_i k hu
      cases h
      obtain ⟨n, rfl, _, hwf⟩ := DataW.trod_int hu hx
      refine ⟨⟨n, rfl, fun hk => ?_⟩, trivial⟩
      subst hk
      simp only [Lit.wf, Bool.and_eq_true, decide_eq_true_eq] at hwf
      have h1 := hwf.1
      have h2 := hwf.2
      have e1 : IntKind.i64.min = -9223372036854775808 := rfl
      have e2 : IntKind.i64.max = 9223372036854775807 := rfl
      rw [e1] at h1
      rw [e2] at h2
      exact ⟨h1, h2⟩
    · rename_i hu
      cases h
      obtain ⟨s, rfl, _⟩ := DataW.trod_string hu hx
      exact ⟨⟨s, rfl⟩, trivial⟩
    · rename_i e hu
      split at h
      · rename_i h8
        cases h
        have h8' : P.underlying e = some (.int .u8) ∧ P.cellsOf e = 1 ∧ P.bytesOf e = 1 := by
          unfold isU8 at h8
          split at h8
          · rename_i h9
            simp at h8
            exact ⟨h9, h8⟩
          · cases h8
        obtain ⟨l, v, rfl, hb, hl⟩ := bytes_of_trod hu h8'.1 h8'.2.1 h8'.2.2 hx
        refine ⟨⟨l, ?_, hl _ hw⟩, trivial⟩
        rcases hb with ⟨rfl, rfl⟩ | ⟨a, cap, rfl, g1, g2, g3⟩
        · exact ⟨none, 0, rfl, Nat.le_refl _, by simp [maxLen], fun h => absurd h (Nat.lt_irrefl _), fun b hb => by cases hb⟩
        · exact ⟨some a, cap, rfl, g1, g2, fun _ => ⟨a, rfl⟩, fun b hb j u hj => by cases hb; exact g3 j u hj⟩
      · split at h
        · rename_i ks hks
          split at h
          · rename_i hc
            cases h
            rw [Option.bind_eq_some_iff] at hks
            obtain ⟨se, hse, hck⟩ := hks
            rcases open_slice hu hx with ⟨rfl, rfl⟩ | ⟨a, len, cap, m, n, D, Pl, rfl, _, hle, hm, hmm, rfl, hxx⟩
            · exact ⟨⟨[], ⟨⟨none, 0, rfl, Nat.le_refl _, by simp [maxLen], fun h => absurd h (Nat.lt_irrefl _), fun b hb => by cases hb⟩, fun r hr => absurd hr List.not_mem_nil⟩, fun r hr => absurd hr List.not_mem_nil, by simp⟩, trivial⟩
            · refine ⟨?_, trivial⟩
              simp only [if_true] at hmm
              subst hmm
              simp only [DataW.weights, hu, List.all_cons, List.all_append, Bool.and_eq_true, decide_eq_true_eq] at hw
              have key : ∀ i, i < len → ∃ cs' : List Value, FitsR ks cs' ∧ cs'.length = ks.length ∧ ∀ (j : Nat) (u : Value), cs'[j]? = some u → W.cell? ((a.add (i * ks.length)).add j) = some u := by
                intro i hi
                obtain ⟨cs', h1, h2⟩ := hxx i (by omega)
                have hfit := sh_trod d _ _ hse _ _ _ h2 (all_weights hw.2.1 (D i) (List.mem_map.2 ⟨i, List.mem_range.2 hi, rfl⟩))
                rw [hc.1] at h1
                obtain ⟨hl1, _, hcell⟩ := World.cells?_some h1
                have hfr := cks_fits hck hfit
                refine ⟨cs', hfr, hfr.fits.len, fun j u hj => ?_⟩
                have hjl := (List.getElem?_eq_some_iff.1 hj).1
                have := hcell j (by rw [← hfr.fits.len]; exact hjl)
                rw [this, hj]
              obtain ⟨V, hV⟩ := choose_lt key
              have hlen : ∀ r ∈ (List.range len).map V, r.length = ks.length := by
                intro r hr
                obtain ⟨i, hi, rfl⟩ := List.mem_map.1 hr
                exact (hV i (List.mem_range.1 hi)).2.1
              refine ⟨(List.range len).map V, ⟨⟨some a, m, by simp, by simpa using hle, hm, fun _ => ⟨a, rfl⟩, fun b hb j u hj => ?_⟩, hlen⟩, fun r hr => ?_, ?_⟩
              · cases hb
                obtain ⟨i, r, k, h1, rfl, h3⟩ := flatten_back hlen hj
                have hil : i < len := by
                  have := (List.getElem?_eq_some_iff.1 h1).1
                  simpa using this
                simp [hil] at h1
                subst h1
                have := (hV i hil).2.2 k u h3
                rwa [Addr.add_add] at this
              · obtain ⟨i, hi, rfl⟩ := List.mem_map.1 hr
                exact (hV i (List.mem_range.1 hi)).1
              · have := hw.1
                simp at this ⊢
                refine Nat.le_trans (Nat.mul_le_mul_right _ ?_) this
                omega
          · cases h
        · cases h
    · rename_i fs hu
      split at h
      · rename_i ls hls
        split at h
        · rename_i hc
          cases h
          obtain ⟨xs, n, rfl, rfl, hl, hxl, hxx⟩ := DataW.trod_struct hu hx
          have := shF_fits (W := W) (B := B) (cs := cs) hls (by rw [hl, hc]; omega) (fun i f ks hi hk => ?_)
          · simpa using this
          · have hfi : fs[i]? = some f := by simpa using hi
            have h1 := hxx i f hfi
            obtain ⟨y, hy⟩ : ∃ y, xs[i]? = some y := ⟨_, List.getElem?_eq_getElem (by rw [hxl]; exact (Array.getElem?_eq_some_iff.1 hfi).1)⟩
            rw [hy] at h1
            refine sh_trod d _ _ hk _ _ _ h1 ?_
            simp only [DataW.weights, hu] at hw
            exact each_weights hw i f.type y.1 (by simp [hfi]) (by simp [hy])
        · cases h
      · cases h
    · cases h
end Go.Hp
end EngShape
section EngCore
namespace Go.Hp
open Go.RowKit

/-- What is read in one is read in the other. -/
def Sub (w w' : World) : Prop := ∀ a v, w.cell? a = some v → w'.cell? a = some v

theorem Sub.refl (w : World) : Sub w w := fun _ _ h => h
theorem Sub.trans {a b c : World} (h : Sub a b) (g : Sub b c) : Sub a c := fun x v e => g x v (h x v e)
theorem Ext.sub {w w' : World} (h : Ext w w') : Sub w w' := fun _ _ e => h.cell e

theorem RowAt.sub {w w' : World} {v : Value} {n : Nat} {xs : List Value} (h : RowAt w v n xs) (he : Sub w w') : RowAt w' v n xs := by
  obtain ⟨ad, cap, h1, h2, h3, h4, h5⟩ := h
  exact ⟨ad, cap, h1, h2, h3, h4, fun b hb j u hj => he _ _ (h5 b hb j u hj)⟩
theorem RecsAt.sub {w w' : World} {v : Value} {size : Nat} {rs : List (List Value)} (h : RecsAt w v size rs) (he : Sub w w') : RecsAt w' v size rs := ⟨h.1.sub he, h.2⟩

/-- The resource Q stands for the world wc: what is read in wc is read wherever Q is; and what the part P says is there. -/
def Core (P Q : HProp) (wc : World) : Prop := (∀ (w0 w : World) (L : List HProp), At w0 (Q :: L) w → Sub wc w ∧ At w0 (P :: L) w) ∧ At wc [P] wc

theorem core_mk {w0 w : World} {L : List HProp} {P : HProp} (H : At w0 (P :: L) w) : ∃ Q wc, Core P Q wc ∧ At w0 (Q :: L) w := by
  obtain ⟨h1, h2, h3, x, hs, a, b, hd, rfl, hP, hb⟩ := H
  have ha : ∀ k o, a k = some o → w.heap[k]? = some o := fun k o e => hs k o ((uni_some hd).2 (.inl e))
  refine ⟨fun h => h = a, { w with heap := (Array.range w.heap.size).map fun k => (a k).getD (.map #[] 0) }, ⟨fun w1 w2 M HM => ⟨?_, ?_⟩, ?_⟩, h1, h2, h3, _, hs, a, b, hd, rfl, rfl, hb⟩
  · obtain ⟨_, _, _, y, ht, a2, b2, hd2, rfl, e2, hb2⟩ := HM
    have e2 : a2 = a := e2
    subst e2
    intro p v hv
    have hlt := World.block_lt_of_cell? _ _ hv
    simp only [Array.size_map, Array.size_range] at hlt
    have hg : ((Array.range w.heap.size).map fun k => (a2 k).getD (.map #[] 0))[p.block]? = some ((a2 p.block).getD (.map #[] 0)) := by simp [hlt]
    cases hap : a2 p.block with
    | none =>
      rw [hap] at hg
      exfalso
      simp only [Option.getD_none] at hg
      unfold World.cell? at hv
      simp only [hg] at hv
      cases hv
    | some o =>
      rw [hap] at hg
      simp only [Option.getD_some] at hg
      have h4 := ht p.block o ((uni_some hd2).2 (.inl hap))
      unfold World.cell? at hv ⊢
      simp only [hg] at hv
      rw [h4]
      exact hv
  · obtain ⟨c1, c2, c3, y, ht, a2, b2, hd2, rfl, e2, hb2⟩ := HM
    have e2 : a2 = a := e2
    subst e2
    exact ⟨c1, c2, c3, _, ht, a2, b2, hd2, rfl, hP, hb2⟩
  · refine ⟨rfl, rfl, rfl, a, fun k o e => ?_, a, fun _ => none, disj_empty _ (fun _ => rfl), (uni_empty _ (fun _ => rfl)).symm, hP, fun _ => rfl⟩
    have hlt := (Array.getElem?_eq_some_iff.1 (ha k o e)).1
    simp [hlt, e]

theorem Core.sub {P Q : HProp} {wc w0 w : World} {L : List HProp} (h : Core P Q wc) (H : At w0 (Q :: L) w) : Sub wc w := (h.1 _ _ _ H).1
theorem Core.open {P Q : HProp} {wc w0 w : World} {L : List HProp} (h : Core P Q wc) (H : At w0 (Q :: L) w) : At w0 (P :: L) w := (h.1 _ _ _ H).2
theorem Core.self {P Q : HProp} {wc : World} (h : Core P Q wc) : At wc [P] wc := h.2
end Go.Hp
end EngCore
section EngOwnSt
namespace Go.Hp
open Go.RowKit

section
variable {P : Program} {ops : Array Oper} {Q : Exit → Act → World → Prop} {a : Act} {w : World} {rest : List Oper} {o : Oper} {w0 : World} {L : List HProp}

theorem add_off {g i : Nat} : (⟨g, 0, none⟩ : Addr).add i = ⟨g, i, none⟩ := by rw [Addr.add_lit, Nat.zero_add]

theorem take_patch {α : Type} (l v : List α) (off m : Nat) (h : off + v.length ≤ m) (hm : m ≤ l.length) : (l.take off ++ v ++ l.drop (off + v.length)).take m = (l.take m).take off ++ v ++ (l.take m).drop (off + v.length) := by
  have hA : (l.take off ++ v).length = off + v.length := by simp; omega
  rw [List.take_append, List.take_of_length_le (by omega), hA, List.take_take, Nat.min_eq_left (by omega), List.drop_take]

/-- A cell of a row of the call's own is written. -/
theorem st_ownStore (hw : Region.wanted o (yielded ops a.tmps) = true) (T : TypeId) (x y : Operand) (ho : o.op = .store T x y) {e : TypeId} {size n cap : Nat} {b : Addr} {xs : List Value} (i : Nat) (hx : a.eval x = .pointer (some (b.add i)))
    (u : Value) (hy : a.eval y = u) (hu : u.oneCell' = true) (hn : sizeT P T = some 1) (H : At w0 (OwnRow e size (.slice (some b) n cap) n xs :: L) w) (hi : i < xs.length)
    (h : ∀ w', At w0 (OwnRow e size (.slice (some b) n cap) n (xs.set i u) :: L) w' → ∀ K : Act → World → Prop, (∀ a w, wpList P ops Q rest a w → K a w) → K (a.put o.dst undef) w') : wpList P ops Q (o :: rest) a w := by
  rcases own_cases H with ⟨h0, _⟩ | ⟨g, cap', cur, hv, r2, r3, r4, r5, r6, H2⟩
  · cases h0
  · cases hv
    have hcl : i < cur.size := by
      rw [← r6] at hi
      simp at hi
      omega
    refine st_store hw T x y ho g i (by rw [hx, add_off]) u hy hu hn H2 0 rfl hcl ?_
    intro w' H3 K hK
    refine h w' ?_ K hK
    refine own_mk H3 r2 r3 (by simpa using r4) (by simpa using r5) ?_
    rw [Array.toList_setIfInBounds, List.take_set, r6]

/-- The cells of a record of a row of the call's own are written. -/
theorem st_ownPut (hw : Region.wanted o (yielded ops a.tmps) = true) (T : TypeId) (x y : Operand) (ho : o.op = .store T x y) {e : TypeId} {size n cap : Nat} {b : Addr} {xs : List Value} (off : Nat) (hx : a.eval x = .pointer (some (b.add off)))
    (vs : Array Value) (hy : a.eval y = .agg vs) (hv : ∀ v ∈ vs.toList, v.oneCell' = true) (hn : sizeT P T = some vs.size) (H : At w0 (OwnRow e size (.slice (some b) n cap) n xs :: L) w) (hi : off + vs.size ≤ xs.length)
    (h : ∀ w', At w0 (OwnRow e size (.slice (some b) n cap) n (xs.take off ++ vs.toList ++ xs.drop (off + vs.size)) :: L) w' → ∀ K : Act → World → Prop, (∀ a w, wpList P ops Q rest a w → K a w) → K (a.put o.dst undef) w') : wpList P ops Q (o :: rest) a w := by
  rcases own_cases H with ⟨h0, _⟩ | ⟨g, cap', cur, hv', r2, r3, r4, r5, r6, H2⟩
  · cases h0
  · cases hv'
    have hxl : xs.length ≤ cur.size := by rw [← r6]; simp; omega
    refine st_stores hw T x y ho g off (by rw [hx, add_off]) vs hy hv hn H2 0 rfl (by omega) ?_
    intro w' H3 K hK
    refine h w' ?_ K hK
    refine own_mk H3 r2 r3 ?_ ?_ ?_
    · simp only [List.size_toArray, List.length_append, List.length_take, List.length_drop, Array.length_toList]
      omega
    · simp only [List.length_append, List.length_take, List.length_drop, Array.length_toList]
      omega
    · rw [← r5]
      have hm2 : xs.length ≤ cur.toList.length := by simpa using hxl
      have hk : vs.size = vs.toList.length := by simp
      rw [hk] at hi ⊢
      rw [take_patch _ _ _ _ hi hm2, r5, r6]
end

/-- A record of a row is changed: its cells. -/
theorem flatten_set {size : Nat} : ∀ {rs : List (List Value)} {i : Nat} {r : List Value}, (∀ r ∈ rs, r.length = size) → i < rs.length → r.length = size → rs.flatten.take (i * size) ++ r ++ rs.flatten.drop (i * size + size) = (rs.set i r).flatten
  | [], i, r, _, h, _ => by simp at h
  | r0 :: rs, 0, r, ha, _, hr => by
    have h0 := ha r0 (by simp)
    simp only [Nat.zero_mul, List.take_zero, List.nil_append, Nat.zero_add, List.flatten_cons, List.set_cons_zero]
    rw [List.drop_left' h0]
  | r0 :: rs, i + 1, r, ha, hi, hr => by
    have h0 := ha r0 (by simp)
    have ih := flatten_set (rs := rs) (i := i) (fun r hr => ha r (by simp [hr])) (by simpa using hi) hr
    simp only [List.flatten_cons, List.set_cons_succ]
    rw [← ih]
    have e1 : (i + 1) * size = r0.length + i * size := by rw [Nat.add_mul, h0]; omega
    rw [e1, List.take_append, List.drop_append]
    have e2 : List.take (r0.length + i * size) r0 = r0 := List.take_of_length_le (by omega)
    have e3 : List.drop (r0.length + i * size + size) r0 = [] := List.drop_eq_nil_of_le (by omega)
    have e4 : r0.length + i * size - r0.length = i * size := by omega
    have e5 : r0.length + i * size + size - r0.length = i * size + size := by omega
    rw [e2, e3, e4, e5]
    simp
end Go.Hp
end EngOwnSt
