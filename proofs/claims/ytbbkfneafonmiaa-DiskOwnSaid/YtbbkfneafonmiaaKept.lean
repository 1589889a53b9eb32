/-
  A list of blocks that slices lie in, each apart: one is taken out, written, laid back. Whatever the program.
-/
import Derived.Test.YtbbkfneafonmiaaArr
namespace Go.Hp
open Go.RowKit

structure Kp where
  g : Nat
  t : TypeId
  len : Nat
  cap : Nat
  c : List Value

def Kp.v (k : Kp) : Value := .slice (some ⟨k.g, 0, none⟩) k.len k.cap
def Kp.at_ (k : Kp) : HProp := Blk k.g (.cells k.c.toArray k.t (0, 0))
def KRows (ks : List Kp) : HProp := Stars (ks.map Kp.at_)

section
variable {w0 w : World} {L M : List HProp} {ks : List Kp} {k k' : Kp} {i : Nat} {A : HProp}

theorem At.fold1 (H : At w0 (A :: (M ++ L)) w) : At w0 (A :: Stars M :: L) w := by
  have h1 : At w0 (M ++ (A :: L)) w := H.perm List.perm_middle.symm
  exact (At.fold h1).perm (List.Perm.swap _ _ _)

theorem At.flat1 (H : At w0 (A :: Stars M :: L) w) : At w0 (A :: (M ++ L)) w := by
  have h1 : At w0 (Stars M :: A :: L) w := H.perm (List.Perm.swap _ _ _)
  exact (At.flat h1).perm List.perm_middle

theorem rows_focus (H : At w0 (KRows ks :: L) w) (h : ks[i]? = some k) : At w0 (k.at_ :: Stars ((ks.map Kp.at_).eraseIdx i) :: L) w := by
  have h1 : At w0 (ks.map Kp.at_ ++ L) w := At.flat H
  have h2 : (ks.map Kp.at_ ++ L)[i]? = some k.at_ := by
    have hi := (List.getElem?_eq_some_iff.1 h).1
    rw [List.getElem?_append_left (by simpa using hi), List.getElem?_map, h]
    rfl
  have hi := (List.getElem?_eq_some_iff.1 h).1
  have h3 := h1.pick i h2
  rw [List.eraseIdx_append_of_lt_length (by simpa using hi)] at h3
  exact h3.fold1

theorem rows_unfocus (hi : i < ks.length) (H : At w0 (k'.at_ :: Stars ((ks.map Kp.at_).eraseIdx i) :: L) w) : At w0 (KRows (ks.set i k') :: L) w := by
  have h1 := H.flat1
  have h2 : (ks.map Kp.at_).eraseIdx i = ((ks.set i k').map Kp.at_).eraseIdx i := by rw [List.map_set, List.eraseIdx_set_eq]
  have h3 : ((ks.set i k').map Kp.at_)[i]? = some k'.at_ := by simp [hi]
  rw [h2] at h1
  have h4 := perm_pick ((ks.set i k').map Kp.at_) i h3
  have h5 : At w0 ((ks.set i k').map Kp.at_ ++ L) w := h1.perm (by
    have := (h4.symm).append_right L
    simpa using this)
  exact At.fold h5

theorem rows_snoc (H : At w0 (k.at_ :: KRows ks :: L) w) : At w0 (KRows (ks ++ [k]) :: L) w := by
  have h1 : At w0 (k.at_ :: (ks.map Kp.at_ ++ L)) w := H.flat1
  have h2 : At w0 ((ks ++ [k]).map Kp.at_ ++ L) w := h1.perm (by
    rw [List.map_append, List.append_assoc]
    exact List.perm_middle.symm)
  exact At.fold h2

theorem rows_nil (H : At w0 L w) : At w0 (KRows [] :: L) w := At.fold (M := []) H
end
end Go.Hp
