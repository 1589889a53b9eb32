/-
  Rows turned: a number brought into a range, the cells of a row that is being turned.
-/
import Derived.Test.YtohfboolicheeaaRgUnl
namespace Go.Proofs.Ytohfboolicheeaa
open Go.Hp Go.RowKit
set_option linter.unusedVariables false
set_option linter.unusedSimpArgs false
set_option maxRecDepth 100000
set_option maxHeartbeats 1000000
namespace Rg
/-- A row of which the first i places are those of another. -/
def mixL (T S : List Int) (i : Nat) : List Int := T.take i ++ S.drop i
theorem mixL_len {T S : List Int} (h : T.length = S.length) {i : Nat} (hi : i ≤ S.length) : (mixL T S i).length = S.length := by
  unfold mixL
  rw [List.length_append, List.length_take, List.length_drop]
  omega
theorem mixL_set {T S : List Int} (h : T.length = S.length) {i : Nat} {t : Int} (ht : T[i]? = some t) : (mixL T S i).set i t = mixL T S (i + 1) := by
  have hi := (List.getElem?_eq_some_iff.1 ht).1
  unfold mixL
  rw [List.set_append_right _ _ (by rw [List.length_take]; omega), List.length_take, List.drop_eq_getElem_cons (by omega : i < S.length), show i - min i T.length = 0 by omega, List.set_cons_zero, List.take_add_one, ht, Option.toList_some, List.append_assoc]
  rfl
theorem mix_store {T S : List Int} (h : T.length = S.length) {i : Nat} {t : Int} (ht : T[i]? = some t) (m : Value) : (iCs (mixL T S i) ++ [m]).toArray.setIfInBounds i (.int .i64 t) = (iCs (mixL T S (i + 1)) ++ [m]).toArray := by
  have hi := (List.getElem?_eq_some_iff.1 ht).1
  rw [List.setIfInBounds_toArray, List.set_append_left _ _ (by rw [iCs_len, mixL_len h (by omega)]; omega), ← mixL_set h ht, iCs_map, iCs_map, List.map_set]
theorem rot_perm (S : List Int) (a : Nat) : (rot S a).Perm S := by
  unfold rot
  exact List.perm_append_comm.trans (by rw [List.take_append_drop])
theorem tmod_in (v n : Int) (hn : 0 < n) : (if v.tmod n < 0 then v.tmod n + n else v.tmod n) = v % n := by
  have h1 := Int.emod_nonneg v (show n ≠ 0 by omega)
  have h2 := Int.emod_lt_of_pos v hn
  have h3 := Int.tmod_eq_emod (a := v) (b := n)
  split at h3
  · rw [h3]; split <;> omega
  · rw [h3]
    have : (n.natAbs : Int) = n := by omega
    split <;> omega
theorem tmod_b (v n : Int) (hn : 0 < n) : -n < v.tmod n ∧ v.tmod n < n := by
  have h1 := Int.emod_nonneg v (show n ≠ 0 by omega)
  have h2 := Int.emod_lt_of_pos v hn
  have h3 := Int.tmod_eq_emod (a := v) (b := n)
  split at h3
  · omega
  · rename_i hd
    have : (n.natAbs : Int) = n := by omega
    have h4 : v % n ≠ 0 := fun h => hd (.inr (Int.dvd_of_emod_eq_zero h))
    omega
theorem rightC_perm {c : Cf} {S T : List Int} (h : RightC c S) (hp : T.Perm S) : RightC c T :=
  ⟨h.f, h.p, h.b, h.k, h.r, by rw [hp.length_eq]; exact h.n, fun x hx => h.s x (hp.mem_iff.1 hx), hp.nodup_iff.2 h.d⟩
theorem groups_front {pts : List Pt} (hs : PS pts) (h0 : 0 < pts.length) {n m j : Nat} {k : Ky} {x y : Int} (hx : (groupS pts n k)[j]? = some x) (hy : (groupS pts m k)[j]? = some y) : x = y := by
  rw [group_all hs h0] at hx hy
  have e1 := List.getElem?_eq_some_iff.1 hx
  have e2 := List.getElem?_eq_some_iff.1 hy
  obtain ⟨l1, e1⟩ := e1
  obtain ⟨l2, e2⟩ := e2
  rw [List.getElem_take] at e1 e2
  exact e1.symm.trans e2
section
variable {w0 w : World} {L : List HProp}
theorem turnIn (H : At w0 L w) (v n : Int) (hn : 0 < n) (hn2 : n ≤ 1000000000000000000) : Calls Try.prog 40 #[.int .i64 v, .int .i64 n] w (Ret w0 (.int .i64 (v % n)) L) := by
  have hb := tmod_b v n hn
  have hi := tmod_in v n hn
  have hn0 : ¬ n = 0 := by omega
  have hw1 : wrap64 (v.tmod n) = v.tmod n := wrap64_of (by omega) (by omega)
  by_cases hneg : v.tmod n < 0
  · rw [if_pos hneg] at hi
    have hw2 : wrap64 (v.tmod n + n) = v.tmod n + n := wrap64_of (by omega) (by omega)
    rw [← hi]
    have HI := Lib.hid hi
    clear hi
    go_enter Try.func40, Try.ntmps40
    go_wp2_with fail
    go_ret
    exact ⟨rfl, H⟩
  · rw [if_neg hneg] at hi
    rw [← hi]
    have HI := Lib.hid hi
    clear hi
    go_enter Try.func40, Try.ntmps40
    go_wp2_with fail
    go_ret
    exact ⟨rfl, H⟩
end
end Rg
end Go.Proofs.Ytohfboolicheeaa
