/-
  Laid, as a function of the data: it keeps what `may` asks.
-/
import Derived.Test.YtjobojgmadjmfaaMdLaidD
namespace Go.Proofs.Ytjobojgmadjmfaa
open Go.Hp Go.RowKit
set_option linter.unusedVariables false
set_option linter.unusedSimpArgs false
namespace Md

theorem rising_iff (l : List Pl) : Rising l ↔ l.Pairwise (fun a b => a.n < b.n) := by
  rw [List.pairwise_iff_getElem]
  constructor
  · intro h i j hi hj hij
    exact h i j _ _ hij (List.getElem?_eq_getElem hi) (List.getElem?_eq_getElem hj)
  · intro h i j p q hij hp hq
    obtain ⟨hi, rfl⟩ := List.getElem?_eq_some_iff.1 hp
    obtain ⟨hj, rfl⟩ := List.getElem?_eq_some_iff.1 hq
    exact h i j hi hj hij

theorem may_len {h : Hd} (hm : May h) : h.row.length ≤ 1048576 := by
  rcases Nat.eq_zero_or_pos h.row.length with e | hp
  · omega
  · obtain ⟨p, hp2⟩ : ∃ p, h.row[h.row.length - 1]? = some p := ⟨_, List.getElem?_eq_getElem (by omega)⟩
    have h1 := rising_ge hm.rise hm.lo _ p hp2
    have h2 := hm.hi p (List.mem_of_getElem? hp2)
    have := hm.u0
    omega

/-- A place put into a rising row. -/
def ins (p : Pl) : List Pl → List Pl
  | [] => [p]
  | x :: r => if p.n ≤ x.n then (if x.n = p.n then p :: r else p :: x :: r) else x :: ins p r

theorem fold_true (u : Int) (p : Pl) : ∀ (l acc : List Pl), l.foldl (laidStep u p) (true, acc) = (true, acc ++ l.filter (fun x => decide (u < x.n)))
  | [], acc => by simp
  | x :: l, acc => by
    rw [List.foldl_cons]
    have e : laidStep u p (true, acc) x = (true, acc ++ if u < x.n then [x] else []) := by
      unfold laidStep
      by_cases hx : u < x.n <;> simp [hx]
    rw [e, fold_true u p l]
    by_cases hx : u < x.n <;> simp [hx]

theorem filter_all {u : Int} {l : List Pl} (h : ∀ x ∈ l, u < x.n) : l.filter (fun x => decide (u < x.n)) = l := by
  rw [List.filter_eq_self]
  intro x hx
  simpa using h x hx

theorem fold_false (u : Int) (p : Pl) : ∀ (l acc : List Pl), (∀ x ∈ l, u < x.n) → (if (l.foldl (laidStep u p) (false, acc)).1 = true then (l.foldl (laidStep u p) (false, acc)).2 else (l.foldl (laidStep u p) (false, acc)).2 ++ [p]) = acc ++ ins p l
  | [], acc, _ => by simp [ins]
  | x :: l, acc, h => by
    have hx := h x (by simp)
    have hl : ∀ y ∈ l, u < y.n := fun y hy => h y (by simp [hy])
    rw [List.foldl_cons]
    by_cases h1 : p.n ≤ x.n
    · by_cases h2 : x.n = p.n
      · have e : laidStep u p (false, acc) x = (true, acc ++ [p]) := by unfold laidStep; simp [h1, h2]
        rw [e, fold_true, filter_all hl]
        simp [ins, h1, h2]
      · have e : laidStep u p (false, acc) x = (true, acc ++ [p] ++ [x]) := by unfold laidStep; simp [h1, h2, hx]
        rw [e, fold_true, filter_all hl]
        simp [ins, h1, h2]
    · have e : laidStep u p (false, acc) x = (false, acc ++ [x]) := by unfold laidStep; simp [h1, hx]
      rw [e, fold_false u p l _ hl]
      simp [ins, h1]

theorem laidRow_bucket (u : Int) (p : Pl) (l : List Pl) : laidRow u p true l = l.filter (fun x => decide (u < x.n)) := by
  unfold laidRow
  rw [fold_true]
  simp

theorem laidRow_inst {u : Int} {p : Pl} {l : List Pl} (h : ∀ x ∈ l, u < x.n) : laidRow u p false l = ins p l := by
  have := fold_false u p l [] h
  simpa [laidRow] using this

theorem ins_mem {p y : Pl} : ∀ {l : List Pl}, y ∈ ins p l → y = p ∨ y ∈ l
  | [], h => by simp [ins] at h; exact .inl h
  | x :: l, h => by
    unfold ins at h
    split at h
    · split at h
      · rcases List.mem_cons.1 h with h | h
        · exact .inl h
        · exact .inr (by simp [h])
      · rcases List.mem_cons.1 h with h | h
        · exact .inl h
        · exact .inr h
    · rcases List.mem_cons.1 h with h | h
      · exact .inr (by simp [h])
      · rcases ins_mem h with h | h
        · exact .inl h
        · exact .inr (by simp [h])

theorem ins_rising {p : Pl} : ∀ {l : List Pl}, l.Pairwise (fun a b => a.n < b.n) → (ins p l).Pairwise (fun a b => a.n < b.n)
  | [], _ => by simp [ins]
  | x :: l, h => by
    obtain ⟨h1, h2⟩ := List.pairwise_cons.1 h
    unfold ins
    split
    · rename_i hle
      split
      · rename_i heq
        exact List.pairwise_cons.2 ⟨fun y hy => by have := h1 y hy; omega, h2⟩
      · rename_i hne
        refine List.pairwise_cons.2 ⟨fun y hy => ?_, h⟩
        rcases List.mem_cons.1 hy with rfl | hy
        · omega
        · have := h1 y hy; omega
    · rename_i hnle
      refine List.pairwise_cons.2 ⟨fun y hy => ?_, ins_rising h2⟩
      rcases ins_mem hy with rfl | hy
      · omega
      · exact h1 y hy

theorem laid_may {h : Hd} {c : Lc} (hm : May h) (h2 : c.kk = 2 → 0 < c.upto ∧ c.upto ≤ 1048576) (h3 : c.kk ≠ 1 → c.kk ≠ 2 → h.upto < c.kb ∧ c.kb ≤ 1048576 ∧ (c.dec = true → c.cmd.cells ≠ zc)) : May (laidS h c) := by
  unfold laidS
  split
  · exact ⟨hm.u0, hm.u1, hm.rise, hm.lo, hm.hi, hm.z, hm.kind⟩
  · rename_i k1
    split
    · rename_i k2
      obtain ⟨q1, q2⟩ := h2 k2
      have hsub : ∀ p ∈ laidRow c.upto c.pl true h.row, p ∈ h.row ∧ c.upto < p.n := fun p hp => by
        rw [laidRow_bucket] at hp
        have := List.mem_filter.1 hp
        exact ⟨this.1, by simpa using this.2⟩
      refine ⟨by show 0 ≤ c.upto; omega, q2, ?_, fun p hp => (hsub p hp).2, fun p hp => hm.hi p (hsub p hp).1, fun hz => ?_, fun p hp => hm.kind p (hsub p hp).1⟩
      · show Rising (laidRow c.upto c.pl true h.row)
        rw [laidRow_bucket, rising_iff]
        exact ((rising_iff _).1 hm.rise).sublist List.filter_sublist
      · have hz : c.upto = 0 := hz
        omega
    · rename_i k2
      obtain ⟨q1, q2, q3⟩ := h3 k1 k2
      have e : laidRow h.upto c.pl false h.row = ins c.pl h.row := laidRow_inst hm.lo
      have hsub : ∀ p ∈ laidRow h.upto c.pl false h.row, p = c.pl ∨ p ∈ h.row := fun p hp => by rw [e] at hp; exact ins_mem hp
      refine ⟨hm.u0, hm.u1, ?_, fun p hp => ?_, fun p hp => ?_, hm.z, fun p hp => ?_⟩
      · show Rising (laidRow h.upto c.pl false h.row)
        rw [e, rising_iff]
        exact ins_rising ((rising_iff _).1 hm.rise)
      · rcases hsub p hp with rfl | hp
        · exact q1
        · exact hm.lo p hp
      · rcases hsub p hp with rfl | hp
        · exact q2
        · exact hm.hi p hp
      · rcases hsub p hp with rfl | hp
        · exact q3
        · exact hm.kind p hp
end Md
end Go.Proofs.Ytjobojgmadjmfaa
