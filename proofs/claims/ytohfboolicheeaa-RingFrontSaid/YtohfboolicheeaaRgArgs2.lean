/-
  What further arguments of the ring's statements read as: rows of strings.
-/
import Derived.Test.YtohfboolicheeaaRgArgs
namespace Go.Proofs.Ytohfboolicheeaa
open Go.Hp Go.RowKit Go.ChangeShapes Go.Deep
set_option linter.unusedVariables false
set_option linter.unusedSimpArgs false
set_option maxRecDepth 100000
set_option maxHeartbeats 1000000
namespace Rg
variable {H : Type} {enc : TypeId × Value → H} {W : World}

theorem strs_trod {e t : TypeId} (hu : Try.prog.underlying t = some (.slice e)) (he : Try.prog.underlying e = some .string) (hc : Try.prog.cellsOf e = 1) {B fuel : Nat} {v : Value} {x : DataW H × List MemPlace} (hx : DataW.trod enc Try.prog W 0 (fun _ => true) true fuel t [v] = some x) (hw : (x.1.weights Try.prog t).all (· ≤ B) = true) :
    ∃ l : List ByteArray, RecsAt W v 1 (l.map strC) ∧ (∀ s ∈ l, s.size ≤ maxLen) ∧ l.length * Try.prog.bytesOf e ≤ B := by
  rcases open_slice hu hx with ⟨he, hd⟩ | ⟨a, len, cap, m, n, D, Pl, he2, _, hle, hm, hmm, hd, hxx⟩
  · cases he
    exact ⟨[], ⟨⟨none, 0, rfl, Nat.le_refl _, by simp [maxLen], fun h => absurd h (Nat.lt_irrefl _), fun b hb => by cases hb⟩, fun r hr => absurd hr List.not_mem_nil⟩, fun r hr => absurd hr List.not_mem_nil, by simp⟩
  · cases he2
    subst hd
    simp only [if_true] at hmm
    subst hmm
    simp only [DataW.weights, hu, List.all_cons, List.all_append, Bool.and_eq_true, decide_eq_true_eq] at hw
    have key : ∀ i, i < len → ∃ s : ByteArray, s.size ≤ maxLen ∧ W.cell? (a.add i) = some (.string s) := by
      intro i hi
      obtain ⟨cs', h1, h2⟩ := hxx i (by omega)
      obtain ⟨s, rfl, _, hs⟩ := DataW.trod_string he h2
      rw [hc] at h1
      obtain ⟨hl1, _, hcell⟩ := World.cells?_some h1
      refine ⟨s, hs, ?_⟩
      have := hcell 0 (by decide)
      rw [Nat.mul_one, Addr.add_add, Nat.add_zero] at this
      simpa using this
    obtain ⟨V, hV⟩ := choose_lt key
    have hlen : ∀ r ∈ ((List.range len).map V).map strC, r.length = 1 := by
      intro r hr
      obtain ⟨s, _, rfl⟩ := List.mem_map.1 hr
      rfl
    refine ⟨(List.range len).map V, ⟨⟨some a, m, by simp, by simpa using hle, hm, fun _ => ⟨a, rfl⟩, fun b hb j u hj => ?_⟩, hlen⟩, fun r hr => ?_, ?_⟩
    · cases hb
      obtain ⟨i, r, k, h1, rfl, h3⟩ := flatten_back hlen hj
      have hil : i < len := by
        have := (List.getElem?_eq_some_iff.1 h1).1
        simpa using this
      simp [hil] at h1
      subst h1
      match k, h3 with
      | 0, h3 =>
        have e : u = .string (V i) := by simpa [strC] using h3.symm
        subst e
        rw [Nat.mul_one, Nat.add_zero]
        exact (hV i hil).2
    · obtain ⟨i, hi, rfl⟩ := List.mem_map.1 hr
      exact (hV i (List.mem_range.1 hi)).1
    · have := hw.1
      simp at this ⊢
      refine Nat.le_trans (Nat.mul_le_mul_right _ ?_) this
      omega

/-- A row of strings, handed in. -/
def StrsArg (W : World) (v : Value) (l : List ByteArray) : Prop := RecsAt W v 1 (l.map strC) ∧ ∀ s ∈ l, s.size ≤ maxLen
theorem arg_strs {base : Nat} {v : Value} {d : DataW H} {p : List MemPlace} (hv : Value.okWide Try.prog W .any base 64 v) (h : DataW.Trod enc Try.prog W 0 (fun _ => true) true 64 v d p) (hw : ((d.weights Try.prog 64).all (· ≤ reachBytes)) = true) :
    ∃ l, StrsArg W v l := by
  obtain ⟨sa, sl, sc, rfl⟩ := Go.WideShapes.okWide_slice Try.underlying64 hv
  obtain ⟨fuel, hf⟩ := h
  obtain ⟨l, h1, h2, h3⟩ := strs_trod (B := reachBytes) Try.underlying64 Try.underlying9 (by kernel_rfl) hf hw
  exact ⟨l, h1, h2⟩
theorem recs_str {w : World} {row : List ByteArray} {b : Addr} {cap : Nat} (hr : RecsAt w (.slice (some b) row.length cap) 1 (row.map strC)) {k : Nat} {s : ByteArray} (hk : row[k]? = some s) : w.cell? (b.add k) = some (.string s) := by
  have := recs_get hr hk 0 _ rfl
  rwa [Addr.add_add, Nat.mul_one, Nat.add_zero] at this
end Rg
end Go.Proofs.Ytohfboolicheeaa
