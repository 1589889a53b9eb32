/-
  Slices of records: what they read as, cell by cell; what a call leaves that only reads what was there. Whatever the program.
-/
import Derived.Test.YtbbkfneafonmiaaArr
namespace Go.Hp
open Go.RowKit

/-- What stood before stands. -/
def Ext (w w' : World) : Prop := w.heap.size ≤ w'.heap.size ∧ ∀ k, k < w.heap.size → w'.heap[k]? = w.heap[k]?

theorem Ext.refl (w : World) : Ext w w := ⟨Nat.le_refl _, fun _ _ => rfl⟩
theorem Ext.trans {a b c : World} (h : Ext a b) (g : Ext b c) : Ext a c := ⟨Nat.le_trans h.1 g.1, fun k hk => (g.2 k (Nat.lt_of_lt_of_le hk h.1)).trans (h.2 k hk)⟩
theorem Ext.cell {w w' : World} (h : Ext w w') {a : Addr} {v : Value} (hc : w.cell? a = some v) : w'.cell? a = some v := by
  have hlt := World.block_lt_of_cell? w _ hc
  rw [World.cell?_of_block (h.2 _ hlt)]
  exact hc
theorem At.ext {W w : World} {L : List HProp} {w0 : World} (H : At w0 L w) (i : Nat) (h : L[i]? = some (Arg W)) : Ext W w := ⟨H.size i h, fun _ hk => H.old i h hk⟩

/-- A slice whose cells are xs, n elements of so many cells each. -/
def RowAt (w : World) (v : Value) (n : Nat) (xs : List Value) : Prop :=
  ∃ ad cap, v = .slice ad n cap ∧ n ≤ cap ∧ cap ≤ maxLen ∧ (0 < n → ∃ b, ad = some b) ∧ ∀ b, ad = some b → ∀ j u, xs[j]? = some u → w.cell? (b.add j) = some u

/-- A slice of records: each so many cells long. -/
def RecsAt (w : World) (v : Value) (size : Nat) (rs : List (List Value)) : Prop := RowAt w v rs.length rs.flatten ∧ ∀ r ∈ rs, r.length = size

section
variable {w w' : World} {v : Value} {n size : Nat} {xs : List Value} {rs : List (List Value)}

theorem RowAt.ext (h : RowAt w v n xs) (he : Ext w w') : RowAt w' v n xs := by
  obtain ⟨ad, cap, h1, h2, h3, h4, h5⟩ := h
  exact ⟨ad, cap, h1, h2, h3, h4, fun b hb j u hj => he.cell (h5 b hb j u hj)⟩

theorem RecsAt.ext (h : RecsAt w v size rs) (he : Ext w w') : RecsAt w' v size rs := ⟨h.1.ext he, h.2⟩

theorem flatten_get : ∀ {rs : List (List Value)} {i : Nat} {r : List Value} {j : Nat}, (∀ r ∈ rs, r.length = size) → rs[i]? = some r → j < size → rs.flatten[i * size + j]? = r[j]?
  | [], i, _, _, _, h, _ => by simp at h
  | r0 :: rs, 0, r, j, ha, h, hj => by
    simp at h
    subst h
    have := ha r0 (by simp)
    rw [List.flatten_cons, Nat.zero_mul, Nat.zero_add, List.getElem?_append_left (by omega)]
  | r0 :: rs, i + 1, r, j, ha, h, hj => by
    have h0 := ha r0 (by simp)
    have := flatten_get (rs := rs) (i := i) (r := r) (j := j) (fun r hr => ha r (by simp [hr])) (by simpa using h) hj
    rw [List.flatten_cons, List.getElem?_append_right (by rw [h0, Nat.add_mul]; omega), h0, ← this]
    congr 1
    rw [Nat.add_mul]; omega

/-- A cell of a record. -/
theorem RecsAt.cell (h : RecsAt w v size rs) {b : Addr} {cap : Nat} (hv : v = .slice (some b) rs.length cap) {i : Nat} {r : List Value} (hi : rs[i]? = some r) {j : Nat} {u : Value} (hj : r[j]? = some u) : w.cell? (b.add (i * size + j)) = some u := by
  obtain ⟨⟨ad, cap2, h1, h2, h3, h4, h5⟩, hs⟩ := h
  rw [hv] at h1
  cases h1
  have hr := hs r (List.mem_of_getElem? hi)
  have hjl := (List.getElem?_eq_some_iff.1 hj).1
  refine h5 b rfl _ u ?_
  rw [flatten_get hs hi (by omega), hj]

theorem RecsAt.value (h : RecsAt w v size rs) : ∃ ad cap, v = .slice ad rs.length cap ∧ rs.length ≤ cap ∧ cap ≤ maxLen ∧ (0 < rs.length → ∃ b, ad = some b) := by
  obtain ⟨⟨ad, cap, h1, h2, h3, h4, _⟩, _⟩ := h
  exact ⟨ad, cap, h1, h2, h3, h4⟩

theorem RowAt.of_bytes {l : List UInt8} (h : BytesAt w v l) : RowAt w v l.length (bv l) := by
  obtain ⟨ad, cap, h1, h2, h3, h4⟩ := h.len
  refine ⟨ad, cap, h1, h2, h3, fun h0 => ?_, fun b hb j u hj => ?_⟩
  · obtain ⟨b, hb, _⟩ := h4 h0
    exact ⟨b, hb⟩
  · have hjl := (List.getElem?_eq_some_iff.1 hj).1
    obtain ⟨b', hb', h5⟩ := h4 (by simp at hjl; omega)
    rw [hb] at hb'
    cases hb'
    exact h5 j u hj
end

/-- What a call that reads what stood leaves: a world that holds R beside it. -/
theorem At.lift {w0 W w : World} {R L : List HProp} (H : At W (R ++ [Arg W]) w) (H0 : At w0 L W) : At w0 (R ++ L) w := by
  obtain ⟨a1, a2, a3, x, hs, hx⟩ := H
  obtain ⟨b1, b2, b3, y, ht, hy⟩ := H0
  obtain ⟨p, q, hd, rfl, hp, hq⟩ := (Stars_append _).1 hx
  obtain ⟨q1, q2, hd2, rfl, hq1, hq2⟩ := hq
  have hq1' : q1 = fun k => W.heap[k]? := hq1
  have hsub : ∀ k o, y k = some o → q1 k = some o := fun k o h => by rw [hq1']; exact ht k o h
  have hdy : disj p y := by
    intro k
    rcases hd k with h | h
    · exact .inl h
    · refine .inr ?_
      have h1 : q1 k = none := (uni_none.1 h).1
      cases hyk : y k with
      | none => rfl
      | some o => rw [hsub k o hyk] at h1; cases h1
  refine ⟨a1.trans b1, a2.trans b2, a3.trans b3, uni p y, fun k o e => ?_, (Stars_append _).2 ⟨p, y, hdy, rfl, hp, hy⟩⟩
  rcases (uni_some hdy).1 e with h | h
  · exact hs k o ((uni_some hd).2 (.inl h))
  · exact hs k o ((uni_some hd).2 (.inr ((uni_some hd2).2 (.inl (hsub k o h)))))

theorem At.lift0 {w0 W w : World} {L : List HProp} (H : At W [Arg W] w) (H0 : At w0 L W) : At w0 L w := At.lift (R := []) H H0
theorem At.lift1 {w0 W w : World} {R : HProp} {L : List HProp} (H : At W [R, Arg W] w) (H0 : At w0 L W) : At w0 (R :: L) w := At.lift (R := [R]) H H0
theorem At.ext0 {W w : World} {R : List HProp} (H : At W (R ++ [Arg W]) w) : Ext W w := H.ext R.length (by simp)

theorem At.refl (W : World) : At W [Arg W] W := At.of W
end Go.Hp
