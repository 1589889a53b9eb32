/-
  Stores into a row that the call owns: one cell, or the cells of a record. Whatever the program.
-/
import Derived.Test.YtjobojgmadjmfaaEng
namespace Go.Hp
open Go.RowKit

section
variable {P : Program} {ops : Array Oper} {Q : Exit → Act → World → Prop} {a : Act} {w : World} {rest : List Oper} {o : Oper} {w0 : World} {L : List HProp}

theorem add_off {g i : Nat} : (⟨g, 0, none⟩ : Addr).add i = ⟨g, i, none⟩ := by rw [Addr.add_lit, Nat.zero_add]

theorem take_patch {α : Type} (l v : List α) (off m : Nat) (h : off + v.length ≤ m) (hm : m ≤ l.length) : (l.take off ++ v ++ l.drop (off + v.length)).take m = (l.take m).take off ++ v ++ (l.take m).drop (off + v.length) := by
  have hA : (l.take off ++ v).length = off + v.length := by simp; omega
  rw [List.take_append, List.take_of_length_le (by omega), hA, List.take_take, Nat.min_eq_left (by omega), List.drop_take]

/-- A cell of a row of the call's own is written. -/
theorem st_ownStore (hw : Region.wanted o (yielded ops a.tmps) = true) (T : TypeId) (x y : Operand) (ho : o.op = .store T x y) {e : TypeId} {size n cap : Nat} {b : Addr} {xs : List Value} (i : Nat) (hx : a.eval x = .pointer (some (b.add i)))
    (u : Value) (hy : a.eval y = u) (hu : u.oneCell' = true) (hn : sizeT P T = some 1) (H : At w0 (OwnRow e size (.slice (some b) n cap) n xs :: L) w) (hi : i < xs.length)
    (h : ∀ w', At w0 (OwnRow e size (.slice (some b) n cap) n (xs.set i u) :: L) w' → ∀ K : Act → World → Prop, (∀ a w, wpList P ops Q rest a w → K a w) → K (a.put o.dst undef) w') : wpList P ops Q (o :: rest) a w := by
  rcases own_cases H with ⟨h0, _⟩ | ⟨g, cap', cur, hv, r2, r3, r4, r5, r6, H2⟩
  · cases h0
  · cases hv
    have hcl : i < cur.size := by
      rw [← r6] at hi
      simp at hi
      omega
    refine st_store hw T x y ho g i (by rw [hx, add_off]) u hy hu hn H2 0 rfl hcl ?_
    intro w' H3 K hK
    refine h w' ?_ K hK
    refine own_mk H3 r2 r3 (by simpa using r4) (by simpa using r5) ?_
    rw [Array.toList_setIfInBounds, List.take_set, r6]

/-- The cells of a record of a row of the call's own are written. -/
theorem st_ownPut (hw : Region.wanted o (yielded ops a.tmps) = true) (T : TypeId) (x y : Operand) (ho : o.op = .store T x y) {e : TypeId} {size n cap : Nat} {b : Addr} {xs : List Value} (off : Nat) (hx : a.eval x = .pointer (some (b.add off)))
    (vs : Array Value) (hy : a.eval y = .agg vs) (hv : ∀ v ∈ vs.toList, v.oneCell' = true) (hn : sizeT P T = some vs.size) (H : At w0 (OwnRow e size (.slice (some b) n cap) n xs :: L) w) (hi : off + vs.size ≤ xs.length)
    (h : ∀ w', At w0 (OwnRow e size (.slice (some b) n cap) n (xs.take off ++ vs.toList ++ xs.drop (off + vs.size)) :: L) w' → ∀ K : Act → World → Prop, (∀ a w, wpList P ops Q rest a w → K a w) → K (a.put o.dst undef) w') : wpList P ops Q (o :: rest) a w := by
  rcases own_cases H with ⟨h0, _⟩ | ⟨g, cap', cur, hv', r2, r3, r4, r5, r6, H2⟩
  · cases h0
  · cases hv'
    have hxl : xs.length ≤ cur.size := by rw [← r6]; simp; omega
    refine st_stores hw T x y ho g off (by rw [hx, add_off]) vs hy hv hn H2 0 rfl (by omega) ?_
    intro w' H3 K hK
    refine h w' ?_ K hK
    refine own_mk H3 r2 r3 ?_ ?_ ?_
    · simp only [List.size_toArray, List.length_append, List.length_take, List.length_drop, Array.length_toList]
      omega
    · simp only [List.length_append, List.length_take, List.length_drop, Array.length_toList]
      omega
    · rw [← r5]
      have hm2 : xs.length ≤ cur.toList.length := by simpa using hxl
      have hk : vs.size = vs.toList.length := by simp
      rw [hk] at hi ⊢
      rw [take_patch _ _ _ _ hi hm2, r5, r6]
end

/-- A record of a row is changed: its cells. -/
theorem flatten_set {size : Nat} : ∀ {rs : List (List Value)} {i : Nat} {r : List Value}, (∀ r ∈ rs, r.length = size) → i < rs.length → r.length = size → rs.flatten.take (i * size) ++ r ++ rs.flatten.drop (i * size + size) = (rs.set i r).flatten
  | [], i, r, _, h, _ => by simp at h
  | r0 :: rs, 0, r, ha, _, hr => by
    have h0 := ha r0 (by simp)
    simp only [Nat.zero_mul, List.take_zero, List.nil_append, Nat.zero_add, List.flatten_cons, List.set_cons_zero]
    rw [List.drop_left' h0]
  | r0 :: rs, i + 1, r, ha, hi, hr => by
    have h0 := ha r0 (by simp)
    have ih := flatten_set (rs := rs) (i := i) (fun r hr => ha r (by simp [hr])) (by simpa using hi) hr
    simp only [List.flatten_cons, List.set_cons_succ]
    rw [← ih]
    have e1 : (i + 1) * size = r0.length + i * size := by rw [Nat.add_mul, h0]; omega
    rw [e1, List.take_append, List.drop_append]
    have e2 : List.take (r0.length + i * size) r0 = r0 := List.take_of_length_le (by omega)
    have e3 : List.drop (r0.length + i * size + size) r0 = [] := List.drop_eq_nil_of_le (by omega)
    have e4 : r0.length + i * size - r0.length = i * size := by omega
    have e5 : r0.length + i * size + size - r0.length = i * size + size := by omega
    rw [e2, e3, e4, e5]
    simp
end Go.Hp
