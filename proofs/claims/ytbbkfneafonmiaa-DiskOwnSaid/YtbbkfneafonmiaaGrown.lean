/-
  A slice that is kept is appended to while its first block is still looked at: in place, or into a block of its own. Whatever the program.
-/
import Derived.Test.YtbbkfneafonmiaaKept
namespace Go.Hp
open Go.RowKit

/-- What was kept, appended to: l has n elements that read as xs; the first block's first cells are as they were. -/
def Grown (e : TypeId) (k : Kp) (l : Value) (n : Nat) (xs : List Value) : HProp := fun h =>
  ∃ c : List Value, c.length = k.cap ∧ c.take k.len = k.c.take k.len ∧
    ((l = .slice (some ⟨k.g, 0, none⟩) n k.cap ∧ n ≤ k.cap ∧ k.cap ≤ maxLen ∧ k.len ≤ n ∧ c.take n = xs ∧ (k.t = e ∨ n = k.cap) ∧ Blk k.g (.cells c.toArray k.t (0, 0)) h) ∨
      Stars [OwnRow e 1 l n xs, Blk k.g (.cells c.toArray k.t (0, 0))] h)

section
variable {w0 w : World} {L M : List HProp} {e : TypeId} {k : Kp} {l : Value} {n : Nat} {xs : List Value} {A B : HProp} {i : Nat}

theorem stars_focus (H : At w0 (Stars M :: L) w) (h : M[i]? = some A) : At w0 (A :: Stars (M.eraseIdx i) :: L) w := by
  have h1 : At w0 (M ++ L) w := At.flat H
  have hi := (List.getElem?_eq_some_iff.1 h).1
  have h2 : (M ++ L)[i]? = some A := by rw [List.getElem?_append_left hi]; exact h
  have h3 := h1.pick i h2
  rw [List.eraseIdx_append_of_lt_length hi] at h3
  exact h3.fold1

theorem stars_unfocus (hi : i < M.length) (H : At w0 (B :: Stars (M.eraseIdx i) :: L) w) : At w0 (Stars (M.set i B) :: L) w := by
  have h1 := H.flat1
  have h2 : M.eraseIdx i = (M.set i B).eraseIdx i := by rw [List.eraseIdx_set_eq]
  have h3 : (M.set i B)[i]? = some B := by simp [hi]
  rw [h2] at h1
  have h4 := perm_pick (M.set i B) i h3
  have h5 : At w0 (M.set i B ++ L) w := h1.perm (by
    have := (h4.symm).append_right L
    simpa using this)
  exact At.fold h5

theorem grown_start (H : At w0 (k.at_ :: L) w) (hc : k.c.length = k.cap) (hle : k.len ≤ k.cap) (hr : k.cap ≤ maxLen) (ht : k.t = e ∨ k.len = k.cap) : At w0 (Grown e k k.v k.len (k.c.take k.len) :: L) w :=
  H.imp fun _ hh => ⟨k.c, hc, rfl, .inl ⟨rfl, hle, hr, Nat.le_refl _, rfl, ht, hh⟩⟩

theorem grown_cases (H : At w0 (Grown e k l n xs :: L) w) : ∃ c : List Value, c.length = k.cap ∧ c.take k.len = k.c.take k.len ∧
    ((l = .slice (some ⟨k.g, 0, none⟩) n k.cap ∧ n ≤ k.cap ∧ k.cap ≤ maxLen ∧ k.len ≤ n ∧ c.take n = xs ∧ (k.t = e ∨ n = k.cap) ∧ At w0 (Blk k.g (.cells c.toArray k.t (0, 0)) :: L) w) ∨
      At w0 (OwnRow e 1 l n xs :: Blk k.g (.cells c.toArray k.t (0, 0)) :: L) w) := by
  obtain ⟨c, H⟩ := At.ex H
  obtain ⟨h1, H⟩ := At.and H
  obtain ⟨h2, H⟩ := At.and H
  refine ⟨c, h1, h2, ?_⟩
  rcases At.or H with H | H
  · obtain ⟨a1, H⟩ := At.and H
    obtain ⟨a2, H⟩ := At.and H
    obtain ⟨a3, H⟩ := At.and H
    obtain ⟨a4, H⟩ := At.and H
    obtain ⟨a5, H⟩ := At.and H
    obtain ⟨a6, H⟩ := At.and H
    exact .inl ⟨a1, a2, a3, a4, a5, a6, H⟩
  · exact .inr (At.flat H)

theorem grown_in {c : List Value} (h1 : c.length = k.cap) (h2 : c.take k.len = k.c.take k.len) (h3 : n ≤ k.cap) (h4 : k.cap ≤ maxLen) (h5 : k.len ≤ n) (h6 : c.take n = xs) (h7 : k.t = e ∨ n = k.cap)
    (H : At w0 (Blk k.g (.cells c.toArray k.t (0, 0)) :: L) w) : At w0 (Grown e k (.slice (some ⟨k.g, 0, none⟩) n k.cap) n xs :: L) w :=
  H.imp fun _ hh => ⟨c, h1, h2, .inl ⟨rfl, h3, h4, h5, h6, h7, hh⟩⟩

theorem grown_out {c : List Value} (h1 : c.length = k.cap) (h2 : c.take k.len = k.c.take k.len)
    (H : At w0 (OwnRow e 1 l n xs :: Blk k.g (.cells c.toArray k.t (0, 0)) :: L) w) : At w0 (Grown e k l n xs :: L) w := by
  have H2 : At w0 (Stars [OwnRow e 1 l n xs, Blk k.g (.cells c.toArray k.t (0, 0))] :: L) w := At.fold (M := [_, _]) H
  exact H2.imp fun _ hh => ⟨c, h1, h2, .inr hh⟩

/-- What the slice reads, and what the first block. -/
theorem grown_reads (H : At w0 (Grown e k l n xs :: L) w) (h0 : 0 < n) : ∃ ad cap, l = .slice (some ad) n cap ∧ n ≤ cap ∧ cap ≤ maxLen ∧ (∀ j u, xs[j]? = some u → w.cell? (ad.add j) = some u) ∧
    (∀ j u, j < k.len → k.c[j]? = some u → w.cell? ((⟨k.g, 0, none⟩ : Addr).add j) = some u) := by
  obtain ⟨c, h1, h2, H⟩ := grown_cases H
  have hk : ∀ (L2 : List HProp), At w0 (Blk k.g (.cells c.toArray k.t (0, 0)) :: L2) w → (∀ j u, j < k.len → k.c[j]? = some u → w.cell? ((⟨k.g, 0, none⟩ : Addr).add j) = some u) := by
    intro L2 H2 j u hj hu
    rw [Addr.add_lit, Nat.zero_add, cell_of_row w k.g j c.toArray k.t _ H2.get0]
    have e1 : (c.take k.len)[j]? = (k.c.take k.len)[j]? := by rw [h2]
    rw [List.getElem?_take, List.getElem?_take, if_pos hj, if_pos hj, hu] at e1
    simpa using e1
  rcases H with ⟨rfl, a2, a3, a4, a5, a6, H⟩ | H
  · refine ⟨_, _, rfl, a2, a3, fun j u hu => ?_, hk _ H⟩
    rw [Addr.add_lit, Nat.zero_add, cell_of_row w k.g j c.toArray k.t _ H.get0]
    rw [← a5, List.getElem?_take] at hu
    split at hu
    · simpa using hu
    · cases hu
  · obtain ⟨ad, cap, rfl, b1, b2, b3, b4, b5⟩ := own_value H
    obtain ⟨b, rfl⟩ := b4 h0
    exact ⟨b, cap, rfl, b1, b2, b5 b rfl, hk _ (H.drop)⟩
end

section
variable {P : Program} {ops : Array Oper} {Q : Exit → Act → World → Prop} {a : Act} {w : World} {rest : List Oper} {o : Oper} {w0 : World} {L : List HProp}

/-- append of one element onto what was kept. -/
theorem st_grow (hw : Region.wanted o (yielded ops a.tmps) = true) (s x : Operand) (t : TypeId) (ho : o.op = .call { callee := .builtin .append, args := #[s, x], argTypes := #[t, t] })
    (e : TypeId) (ht : P.underlying t = some (.slice e)) (hsz : sizeT P e = some 1) (bytes : Nat) (hby : bytesT P e = some bytes) (z : Value) (hz : zeroT P e = some z) (hzs : z.cells.size = 1)
    (k : Kp) (v : Value) (n : Nat) (xs : List Value) (hs : a.eval s = v) (H : At w0 (Grown e k v n xs :: L) w)
    (ad : Addr) (c : Nat) (u : Value) (hx : a.eval x = .slice (some ad) 1 c) (hu : w.cell? ad = some u) (h1 : u.oneCell' = true) (h63 : n + 1 ≤ maxLen) (hbytes : (n + 1) * bytes ≤ 140737488355328)
    (h : ∀ v' w', At w0 (Grown e k v' (n + 1) (xs ++ [u]) :: L) w' → ∀ K : Act → World → Prop, (∀ a w, wpList P ops Q rest a w → K a w) → K (a.put o.dst v') w') : wpList P ops Q (o :: rest) a w := by
  have hnew : ∀ j y, [u][j]? = some y → w.cell? (ad.add j) = some y := by
    intro j y hj
    match j, hj with
    | 0, hj =>
      simp at hj
      subst hj
      rw [Addr.add_zero']
      exact hu
    | j + 1, hj => simp at hj
  have h1' : ∀ y ∈ [u], y.oneCell' = true := by intro y hy; simp at hy; subst hy; exact h1
  obtain ⟨cc, q1, q2, H⟩ := grown_cases H
  rcases H with ⟨rfl, a2, a3, a4, a5, a6, H⟩ | H
  · have hxl : xs.length = n := by rw [← a5, List.length_take]; omega
    by_cases hroom : n + 1 ≤ k.cap
    · have hke : k.t = e := by
        rcases a6 with h | h
        · exact h
        · omega
      unfold bytesT at hby
      cases hi : P.info? e with
      | none => simp [hi] at hby
      | some i =>
        have his : i.size = 1 := by simpa [sizeT, hi] using hsz
        have hg := H.get0
        rw [hke] at hg
        have hr := run_append_room (P := P) w t o.type e i ht hi k.g n k.cap cc.toArray hg ad 1 c [u] (by simp [his]) hnew h1' hroom (by simp [his, q1]; omega)
        refine st_value hw (v := .slice (some ⟨k.g, 0, none⟩) (n + 1) k.cap) (w' := w.setRow k.g (cc.toArray.toList.take (n * i.size) ++ [u] ++ cc.toArray.toList.drop (n * i.size + [u].length)).toArray) ?_ (h _ _ ?_ _ fun _ _ h => h)
        · simp [execOp, ho, resolve, invoke, builtin, hs, hx, hr]
        · have H2 := H.setRow0 (c' := (cc.toArray.toList.take (n * i.size) ++ [u] ++ cc.toArray.toList.drop (n * i.size + [u].length)).toArray)
          have e1 : (cc.toArray.toList.take (n * i.size) ++ [u] ++ cc.toArray.toList.drop (n * i.size + [u].length)) = xs ++ [u] ++ cc.drop (n + 1) := by
            simp only [his, Nat.mul_one, List.length_cons, List.length_nil, Nat.zero_add]
            rw [a5]
          rw [e1] at H2 ⊢
          refine grown_in ?_ ?_ hroom a3 (by omega) ?_ (.inl hke) H2
          · simp [hxl, q1]; omega
          · rw [← q2, List.append_assoc, List.take_append_of_le_length (by omega), ← a5, List.take_take, Nat.min_eq_left a4]
          · rw [List.take_left' (by simp [hxl])]
    · have hn : n = k.cap := by omega
      unfold bytesT at hby
      cases hi : P.info? e with
      | none => simp [hi] at hby
      | some i =>
        simp only [hi, Option.map_some, Option.some.injEq] at hby
        have his : i.size = 1 := by simpa [sizeT, hi] using hsz
        have hiz : i.zero = some z := by simpa [zeroT, hi] using hz
        subst hby
        have hsmall : n + 1 ≤ 9223372036854775807 := by have := h63; simp only [maxLen] at this; omega
        have holds : ∀ j y, xs[j]? = some y → w.cell? ((⟨k.g, 0, none⟩ : Addr).add j) = some y := by
          intro j y hy
          rw [Addr.add_lit, Nat.zero_add, cell_of_row w k.g j cc.toArray k.t _ H.get0]
          rw [← a5, List.getElem?_take] at hy
          split at hy
          · simpa using hy
          · cases hy
        have hr := run_append_grow (P := P) w t o.type e i z ht hi hiz ⟨k.g, 0, none⟩ n k.cap xs (by rw [his, Nat.mul_one]; exact hxl) holds ad 1 c [u] (by simp [his]) hnew (by omega) (by omega) (growslice_fits (by omega) hbytes)
        have hge := grownCap_ge w (n + 1) k.cap e
        have HA := At.alloc (w := w.drew) H.drew (.cells (xs.toArray ++ [u].toArray ++ Builtin.zeroCells z.cells (grownCap w (n + 1) k.cap e - (n + 1))) e)
        refine st_value hw (v := .slice (some ⟨w.heap.size, 0, none⟩) (n + 1) (grownCap w (n + 1) k.cap e)) (w' := w.drew.alloc (.cells (xs.toArray ++ [u].toArray ++ Builtin.zeroCells z.cells (grownCap w (n + 1) k.cap e - (n + 1))) e)) ?_ (h _ _ ?_ _ fun _ _ h => h)
        · simp [execOp, ho, resolve, invoke, builtin, hs, hx, hr]
        refine grown_out q1 q2 (own_mk HA hge (grownCap_le_maxLen w (n + 1) k.cap e h63) ?_ (by simp [hxl]) ?_)
        · simp only [Array.size_append, List.size_toArray, size_zeroCells, hzs, hxl, Nat.mul_one, List.length_cons, List.length_nil]
          omega
        · simp only [Array.toList_append, Nat.mul_one]
          have : n + 1 = (xs ++ [u]).length := by simp [hxl]
          rw [this]
          exact List.take_left
  · obtain ⟨v', w', hr, H'⟩ := run_append_at (P := P) (ty := o.type) ht hsz hby hz hzs H (some ad) 1 c [u] rfl (fun _ => ⟨ad, rfl, hnew⟩) h1' h63 hbytes
    refine st_value hw (v := v') (w' := w') ?_ (h v' w' (grown_out q1 q2 H') _ fun _ _ h => h)
    simp [execOp, ho, resolve, invoke, builtin, hs, hx, hr]
end
end Go.Hp
