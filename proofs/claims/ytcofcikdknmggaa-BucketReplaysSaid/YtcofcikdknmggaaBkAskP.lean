/-
  The plain law: of a bucket that may be, what the program and the document tell when they are asked is the same.
-/
import Derived.Test.YtcofcikdknmggaaBkAskN
namespace Go.Proofs.Ytcofcikdknmggaa
open Go.Hp Go.RowKit
set_option linter.unusedVariables false
set_option linter.unusedSimpArgs false
namespace Bk

theorem find_eq {l : List En} (h : Rise l) (s : ByteArray) : findS l s = rfindS l s := by
  unfold findS rfindS
  rw [plB_eq h, plI_eq h]

theorem rlast_none {c : Int} : ∀ {l : List La}, (∀ z ∈ l, z.cl ≠ c) → rlastF l c = (la0, false)
  | [], _ => rfl
  | y :: l, h => by
    unfold rlastF
    rw [if_neg (h y (by simp)), rlast_none fun z hz => h z (by simp [hz])]

def lastG (l : List La) (c : Int) : La × Bool := match l.drop (l.takeWhile (fun y => decide (y.cl < c))).length with | [] => (la0, false) | y :: _ => if y.cl = c then (y, true) else (la0, false)

theorem rlast_G (c : Int) : ∀ {l : List La}, RiseL l → rlastF l c = lastG l c
  | [], _ => rfl
  | y :: l, h => by
    have hh := riseL_head h
    have ih := rlast_G c (riseL_tail h)
    unfold lastG rlastF
    by_cases h1 : y.cl < c
    · rw [List.takeWhile_cons_of_pos (by simpa using h1), List.length_cons, List.drop_succ_cons, if_neg (by omega), ih]
      rfl
    · rw [List.takeWhile_cons_of_neg (by simpa using h1), List.length_nil, List.drop_zero]
      dsimp only
      by_cases h2 : y.cl = c
      · rw [if_pos h2, if_pos h2]
      · rw [if_neg h2, if_neg h2, rlast_none fun z hz => by have := hh z hz; omega]

theorem last_eq {l : List La} (h : RiseL l) (c : Int) : lastF l c = rlastF l c := by
  rw [rlast_G c h]
  unfold lastF lastG seB
  rw [seI_eq h]
  generalize (l.takeWhile (fun y => decide (y.cl < c))).length = t
  rcases Nat.lt_or_ge t l.length with hlt | hge
  · obtain ⟨x, hx⟩ : ∃ x, l[t]? = some x := ⟨_, List.getElem?_eq_getElem hlt⟩
    have hd : l.drop t = x :: l.drop (t + 1) := by
      rw [List.drop_eq_getElem_cons hlt]
      rw [List.getElem?_eq_getElem hlt] at hx
      cases hx
      rfl
    rw [hd, decide_eq_true hlt, Bool.true_and, cmpL_at hx, lAt_of hx]
    dsimp only
    by_cases h2 : x.cl = c
    · rw [if_pos h2, if_pos]
      unfold cmpI
      rw [if_neg (by omega), if_neg (by omega)]
      rfl
    · rw [if_neg h2, if_neg]
      unfold cmpI
      by_cases h3 : x.cl < c
      · rw [if_pos h3]; decide
      · rw [if_neg h3, if_pos (by omega)]; decide
  · rw [List.drop_of_length_le hge, decide_eq_false (by omega), Bool.false_and]
    rfl

theorem pre_ge : ∀ (s a : List UInt8), s.isPrefixOf a = true → ¬ Lib.compareBytes a s < 0
  | [], [], _ => by decide
  | [], a :: l, _ => by simp [Lib.compareBytes]
  | c :: s, [], h => by simp [List.isPrefixOf] at h
  | c :: s, a :: l, h => by
    simp only [List.isPrefixOf, Bool.and_eq_true, beq_iff_eq] at h
    obtain ⟨rfl, h⟩ := h
    unfold Lib.compareBytes
    rw [if_neg (by simp), if_neg (by simp)]
    exact pre_ge s l h

theorem pre_mid : ∀ (s a b : List UInt8), s.isPrefixOf b = true → ¬ Lib.compareBytes a s < 0 → Lib.compareBytes a b < 0 → s.isPrefixOf a = true
  | [], a, b, _, _, _ => by cases a <;> rfl
  | c :: s, a, [], h, _, _ => by simp [List.isPrefixOf] at h
  | c :: s, [], b :: m, h, h2, _ => by simp [Lib.compareBytes] at h2
  | c :: s, a :: l, b :: m, h, h2, h3 => by
    simp only [List.isPrefixOf, Bool.and_eq_true, beq_iff_eq] at h ⊢
    obtain ⟨rfl, h⟩ := h
    unfold Lib.compareBytes at h2 h3
    simp only [UInt8.lt_iff_toNat_lt] at h2 h3
    by_cases q1 : a.toNat < c.toNat
    · rw [if_pos q1] at h2; simp at h2
    · by_cases q2 : c.toNat < a.toNat
      · rw [if_neg q1, if_pos q2] at h3; simp at h3
      · rw [if_neg q1, if_neg q2] at h2 h3
        exact ⟨UInt8.toNat_inj.1 (by omega), pre_mid s l m h h2 h3⟩

theorem tw_filter {α : Type} {p : α → Bool} : ∀ {l : List α}, l.Pairwise (fun x y => p y = true → p x = true) → l.takeWhile p = l.filter p
  | [], _ => rfl
  | x :: l, h => by
    rw [List.pairwise_cons] at h
    cases hp : p x with
    | true => rw [List.takeWhile_cons_of_pos hp, List.filter_cons_of_pos hp, tw_filter h.2]
    | false =>
      rw [List.takeWhile_cons_of_neg (by rw [hp]; decide), List.filter_cons_of_neg (by rw [hp]; decide)]
      symm
      rw [List.filter_eq_nil_iff]
      intro y hy hpy
      rw [h.1 y hy hpy] at hp
      cases hp

theorem names_eq {l : List En} (h : Rise l) (s : ByteArray) : namesS l s = rnamesS l s := by
  unfold namesS rnamesS
  rw [plI_eq h]
  obtain ⟨h1, h2⟩ := rise_split h s
  have hf : (l.take (rpI l s)).filter (hpE s) = [] := by
    rw [List.filter_eq_nil_iff]
    intro x hx hp
    obtain ⟨j, hj⟩ := List.getElem?_of_mem hx
    rw [List.getElem?_take] at hj
    split at hj
    · rename_i hlt
      have q := h1 j x hj hlt
      rw [nLt_iff, decide_eq_true_iff] at q
      exact pre_ge _ _ hp q
    · cases hj
  have e : l.filter (hpE s) = (l.drop (rpI l s)).filter (hpE s) := by
    conv => lhs; rw [← List.take_append_drop (rpI l s) l, List.filter_append, hf, List.nil_append]
  show _ = l.filter (hpE s)
  rw [e]
  refine tw_filter ?_
  rw [List.pairwise_iff_getElem]
  intro i j hi hj hij hp
  have gi : l[rpI l s + i]? = some (l.drop (rpI l s))[i] := by rw [← List.getElem?_drop, List.getElem?_eq_getElem hi]
  have gj : l[rpI l s + j]? = some (l.drop (rpI l s))[j] := by rw [← List.getElem?_drop, List.getElem?_eq_getElem hj]
  have q1 := h2 _ _ gi (by omega)
  have q2 := rise_lt h gi gj (by omega)
  rw [nLt_iff, decide_eq_false_iff_not] at q1
  rw [nLt_iff, decide_eq_true_iff] at q2
  exact pre_mid _ _ _ hp q1 q2
end Bk
end Go.Proofs.Ytcofcikdknmggaa
