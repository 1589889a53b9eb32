/-
  The plain law: of a bucket that may be the program's and the document's answers are the same.
-/
import Derived.Test.YtcofcikdknmggaaBkRApply
namespace Go.Proofs.Ytcofcikdknmggaa
open Go.Hp Go.RowKit
set_option linter.unusedVariables false
set_option linter.unusedSimpArgs false
namespace Bk

theorem cmp_lt : ∀ (a b : List UInt8), Op.bytesLess a b = decide (Lib.compareBytes a b < 0)
  | [], [] => rfl
  | [], b :: l2 => rfl
  | a :: l1, [] => rfl
  | a :: l1, b :: l2 => by
    have ih := cmp_lt l1 l2
    unfold Op.bytesLess Lib.compareBytes
    by_cases h1 : a < b
    · simp [h1]
    · by_cases h2 : b < a
      · have : ¬ a = b := fun h => by subst h; exact h1 h2
        simp [h1, h2, this]
      · have : a = b := by
          have h3 : ¬ a.toNat < b.toNat := fun h => h1 (UInt8.lt_iff_toNat_lt.2 h)
          have h4 : ¬ b.toNat < a.toNat := fun h => h2 (UInt8.lt_iff_toNat_lt.2 h)
          exact UInt8.toNat_inj.1 (by omega)
        subst this
        simp [h1, ih]

theorem cmp_zero : ∀ (a b : List UInt8), Lib.compareBytes a b = 0 ↔ a = b
  | [], [] => by simp [Lib.compareBytes]
  | [], b :: l2 => by simp [Lib.compareBytes]
  | a :: l1, [] => by simp [Lib.compareBytes]
  | a :: l1, b :: l2 => by
    have ih := cmp_zero l1 l2
    unfold Lib.compareBytes
    by_cases h1 : a < b
    · have : ¬ a = b := fun h => by subst h; exact Nat.lt_irrefl _ (UInt8.lt_iff_toNat_lt.1 h1)
      simp [h1, this]
    · by_cases h2 : b < a
      · have : ¬ a = b := fun h => by subst h; exact h1 h2
        simp [h1, h2, this]
      · have : a = b := by
          have h3 : ¬ a.toNat < b.toNat := fun h => h1 (UInt8.lt_iff_toNat_lt.2 h)
          have h4 : ¬ b.toNat < a.toNat := fun h => h2 (UInt8.lt_iff_toNat_lt.2 h)
          exact UInt8.toNat_inj.1 (by omega)
        subst this
        simp [h1, ih]

theorem cmp_trans : ∀ (a b c : List UInt8), Lib.compareBytes a b < 0 → Lib.compareBytes b c < 0 → Lib.compareBytes a c < 0
  | [], [], c, h, _ => by simp [Lib.compareBytes] at h
  | [], b :: l2, [], _, h => by simp [Lib.compareBytes] at h
  | [], b :: l2, c :: l3, _, _ => by simp [Lib.compareBytes]
  | a :: l1, [], c, h, _ => by simp [Lib.compareBytes] at h
  | a :: l1, b :: l2, [], _, h => by simp [Lib.compareBytes] at h
  | a :: l1, b :: l2, c :: l3, h, g => by
    have ih := cmp_trans l1 l2 l3
    unfold Lib.compareBytes at h g ⊢
    simp only [UInt8.lt_iff_toNat_lt] at h g ⊢
    by_cases h1 : a.toNat < b.toNat
    · by_cases h2 : b.toNat < c.toNat
      · rw [if_pos (by omega)]; decide
      · by_cases h3 : c.toNat < b.toNat
        · rw [if_neg h2, if_pos h3] at g; simp at g
        · rw [if_pos (by omega)]; decide
    · by_cases h1' : b.toNat < a.toNat
      · rw [if_neg h1, if_pos h1'] at h; simp at h
      · rw [if_neg h1, if_neg h1'] at h
        by_cases h2 : b.toNat < c.toNat
        · rw [if_pos (by omega)]; decide
        · by_cases h3 : c.toNat < b.toNat
          · rw [if_neg h2, if_pos h3] at g; simp at g
          · rw [if_neg h2, if_neg h3] at g
            rw [if_neg (by omega), if_neg (by omega)]
            exact ih h g

theorem nLt_iff (a b : ByteArray) : nLt a b = decide (cmpN a b < 0) := by
  unfold nLt cmpN
  rw [cmp_lt, Lib.toList_data, Lib.toList_data]
theorem nEq_iff (a b : ByteArray) : nEq a b = (cmpN a b == 0) := by
  unfold nEq cmpN
  rw [Bool.eq_iff_iff, beq_iff_eq, beq_iff_eq, cmp_zero, Lib.toList_data, Lib.toList_data]
theorem nLt_trans {a b c : ByteArray} (h : nLt a b = true) (g : nLt b c = true) : nLt a c = true := by
  rw [nLt_iff, decide_eq_true_iff] at *
  exact cmp_trans _ _ _ h g

theorem bsI_eq {lt : Nat → Bool} {r : Nat} : ∀ (n p q : Nat), q - p ≤ n → p ≤ r → r ≤ q → (∀ j, p ≤ j → j < r → lt j = true) → (∀ j, r ≤ j → j < q → lt j = false) → bsI lt p q = r
  | 0, p, q, hn, h1, h2, _, _ => by rw [bsI_end (by omega)]; omega
  | n + 1, p, q, hn, h1, h2, ha, hb => by
    by_cases hlt : p < q
    · cases hm : lt ((p + q) / 2) with
      | true =>
        have hr : (p + q) / 2 < r := by
          rcases Nat.lt_or_ge ((p + q) / 2) r with h | h
          · exact h
          · rw [hb _ h (by omega)] at hm; cases hm
        rw [bsI_lt hlt hm]
        exact bsI_eq n _ _ (by omega) (by omega) h2 (fun j h3 h4 => ha j (by omega) h4) hb
      | false =>
        have hr : r ≤ (p + q) / 2 := by
          rcases Nat.lt_or_ge ((p + q) / 2) r with h | h
          · rw [ha _ (by omega) h] at hm; cases hm
          · exact h
        rw [bsI_ge hlt hm]
        exact bsI_eq n _ _ (by omega) h1 hr ha (fun j h3 h4 => hb j h3 (by omega))
    · rw [bsI_end hlt]; omega

theorem pair_of_adj {α : Type} {R : α → α → Prop} (ht : ∀ a b c, R a b → R b c → R a c) {l : List α} (h : ∀ j p q, l[j]? = some p → l[j + 1]? = some q → R p q) : ∀ (d i : Nat) (p q : α), l[i]? = some p → l[i + d + 1]? = some q → R p q
  | 0, i, p, q, hp, hq => h i p q hp hq
  | d + 1, i, p, q, hp, hq => by
    have hlt := (List.getElem?_eq_some_iff.1 hq).1
    obtain ⟨m, hm⟩ : ∃ m, l[i + d + 1]? = some m := ⟨_, List.getElem?_eq_getElem (by omega)⟩
    exact ht _ _ _ (pair_of_adj ht h d i p m hp hm) (h _ m q hm (by rw [show i + d + 1 + 1 = i + (d + 1) + 1 by omega]; exact hq))

/-- Where a rising list's predicate ends: what is ahead holds, what is behind does not. -/
theorem tw_split {α : Type} {p : α → Bool} {l : List α} (hmono : ∀ (i j : Nat) (x y : α), l[i]? = some x → l[j]? = some y → i < j → p y = true → p x = true) :
    (∀ (j : Nat) (x : α), l[j]? = some x → j < (l.takeWhile p).length → p x = true) ∧ (∀ (j : Nat) (x : α), l[j]? = some x → (l.takeWhile p).length ≤ j → p x = false) := by
  have h1 : ∀ (j : Nat) (x : α), l[j]? = some x → j < (l.takeWhile p).length → p x = true := by
    intro j x hj hlt
    have h2 : (l.takeWhile p)[j]? = some x := by
      obtain ⟨t, ht⟩ := List.takeWhile_prefix (l := l) p
      rw [← ht, List.getElem?_append_left hlt] at hj
      exact hj
    have := List.mem_of_getElem? h2
    exact List.all_eq_true.1 (List.all_takeWhile (l := l) (p := p)) x this
  refine ⟨h1, fun j x hj hle => ?_⟩
  have hl := (List.getElem?_eq_some_iff.1 hj).1
  obtain ⟨y, hy⟩ : ∃ y, l[(l.takeWhile p).length]? = some y := ⟨_, List.getElem?_eq_getElem (by omega)⟩
  have hpy : p y = false := by
    have e : l = l.takeWhile p ++ l.dropWhile p := (List.takeWhile_append_dropWhile).symm
    have hy2 : (l.dropWhile p)[0]? = some y := by
      rw [e] at hy
      rw [List.getElem?_append_right (by simp)] at hy
      simpa using hy
    cases hd : l.dropWhile p with
    | nil => rw [hd] at hy2; cases hy2
    | cons z t =>
      rw [hd] at hy2
      simp at hy2
      subst hy2
      have := List.head?_dropWhile_not p l
      rw [hd] at this
      simpa using this
  rcases Nat.eq_or_lt_of_le hle with h | h
  · rw [← h] at hj
    rw [hy] at hj
    cases hj
    exact hpy
  · cases hx : p x with
    | false => rfl
    | true => rw [hmono _ _ _ _ hy hj h hx] at hpy; cases hpy
end Bk
end Go.Proofs.Ytcofcikdknmggaa
