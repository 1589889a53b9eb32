/-
  The plain law: of a bucket that may be the program's and the document's answers are the same.
-/
import Derived.Test.YtcofcikdknmggaaBkBuk
import Derived.Test.YtcofcikdknmggaaBkPure
namespace Go.Proofs.Ytcofcikdknmggaa
open Go.Hp Go.RowKit
set_option linter.unusedVariables false
set_option linter.unusedSimpArgs false
namespace Bk

/-- The names of a list rise. -/
def Rise (l : List En) : Prop := ∀ (j : Nat) (p q : En), l[j]? = some p → l[j + 1]? = some q → nLt p.nm q.nm = true
def RiseL (l : List La) : Prop := ∀ (j : Nat) (p q : La), l[j]? = some p → l[j + 1]? = some q → p.cl < q.cl

theorem rise_lt {l : List En} (h : Rise l) {i j : Nat} {p q : En} (hp : l[i]? = some p) (hq : l[j]? = some q) (hij : i < j) : nLt p.nm q.nm = true :=
  pair_of_adj (R := fun a b : En => nLt a.nm b.nm = true) (fun a b c h1 h2 => nLt_trans h1 h2) h (j - i - 1) i p q hp (by rw [show i + (j - i - 1) + 1 = j by omega]; exact hq)
theorem riseL_lt {l : List La} (h : RiseL l) {i j : Nat} {p q : La} (hp : l[i]? = some p) (hq : l[j]? = some q) (hij : i < j) : p.cl < q.cl :=
  pair_of_adj (R := fun a b : La => a.cl < b.cl) (fun a b c h1 h2 => Int.lt_trans h1 h2) h (j - i - 1) i p q hp (by rw [show i + (j - i - 1) + 1 = j by omega]; exact hq)

theorem rise_split {l : List En} (h : Rise l) (s : ByteArray) : (∀ (j : Nat) (x : En), l[j]? = some x → j < rpI l s → nLt x.nm s = true) ∧ (∀ (j : Nat) (x : En), l[j]? = some x → rpI l s ≤ j → nLt x.nm s = false) :=
  tw_split (p := fun e : En => nLt e.nm s) fun i j x y hx hy hij hp => nLt_trans (rise_lt h hx hy hij) hp

theorem plI_eq {l : List En} (h : Rise l) (s : ByteArray) : plI l s = rpI l s := by
  obtain ⟨h1, h2⟩ := rise_split h s
  refine bsI_eq _ 0 l.length (Nat.le_refl _) (Nat.zero_le _) (rpI_le l s) (fun j _ hj => ?_) (fun j hj hlt => ?_)
  · obtain ⟨x, hx⟩ : ∃ x, l[j]? = some x := ⟨_, List.getElem?_eq_getElem (by have := rpI_le l s; omega)⟩
    have := h1 j x hx hj
    rw [nLt_iff] at this
    rw [cmpE_at hx]
    exact this
  · obtain ⟨x, hx⟩ : ∃ x, l[j]? = some x := ⟨_, List.getElem?_eq_getElem hlt⟩
    have := h2 j x hx hj
    rw [nLt_iff] at this
    rw [cmpE_at hx]
    exact this

theorem plB_eq {l : List En} (h : Rise l) (s : ByteArray) : plB l s = rpB l s := by
  unfold plB rpB
  rw [plI_eq h]
  rcases Nat.lt_or_ge (rpI l s) l.length with hlt | hge
  · obtain ⟨x, hx⟩ : ∃ x, l[rpI l s]? = some x := ⟨_, List.getElem?_eq_getElem hlt⟩
    rw [decide_eq_true hlt, Bool.true_and, hx, cmpE_at hx]
    exact (nEq_iff _ _).symm
  · rw [decide_eq_false (by omega), Bool.false_and, List.getElem?_eq_none hge]

theorem plI_nil (l : List En) : plI l ⟨#[]⟩ = 0 := by
  refine bsI_eq _ 0 l.length (Nat.le_refl _) (Nat.le_refl _) (Nat.zero_le _) (fun j _ hj => absurd hj (Nat.not_lt_zero _)) (fun j _ hlt => ?_)
  obtain ⟨x, hx⟩ : ∃ x, l[j]? = some x := ⟨_, List.getElem?_eq_getElem hlt⟩
  rw [cmpE_at hx]
  unfold cmpN
  show decide (Lib.compareBytes x.nm.data.toList [] < 0) = false
  cases x.nm.data.toList <;> simp [Lib.compareBytes]
theorem hpE_nil (e : En) : hpE ⟨#[]⟩ e = true := by
  unfold hpE hpS
  show Lib.hasPrefix e.nm.data.toList [] = true
  unfold Lib.hasPrefix
  simp
theorem namesS_nil (l : List En) : namesS l ⟨#[]⟩ = l := by
  unfold namesS
  rw [plI_nil, List.drop_zero, tw_full fun y _ => hpE_nil y]

/-- A client's Last put where it belongs. -/
def seatR (x : La) : List La → List La
  | [] => [x]
  | y :: l => if y.cl < x.cl then y :: seatR x l else if y.cl = x.cl then x :: l else x :: y :: l

theorem riseL_tail {y : La} {l : List La} (h : RiseL (y :: l)) : RiseL l := fun j p q hp hq => h (j + 1) p q (by simpa using hp) (by simpa using hq)
theorem riseL_head {y : La} {l : List La} (h : RiseL (y :: l)) : ∀ z ∈ l, y.cl < z.cl := by
  intro z hz
  obtain ⟨j, hj⟩ := List.getElem?_of_mem hz
  exact riseL_lt h (i := 0) (j := j + 1) (by simp) (by simpa using hj) (by omega)

theorem noted_true {x : La} : ∀ {l : List La}, (∀ z ∈ l, x.cl < z.cl) → notedG x l true = l
  | [], _ => rfl
  | y :: l, h => by
    have h0 := h y (by simp)
    have ih := noted_true (x := x) (l := l) fun z hz => h z (by simp [hz])
    have hn : ¬ y.cl = x.cl := by omega
    simp [notedG, hn, ih]

theorem noted_seatR {x : La} : ∀ {l : List La}, RiseL l → notedG x l false = seatR x l
  | [], _ => rfl
  | y :: l, h => by
    have hh := riseL_head h
    unfold notedG seatR
    by_cases h1 : y.cl < x.cl
    · rw [if_pos h1]
      have hn : ¬ y.cl = x.cl := by omega
      have hc : ¬ x.cl ≤ y.cl := by omega
      simp [hn, hc, noted_seatR (riseL_tail h)]
    · rw [if_neg h1]
      have hc : x.cl ≤ y.cl := by omega
      by_cases h2 : y.cl = x.cl
      · rw [if_pos h2]
        have ht := noted_true (x := x) (l := l) (fun z hz => by have := hh z hz; omega)
        simp [h2, ht]
      · rw [if_neg h2]
        have ht := noted_true (x := x) (l := l) (fun z hz => by have := hh z hz; omega)
        simp [h2, hc, ht]

theorem seI_eq {l : List La} (h : RiseL l) (c : Int) : seI l c = (l.takeWhile (fun y => decide (y.cl < c))).length := by
  obtain ⟨h1, h2⟩ := tw_split (p := fun y : La => decide (y.cl < c)) (l := l) fun i j x y hx hy hij hp => by
    have := riseL_lt h hx hy hij
    simp at hp ⊢
    omega
  refine bsI_eq _ 0 l.length (Nat.le_refl _) (Nat.zero_le _) (List.takeWhile_sublist _).length_le (fun j _ hj => ?_) (fun j hj hlt => ?_)
  · obtain ⟨x, hx⟩ : ∃ x, l[j]? = some x := ⟨_, List.getElem?_eq_getElem (by have := (List.takeWhile_sublist (l := l) (fun y : La => decide (y.cl < c))).length_le; omega)⟩
    have := h1 j x hx hj
    rw [cmpL_at hx]
    unfold cmpI
    simp at this
    rw [if_pos this]
    rfl
  · obtain ⟨x, hx⟩ : ∃ x, l[j]? = some x := ⟨_, List.getElem?_eq_getElem hlt⟩
    have := h2 j x hx hj
    rw [cmpL_at hx]
    unfold cmpI
    simp at this
    rw [if_neg (by omega)]
    split <;> rfl

theorem seatR_split (x : La) : ∀ (l : List La), seatR x l = l.takeWhile (fun y => decide (y.cl < x.cl)) ++ (match l.drop (l.takeWhile (fun y => decide (y.cl < x.cl))).length with | [] => [x] | y :: t => if y.cl = x.cl then x :: t else x :: y :: t)
  | [] => rfl
  | y :: l => by
    unfold seatR
    by_cases h1 : y.cl < x.cl
    · rw [if_pos h1, List.takeWhile_cons_of_pos (by simpa using h1), List.length_cons, List.drop_succ_cons, List.cons_append, ← seatR_split x l]
    · rw [if_neg h1, List.takeWhile_cons_of_neg (by simpa using h1)]
      simp

theorem seatS_eq {l : List La} (h : RiseL l) (x : La) : seatS l x = notedS l x := by
  unfold notedS
  rw [noted_seatR h, seatR_split]
  unfold seatS seB
  rw [seI_eq h]
  generalize hr : (l.takeWhile (fun y => decide (y.cl < x.cl))).length = r
  have ht : l.takeWhile (fun y => decide (y.cl < x.cl)) = l.take r := by
    obtain ⟨t, ht⟩ := List.takeWhile_prefix (l := l) (fun y => decide (y.cl < x.cl))
    have h3 : (l.takeWhile (fun y => decide (y.cl < x.cl)) ++ t).take r = l.takeWhile (fun y => decide (y.cl < x.cl)) := by
      rw [← hr, List.take_left]
    rw [ht] at h3
    exact h3.symm
  rw [ht]
  rcases Nat.lt_or_ge r l.length with hlt | hge
  · obtain ⟨y, hy⟩ : ∃ y, l[r]? = some y := ⟨_, List.getElem?_eq_getElem hlt⟩
    have hd : l.drop r = y :: l.drop (r + 1) := by
      rw [List.drop_eq_getElem_cons hlt]
      rw [List.getElem?_eq_getElem hlt] at hy
      cases hy
      rfl
    have hny : ¬ y.cl < x.cl := by
      obtain ⟨_, h2⟩ := tw_split (p := fun y : La => decide (y.cl < x.cl)) (l := l) fun i j a b ha hb hij hp => by
        have := riseL_lt h ha hb hij
        simp at hp ⊢
        omega
      have := h2 r y hy (by omega)
      simpa using this
    by_cases he : y.cl = x.cl
    · have hb : (decide (r < l.length) && (cmpL l x.cl r == 0)) = true := by
        rw [decide_eq_true hlt, Bool.true_and, cmpL_at hy, beq_iff_eq]
        unfold cmpI
        rw [if_neg hny, if_neg (by omega)]
      rw [if_pos hb, hd]
      dsimp only
      rw [if_pos he, List.set_eq_take_append_cons_drop, if_pos hlt]
    · have hb : ¬ (decide (r < l.length) && (cmpL l x.cl r == 0)) = true := by
        rw [decide_eq_true hlt, Bool.true_and, cmpL_at hy, beq_iff_eq]
        unfold cmpI
        rw [if_neg hny, if_pos (by omega)]
        decide
      rw [if_neg hb, hd]
      dsimp only
      rw [if_neg he]
      unfold insAt
      rw [hd]
  · rw [decide_eq_false (by omega), Bool.false_and, List.drop_of_length_le hge]
    unfold insAt
    rw [List.drop_of_length_le hge]
    rfl

theorem woS_ins (l : List En) (i : Nat) (x : En) : woS l i 0 [x] = insAt l i x := by unfold woS insAt; simp
theorem woS_del (l : List En) (i : Nat) : woS l i 1 [] = l.take i ++ l.drop (i + 1) := by unfold woS; simp
theorem woS_set {l : List En} {i : Nat} (h : i < l.length) (y : En) : woS l i 1 [y] = l.set i y := by
  unfold woS
  rw [List.set_eq_take_append_cons_drop, if_pos h]
  simp
theorem woS_id (l : List En) : woS l 0 0 [] = l := by unfold woS; simp

theorem vb_rise {b : Bu} (h : VB b) : Rise b.es := fun j p q hp hq => h.e.2 j p q hp hq (List.getElem?_eq_some_iff.1 hq).1
theorem vb_riseL {b : Bu} (h : VB b) : RiseL b.ls := fun j p q hp hq => h.l.2 j p q hp hq (List.getElem?_eq_some_iff.1 hq).1

theorem made_eq {e : En} {c : Cm} (h : 5 ≤ c.k ∧ c.k ≤ 7) : madeR e c = made e c := by
  unfold madeR made
  by_cases h5 : c.k = 5
  · simp [h5]
  · by_cases h6 : c.k = 6
    · simp [h6]
      by_cases hs : e.sz < c.sz
      · rw [if_pos hs, Int.max_eq_right (by omega)]
      · rw [if_neg hs, Int.max_eq_left (by omega)]
    · have h7 : c.k = 7 := by omega
      simp [h7]

theorem ans_eq {l : List En} {c : Cm} {room : Int} (h : Rise l) (hk : 1 ≤ c.k ∧ c.k ≤ 7) (h4 : c.k ≠ 4) : ansS l c room = (⟨(changeS l c room).1.1, (changeS l c room).1.2, []⟩, (changeS l c room).2) := by
  unfold ansS changeS
  rw [plI_eq h, plB_eq h, if_neg h4]
  by_cases h1 : c.k = 1
  · rw [if_pos h1, if_pos h1]
    by_cases hb : rpB l c.nm = true
    · rw [if_pos hb, if_pos hb]
    · rw [if_neg hb, if_neg hb]
      by_cases hr : room ≤ (l.length : Int)
      · rw [if_pos hr, if_pos hr]
      · rw [if_neg hr, if_neg hr, woS_ins]
  · rw [if_neg h1, if_neg h1]
    by_cases hb : rpB l c.nm = false
    · rw [if_pos hb, if_pos hb]
    · rw [if_neg hb, if_neg hb]
      have hlt := rpB_lt (l := l) (s := c.nm) (by simpa using hb)
      by_cases h2 : c.k = 2
      · rw [if_pos h2, if_neg (by omega), if_pos h2, woS_del]
      · rw [if_neg h2]
        by_cases h3 : c.k = 3
        · rw [if_pos h3, if_pos h3]
        · rw [if_neg h3, if_neg h3, if_neg h2]
          by_cases hf : (eAt l (rpI l c.nm)).fc = c.fc ∧ (eAt l (rpI l c.nm)).fo = c.fo
          · rw [if_pos hf, if_pos hf, made_eq (by omega), woS_set hlt]
          · rw [if_neg hf, if_neg hf]

/-- Where the document speaks the answers are the same. -/
theorem apply_eq {b : Bu} {c : Cm} {room : Int} (h : wrongS c = true ∨ 1048576 ≤ b.u ∨ VB b) : rApplyS b c room = ApplyS b c room := by
  unfold rApplyS ApplyS applyS
  by_cases hw : wrongS c = true
  · simp [hw]
  · by_cases hu : 1048576 ≤ b.u
    · simp [hw, hu]
    · have hv : VB b := by
        rcases h with h | h | h
        · exact absurd h hw
        · exact absurd h hu
        · exact h
      have hkk : 1 ≤ c.k ∧ c.k ≤ 7 := by
        have hw2 : wrongS c = false := by simpa using hw
        unfold wrongS at hw2
        simp only [Bool.or_eq_false_iff, decide_eq_false_iff_not] at hw2
        omega
      rw [if_neg hw, if_neg hu, if_neg hw, if_neg hu]
      by_cases h4 : c.k = 4
      · rw [if_pos h4, if_pos rfl, if_pos (.inr h4)]
        unfold ansS
        rw [if_pos h4, woS_id, namesS_nil]
      · rw [if_neg h4, ans_eq (vb_rise hv) hkk h4]
        by_cases h3 : c.k = 3
        · rw [if_pos h3, if_pos rfl, if_pos (.inl h3)]
        · rw [if_neg h3, if_pos rfl, if_neg (by omega), seatS_eq (vb_riseL hv)]
end Bk
end Go.Proofs.Ytcofcikdknmggaa
