/-
  The plain law of rows of commands: the document's steps are the program's, and a row may be cut.
-/
import Derived.Test.YtcofcikdknmggaaBkRep
namespace Go.Proofs.Ytcofcikdknmggaa
open Go.Hp Go.RowKit
set_option linter.unusedVariables false
set_option linter.unusedSimpArgs false
namespace Bk

theorem apply_eq2 {b : Bu} {c : Cm} {room : Int} (h1 : Rise b.es) (h2 : RiseL b.ls) : rApplyS b c room = ApplyS b c room := by
  unfold rApplyS ApplyS applyS
  by_cases hw : wrongS c = true
  · simp [hw]
  · by_cases hu : 1048576 ≤ b.u
    · simp [hw, hu]
    · have hkk : 1 ≤ c.k ∧ c.k ≤ 7 := by
        have hw2 : wrongS c = false := by simpa using hw
        unfold wrongS at hw2
        simp only [Bool.or_eq_false_iff, decide_eq_false_iff_not] at hw2
        omega
      rw [if_neg hw, if_neg hu, if_neg hw, if_neg hu]
      by_cases h4 : c.k = 4
      · rw [if_pos h4, if_pos rfl, if_pos (.inr h4)]
        unfold ansS
        rw [if_pos h4, woS_id, namesS_nil]
      · rw [if_neg h4, ans_eq h1 hkk h4]
        by_cases h3 : c.k = 3
        · rw [if_pos h3, if_pos rfl, if_pos (.inl h3)]
        · rw [if_neg h3, if_pos rfl, if_neg (by omega), seatS_eq h2]

/-- What stays so from command to command, whatever room there is. -/
structure RI (b : Bu) : Prop where
  n : NR b.es
  ok : ∀ e ∈ b.es, EOk e
  c : CR b.ls
  u0 : 0 ≤ b.u
theorem ri_of {b : Bu} (h : VB b) : RI b := by
  obtain ⟨h1, h2, h3, ⟨h4, h5⟩, h6, h7⟩ := vb_iff.1 h
  exact ⟨h4, h5, h6, (inB_le h1).1⟩

/-- What a step of a row is: an error of the document's, or the same step on both sides. -/
inductive RCase (b : Bu) (c : Cm) (room : Int) : Prop where
  | bad (r : Int) (h0 : r ≠ 0) (h1 : wrongS c = true ∧ r = 105 ∨ wrongS c = false ∧ 1048576 ≤ b.u ∧ r = 4) (h2 : rApplyS b c room = ((r, an0), ⟨0, [], []⟩)) (h3 : (applyS b c room).1.1 = r)
  | good (h1 : wrongS c = false) (h2 : b.u < 1048576) (h3 : (applyS b c room).1.1 = 0) (h4 : rApplyS b c room = applyS b c room) (h5 : RI (applyS b c room).2)
theorem r_case {b : Bu} {c : Cm} {room : Int} (h : RI b) (hc : wrongS c = true ∨ COk c) : RCase b c room := by
  by_cases hw : wrongS c = true
  · refine .bad 105 (by decide) (.inl ⟨hw, rfl⟩) ?_ ?_
    · unfold rApplyS; rw [if_pos hw]
    · unfold applyS; rw [if_pos hw]
  · have hw2 : wrongS c = false := by simpa using hw
    by_cases hu : 1048576 ≤ b.u
    · refine .bad 4 (by decide) (.inr ⟨hw2, hu, rfl⟩) ?_ ?_
      · unfold rApplyS; rw [if_neg hw, if_pos hu]
      · unfold applyS; rw [if_neg hw, if_pos hu]
    · have hcc : COk c := by
        rcases hc with hc | hc
        · exact absurd hc hw
        · exact hc
      have he := ApplyS_ok (room := room) hw2 (show b.u < 1048576 by omega)
      have hu0 := h.u0
      have h0 : (applyS b c room).1.1 = 0 := by
        unfold applyS
        rw [if_neg hw, if_neg hu]
        (repeat' split) <;> rfl
      have ha : ApplyS b c room = applyS b c room := by unfold ApplyS; rw [if_pos h0]
      refine .good hw2 (by omega) h0 ?_ ?_
      · rw [apply_eq2 (nr_rise h.n) (cr_rise h.c), ha]
      · rw [← ha, he]
        by_cases h44 : c.k = 4
        · rw [if_pos h44]
          exact ⟨h.n, h.ok, h.c, by show 0 ≤ b.u + 1; omega⟩
        · rw [if_neg h44]
          have hi := change_inv (room := room) h.n h.ok hcc h44
          by_cases h33 : c.k = 3
          · rw [if_pos h33]
            exact ⟨hi.nr, hi.ok, h.c, by show 0 ≤ b.u + 1; omega⟩
          · rw [if_neg h33]
            refine ⟨hi.nr, hi.ok, ?_, by show 0 ≤ b.u + 1; omega⟩
            rw [seatS_seatR h.c]
            exact cr_seatR h.c

theorem repl_bad {room : Int} : ∀ {l : List Cm} {b : Bu}, (replS room l b).1.1 ≠ 0 → replS room l b = (((replS room l b).1.1, []), ⟨0, [], []⟩)
  | [], b, h => absurd rfl h
  | c :: l, b, h => by
    unfold replS at h ⊢
    by_cases h0 : (applyS b c room).1.1 = 0
    · rw [if_pos h0] at h ⊢
      unfold addA at h ⊢
      by_cases h1 : (replS room l (applyS b c room).2).1.1 = 0
      · rw [if_pos h1] at h; exact absurd rfl h
      · rw [if_neg h1]
        exact repl_bad h1
    · rw [if_neg h0]

theorem repl_app {room : Int} : ∀ (l1 l2 : List Cm) (b : Bu), replS room (l1 ++ l2) b = if (replS room l1 b).1.1 = 0 then addA (replS room l1 b).1.2 (replS room l2 (replS room l1 b).2) else replS room l1 b
  | [], l2, b => by
    rw [List.nil_append]
    show _ = if (0 : Int) = 0 then addA [] (replS room l2 b) else _
    rw [if_pos rfl, addA_nil]
  | c :: l1, l2, b => by
    have ih := repl_app (room := room) l1 l2 (applyS b c room).2
    rw [List.cons_append]
    conv => lhs; unfold replS
    by_cases h0 : (applyS b c room).1.1 = 0
    · have e : replS room (c :: l1) b = addA [(applyS b c room).1.2] (replS room l1 (applyS b c room).2) := by
        conv => lhs; unfold replS
        rw [if_pos h0]
      rw [if_pos h0, ih, e]
      by_cases h1 : (replS room l1 (applyS b c room).2).1.1 = 0
      · have e2 : addA [(applyS b c room).1.2] (replS room l1 (applyS b c room).2) = ((0, [(applyS b c room).1.2] ++ (replS room l1 (applyS b c room).2).1.2), (replS room l1 (applyS b c room).2).2) := by unfold addA; rw [if_pos h1]
        rw [if_pos h1, e2]
        dsimp only
        rw [if_pos rfl, addA_add]
      · rw [if_neg h1, addA_err h1, if_neg h1]
    · have e : replS room (c :: l1) b = (((applyS b c room).1.1, []), ⟨0, [], []⟩) := by
        conv => lhs; unfold replS
        rw [if_neg h0]
      rw [if_neg h0, e]
      dsimp only
      rw [if_neg h0]

/-- How far a row of commands can go. -/
theorem repl_len {room : Int} : ∀ (l : List Cm) (b : Bu), 0 ≤ b.u → (replS room l b).2.es.length ≤ b.es.length + l.length ∧ (replS room l b).2.ls.length ≤ b.ls.length + l.length ∧ 0 ≤ (replS room l b).2.u ∧ (replS room l b).1.2.length ≤ l.length
  | [], b, h => by
    show b.es.length ≤ b.es.length + 0 ∧ b.ls.length ≤ b.ls.length + 0 ∧ 0 ≤ b.u ∧ 0 ≤ 0
    omega
  | c :: l, b, h => by
    obtain ⟨a1, a2, a3, a4⟩ := applyS_len b c room
    have ih := repl_len (room := room) l (applyS b c room).2 (by omega)
    unfold replS
    by_cases h0 : (applyS b c room).1.1 = 0
    · rw [if_pos h0]
      unfold addA
      by_cases h1 : (replS room l (applyS b c room).2).1.1 = 0
      · rw [if_pos h1]
        dsimp only
        simp only [List.length_append, List.length_cons, List.length_nil]
        omega
      · rw [if_neg h1]
        simp only [List.length_cons]
        omega
    · rw [if_neg h0]
      simp

theorem names_sub (l : List En) (s : ByteArray) : (namesS l s).length ≤ l.length := by
  unfold namesS
  exact Nat.le_trans (List.takeWhile_sublist _).length_le (by rw [List.length_drop]; omega)
/-- No answer holds more names than there are entries. -/
theorem repl_names {room : Int} : ∀ (l : List Cm) (b : Bu), ∀ a ∈ (replS room l b).1.2, a.l.length ≤ b.es.length + l.length
  | [], b => fun a ha => absurd ha List.not_mem_nil
  | c :: l, b => by
    obtain ⟨a1, _⟩ := applyS_len b c room
    have ih := repl_names (room := room) l (applyS b c room).2
    intro a ha
    unfold replS at ha
    by_cases h0 : (applyS b c room).1.1 = 0
    · rw [if_pos h0] at ha
      unfold addA at ha
      by_cases h1 : (replS room l (applyS b c room).2).1.1 = 0
      · rw [if_pos h1] at ha
        dsimp only at ha
        rcases List.mem_append.1 ha with h | h
        · rw [List.mem_singleton] at h
          subst h
          have : (applyS b c room).1.2.l.length ≤ b.es.length := by
            unfold applyS
            (repeat' split) <;> dsimp only <;> first | exact Nat.zero_le _ | exact names_sub _ _
          simp only [List.length_cons]
          omega
        · have := ih a h
          simp only [List.length_cons]
          omega
      · rw [if_neg h1] at ha
        have := ih a ha
        simp only [List.length_cons]
        omega
    · rw [if_neg h0] at ha
      exact absurd ha List.not_mem_nil

/-- A row cut in two: what the law asks of the two parts. -/
theorem repl_cut_ok {room : Int} {l1 l2 : List Cm} {b : Bu} (h : (replS room (l1 ++ l2) b).1.1 = 0) :
    (replS room l1 b).1.1 = 0 ∧ (replS room l2 (replS room l1 b).2).1.1 = 0 ∧ (replS room l2 (replS room l1 b).2).2 = (replS room (l1 ++ l2) b).2 ∧ (replS room l1 b).1.2 ++ (replS room l2 (replS room l1 b).2).1.2 = (replS room (l1 ++ l2) b).1.2 := by
  rw [repl_app] at h ⊢
  by_cases h1 : (replS room l1 b).1.1 = 0
  · rw [if_pos h1] at h ⊢
    unfold addA at h ⊢
    by_cases h2 : (replS room l2 (replS room l1 b).2).1.1 = 0
    · rw [if_pos h2]
      exact ⟨h1, h2, rfl, rfl⟩
    · rw [if_neg h2] at h; exact absurd h h2
  · rw [if_neg h1] at h; exact absurd h h1
theorem repl_cut_bad {room : Int} {l1 l2 : List Cm} {b : Bu} (h : (replS room (l1 ++ l2) b).1.1 ≠ 0) : (replS room l1 b).1.1 ≠ 0 ∨ (replS room l2 (replS room l1 b).2).1.1 ≠ 0 := by
  by_cases h1 : (replS room l1 b).1.1 = 0
  · by_cases h2 : (replS room l2 (replS room l1 b).2).1.1 = 0
    · exfalso
      apply h
      rw [repl_app, if_pos h1]
      unfold addA
      rw [if_pos h2]
    · exact .inr h2
  · exact .inl h1
end Bk
end Go.Proofs.Ytcofcikdknmggaa
