/-
  The document's Apply.
-/
import Derived.Test.YtcofcikdknmggaaBkNoted
namespace Go.Proofs.Ytcofcikdknmggaa
open Go.Hp Go.RowKit
set_option linter.unusedVariables false
set_option linter.unusedSimpArgs false
set_option maxRecDepth 100000
set_option maxHeartbeats 2000000
namespace Bk

def rApplyS (b : Bu) (c : Cm) (room : Int) : (Int × An) × Bu :=
  if wrongS c = true then ((105, an0), ⟨0, [], []⟩)
  else if 1048576 ≤ b.u then ((4, an0), ⟨0, [], []⟩)
  else ((0, (ansS b.es c room).1), ⟨b.u + 1, (ansS b.es c room).2, if c.k = 3 ∨ c.k = 4 then b.ls else notedS b.ls (lastS c (b.u + 1) (ansS b.es c room).1.err (ansS b.es c room).1.e)⟩)

def RrPost (w0 W : World) (L : List HProp) (r : (Int × An) × Bu) (e : Ending) (w' : World) : Prop :=
  ∃ ve vl va, e = .returned (.tuple #[.agg #[.int .i64 r.2.u, ve, vl], anV r.1.2.err r.1.2.e va, .int .i64 r.1.1]) ∧ At w0 (RE W ve r.2.es :: RL W vl r.2.ls :: OE va r.1.2.l :: L) w'

section
variable {w0 w W : World} {L : List HProp}

theorem re_form {v : Value} {es : List En} (H : At w0 (RE W v es :: L) w) : ∃ ad n cap, v = .slice ad n cap := by
  obtain ⟨ad, cap, hv, _⟩ := re_value H
  exact ⟨ad, _, cap, hv⟩
theorem three_nil (H : At w0 L w) : At w0 (RE W (.slice none 0 0) [] :: RL W (.slice none 0 0) [] :: OE (.slice none 0 0) [] :: L) w := re_own (oe_nil (rl_own (ol_nil (oe_nil H))))

theorem rApply_no {room r : Int} {ve vl : Value} {b : Bu} {c : Cm} (hr : rApplyS b c room = ((r, an0), ⟨0, [], []⟩)) (hc : wrongS c = true ∧ r = 105 ∨ wrongS c = false ∧ 1048576 ≤ b.u ∧ r = 4)
    (H : At w0 (RE W ve b.es :: RL W vl b.ls :: L) w) :
    Calls Try.prog 24 #[.agg #[.int .i64 b.u, ve, vl], .agg c.cells.toArray, .int .i64 room] w (RrPost w0 W L (rApplyS b c room)) := by
  rw [hr]
  clear hr
  obtain ⟨kd, cl, op, nm, fc, fo, nc, no, sz⟩ := c
  obtain ⟨u, es, ls⟩ := b
  dsimp only at H hc ⊢
  simp only [Cm.cells]
  unfold wrongS at hc
  dsimp only at hc
  rcases hc with ⟨hc, rfl⟩ | ⟨hc, hu, rfl⟩
  · by_cases h1 : 1 ≤ kd ∧ kd ≤ 7
    · have e1 : (decide (1 ≤ kd) && decide (kd ≤ 7)) = true := by simp [h1.1, h1.2]
      by_cases h2 : 1 ≤ cl ∧ cl ≤ 255
      · have e2 : (decide (1 ≤ cl) && decide (cl ≤ 255)) = true := by simp [h2.1, h2.2]
        have e3 : (decide (1 ≤ op) && decide (op ≤ 1099511627776)) = false := by
          obtain ⟨p1, p2⟩ := h1
          obtain ⟨p3, p4⟩ := h2
          simp at hc ⊢
          omega
        clear hc h1 h2
        have tok : True := trivial
        go_enter Try.func24, Try.ntmps24
        go_wp2_with (first | ((with_reducible refine k_box (T := 25) ?_); refine st_box rfl _ _ rfl _ rfl H ?_; (clear H; intro g3 w H K hK; simp only [Value.cells, Act.eval, Value.cells, Array.getD_eq_getD_getElem?, List.getElem?_toArray, List.getElem?_cons_succ, List.getElem?_cons_zero, Option.getD_some] at H; go_simp)) | ((with_reducible refine k_box (T := 29) ?_); refine st_box rfl _ _ rfl _ rfl H ?_; (clear H; intro g4 w H K hK; simp only [Value.cells, Act.eval, Value.cells, Array.getD_eq_getD_getElem?, List.getElem?_toArray, List.getElem?_cons_succ, List.getElem?_cons_zero, Option.getD_some] at H; go_simp)) | ((with_reducible refine k_alloc (T := 25) ?_); (have _t := tok); refine st_alloc rfl _ rfl _ z25 _ rfl H ?_; (clear H tok _t; intro g6 w H K hK; simp only [Value.cells] at H; go_simp)) | ((with_reducible refine k_alloc (T := 41) ?_); refine st_alloc rfl _ rfl _ z41 _ rfl H ?_; (clear H; intro g7 w H K hK; simp only [Value.cells] at H; go_simp)) | ((with_reducible refine k_load ?_); (first | refine st_load rfl _ _ rfl _ _ rfl ?_ H 2 rfl rfl ?_ | refine st_load rfl _ _ rfl _ _ rfl ?_ H 3 rfl rfl ?_); (kernel_rfl); (intro K hK; go_simp)))
        refine (within H kd 1 7).mono ?_
        rintro e w ⟨rfl, HX⟩
        clear H
        have H := HX
        clear HX
        rw [e1]
        go_wp2_with (first | ((with_reducible refine k_load ?_); (first | refine st_load rfl _ _ rfl _ _ rfl ?_ H 2 rfl rfl ?_ | refine st_load rfl _ _ rfl _ _ rfl ?_ H 3 rfl rfl ?_); (kernel_rfl); (intro K hK; go_simp)) | ((with_reducible refine k_store (T := 41) ?_); refine st_put rfl _ _ _ rfl _ rfl _ rfl ?_ s41 H 0 rfl rfl ?_; (simp [Value.oneCell']); (clear H; intro w H K hK; simp only [List.set_cons_zero, List.set_cons_succ, Act.eval, Value.cells, Array.getD_eq_getD_getElem?, List.getElem?_toArray, List.getElem?_cons_succ, List.getElem?_cons_zero, Option.getD_some] at H; go_simp)) | ((with_reducible refine k_store (T := 25) ?_); refine st_put rfl _ _ _ rfl _ rfl _ rfl ?_ s25 H 1 rfl rfl ?_; (simp [Value.oneCell']); (clear H; intro w H K hK; simp only [List.set_cons_zero, List.set_cons_succ, Act.eval, Value.cells, Array.getD_eq_getD_getElem?, List.getElem?_toArray, List.getElem?_cons_succ, List.getElem?_cons_zero, Option.getD_some] at H; go_simp)))
        refine (within H cl 1 255).mono ?_
        rintro e w ⟨rfl, HX⟩
        clear H
        have H := HX
        clear HX
        rw [e2]
        go_wp2_with (first | ((with_reducible refine k_load ?_); (first | refine st_load rfl _ _ rfl _ _ rfl ?_ H 2 rfl rfl ?_ | refine st_load rfl _ _ rfl _ _ rfl ?_ H 3 rfl rfl ?_); (kernel_rfl); (intro K hK; go_simp)) | ((with_reducible refine k_store (T := 41) ?_); refine st_put rfl _ _ _ rfl _ rfl _ rfl ?_ s41 H 0 rfl rfl ?_; (simp [Value.oneCell']); (clear H; intro w H K hK; simp only [List.set_cons_zero, List.set_cons_succ, Act.eval, Value.cells, Array.getD_eq_getD_getElem?, List.getElem?_toArray, List.getElem?_cons_succ, List.getElem?_cons_zero, Option.getD_some] at H; go_simp)) | ((with_reducible refine k_store (T := 25) ?_); refine st_put rfl _ _ _ rfl _ rfl _ rfl ?_ s25 H 1 rfl rfl ?_; (simp [Value.oneCell']); (clear H; intro w H K hK; simp only [List.set_cons_zero, List.set_cons_succ, Act.eval, Value.cells, Array.getD_eq_getD_getElem?, List.getElem?_toArray, List.getElem?_cons_succ, List.getElem?_cons_zero, Option.getD_some] at H; go_simp)))
        refine (within H op 1 1099511627776).mono ?_
        rintro e w ⟨rfl, HX⟩
        clear H
        have H := HX
        clear HX
        rw [e3]
        go_wp2_with (first | ((with_reducible refine k_load ?_); (first | refine st_load rfl _ _ rfl _ _ rfl ?_ H 2 rfl rfl ?_ | refine st_load rfl _ _ rfl _ _ rfl ?_ H 3 rfl rfl ?_); (kernel_rfl); (intro K hK; go_simp)) | ((with_reducible refine k_store (T := 41) ?_); refine st_put rfl _ _ _ rfl _ rfl _ rfl ?_ s41 H 0 rfl rfl ?_; (simp [Value.oneCell']); (clear H; intro w H K hK; simp only [List.set_cons_zero, List.set_cons_succ, Act.eval, Value.cells, Array.getD_eq_getD_getElem?, List.getElem?_toArray, List.getElem?_cons_succ, List.getElem?_cons_zero, Option.getD_some] at H; go_simp)) | ((with_reducible refine k_store (T := 25) ?_); refine st_put rfl _ _ _ rfl _ rfl _ rfl ?_ s25 H 1 rfl rfl ?_; (simp [Value.oneCell']); (clear H; intro w H K hK; simp only [List.set_cons_zero, List.set_cons_succ, Act.eval, Value.cells, Array.getD_eq_getD_getElem?, List.getElem?_toArray, List.getElem?_cons_succ, List.getElem?_cons_zero, Option.getD_some] at H; go_simp)))
        refine bodyPost_ret (results_cct rfl rfl a25 s25 (H.get 1 rfl) rfl rfl a41 s41 (H.get 0 rfl) rfl) rfl ?_
        exact ⟨_, _, _, rfl, three_nil (H.sel 6 [])⟩
      · have e2 : (decide (1 ≤ cl) && decide (cl ≤ 255)) = false := by
          rw [Bool.eq_false_iff]
          simpa using h2
        clear hc h1 h2
        have tok : True := trivial
        go_enter Try.func24, Try.ntmps24
        go_wp2_with (first | ((with_reducible refine k_box (T := 25) ?_); refine st_box rfl _ _ rfl _ rfl H ?_; (clear H; intro g3 w H K hK; simp only [Value.cells, Act.eval, Value.cells, Array.getD_eq_getD_getElem?, List.getElem?_toArray, List.getElem?_cons_succ, List.getElem?_cons_zero, Option.getD_some] at H; go_simp)) | ((with_reducible refine k_box (T := 29) ?_); refine st_box rfl _ _ rfl _ rfl H ?_; (clear H; intro g4 w H K hK; simp only [Value.cells, Act.eval, Value.cells, Array.getD_eq_getD_getElem?, List.getElem?_toArray, List.getElem?_cons_succ, List.getElem?_cons_zero, Option.getD_some] at H; go_simp)) | ((with_reducible refine k_alloc (T := 25) ?_); (have _t := tok); refine st_alloc rfl _ rfl _ z25 _ rfl H ?_; (clear H tok _t; intro g6 w H K hK; simp only [Value.cells] at H; go_simp)) | ((with_reducible refine k_alloc (T := 41) ?_); refine st_alloc rfl _ rfl _ z41 _ rfl H ?_; (clear H; intro g7 w H K hK; simp only [Value.cells] at H; go_simp)) | ((with_reducible refine k_load ?_); (first | refine st_load rfl _ _ rfl _ _ rfl ?_ H 2 rfl rfl ?_ | refine st_load rfl _ _ rfl _ _ rfl ?_ H 3 rfl rfl ?_); (kernel_rfl); (intro K hK; go_simp)))
        refine (within H kd 1 7).mono ?_
        rintro e w ⟨rfl, HX⟩
        clear H
        have H := HX
        clear HX
        rw [e1]
        go_wp2_with (first | ((with_reducible refine k_load ?_); (first | refine st_load rfl _ _ rfl _ _ rfl ?_ H 2 rfl rfl ?_ | refine st_load rfl _ _ rfl _ _ rfl ?_ H 3 rfl rfl ?_); (kernel_rfl); (intro K hK; go_simp)) | ((with_reducible refine k_store (T := 41) ?_); refine st_put rfl _ _ _ rfl _ rfl _ rfl ?_ s41 H 0 rfl rfl ?_; (simp [Value.oneCell']); (clear H; intro w H K hK; simp only [List.set_cons_zero, List.set_cons_succ, Act.eval, Value.cells, Array.getD_eq_getD_getElem?, List.getElem?_toArray, List.getElem?_cons_succ, List.getElem?_cons_zero, Option.getD_some] at H; go_simp)) | ((with_reducible refine k_store (T := 25) ?_); refine st_put rfl _ _ _ rfl _ rfl _ rfl ?_ s25 H 1 rfl rfl ?_; (simp [Value.oneCell']); (clear H; intro w H K hK; simp only [List.set_cons_zero, List.set_cons_succ, Act.eval, Value.cells, Array.getD_eq_getD_getElem?, List.getElem?_toArray, List.getElem?_cons_succ, List.getElem?_cons_zero, Option.getD_some] at H; go_simp)))
        refine (within H cl 1 255).mono ?_
        rintro e w ⟨rfl, HX⟩
        clear H
        have H := HX
        clear HX
        rw [e2]
        go_wp2_with (first | ((with_reducible refine k_load ?_); (first | refine st_load rfl _ _ rfl _ _ rfl ?_ H 2 rfl rfl ?_ | refine st_load rfl _ _ rfl _ _ rfl ?_ H 3 rfl rfl ?_); (kernel_rfl); (intro K hK; go_simp)) | ((with_reducible refine k_store (T := 41) ?_); refine st_put rfl _ _ _ rfl _ rfl _ rfl ?_ s41 H 0 rfl rfl ?_; (simp [Value.oneCell']); (clear H; intro w H K hK; simp only [List.set_cons_zero, List.set_cons_succ, Act.eval, Value.cells, Array.getD_eq_getD_getElem?, List.getElem?_toArray, List.getElem?_cons_succ, List.getElem?_cons_zero, Option.getD_some] at H; go_simp)) | ((with_reducible refine k_store (T := 25) ?_); refine st_put rfl _ _ _ rfl _ rfl _ rfl ?_ s25 H 1 rfl rfl ?_; (simp [Value.oneCell']); (clear H; intro w H K hK; simp only [List.set_cons_zero, List.set_cons_succ, Act.eval, Value.cells, Array.getD_eq_getD_getElem?, List.getElem?_toArray, List.getElem?_cons_succ, List.getElem?_cons_zero, Option.getD_some] at H; go_simp)))
        refine bodyPost_ret (results_cct rfl rfl a25 s25 (H.get 1 rfl) rfl rfl a41 s41 (H.get 0 rfl) rfl) rfl ?_
        exact ⟨_, _, _, rfl, three_nil (H.sel 6 [])⟩
    · have e1 : (decide (1 ≤ kd) && decide (kd ≤ 7)) = false := by
        rw [Bool.eq_false_iff]
        simpa using h1
      clear hc h1
      have tok : True := trivial
      go_enter Try.func24, Try.ntmps24
      go_wp2_with (first | ((with_reducible refine k_box (T := 25) ?_); refine st_box rfl _ _ rfl _ rfl H ?_; (clear H; intro g3 w H K hK; simp only [Value.cells, Act.eval, Value.cells, Array.getD_eq_getD_getElem?, List.getElem?_toArray, List.getElem?_cons_succ, List.getElem?_cons_zero, Option.getD_some] at H; go_simp)) | ((with_reducible refine k_box (T := 29) ?_); refine st_box rfl _ _ rfl _ rfl H ?_; (clear H; intro g4 w H K hK; simp only [Value.cells, Act.eval, Value.cells, Array.getD_eq_getD_getElem?, List.getElem?_toArray, List.getElem?_cons_succ, List.getElem?_cons_zero, Option.getD_some] at H; go_simp)) | ((with_reducible refine k_alloc (T := 25) ?_); (have _t := tok); refine st_alloc rfl _ rfl _ z25 _ rfl H ?_; (clear H tok _t; intro g6 w H K hK; simp only [Value.cells] at H; go_simp)) | ((with_reducible refine k_alloc (T := 41) ?_); refine st_alloc rfl _ rfl _ z41 _ rfl H ?_; (clear H; intro g7 w H K hK; simp only [Value.cells] at H; go_simp)) | ((with_reducible refine k_load ?_); (first | refine st_load rfl _ _ rfl _ _ rfl ?_ H 2 rfl rfl ?_ | refine st_load rfl _ _ rfl _ _ rfl ?_ H 3 rfl rfl ?_); (kernel_rfl); (intro K hK; go_simp)))
      refine (within H kd 1 7).mono ?_
      rintro e w ⟨rfl, HX⟩
      clear H
      have H := HX
      clear HX
      rw [e1]
      go_wp2_with (first | ((with_reducible refine k_load ?_); (first | refine st_load rfl _ _ rfl _ _ rfl ?_ H 2 rfl rfl ?_ | refine st_load rfl _ _ rfl _ _ rfl ?_ H 3 rfl rfl ?_); (kernel_rfl); (intro K hK; go_simp)) | ((with_reducible refine k_store (T := 41) ?_); refine st_put rfl _ _ _ rfl _ rfl _ rfl ?_ s41 H 0 rfl rfl ?_; (simp [Value.oneCell']); (clear H; intro w H K hK; simp only [List.set_cons_zero, List.set_cons_succ, Act.eval, Value.cells, Array.getD_eq_getD_getElem?, List.getElem?_toArray, List.getElem?_cons_succ, List.getElem?_cons_zero, Option.getD_some] at H; go_simp)) | ((with_reducible refine k_store (T := 25) ?_); refine st_put rfl _ _ _ rfl _ rfl _ rfl ?_ s25 H 1 rfl rfl ?_; (simp [Value.oneCell']); (clear H; intro w H K hK; simp only [List.set_cons_zero, List.set_cons_succ, Act.eval, Value.cells, Array.getD_eq_getD_getElem?, List.getElem?_toArray, List.getElem?_cons_succ, List.getElem?_cons_zero, Option.getD_some] at H; go_simp)))
      refine bodyPost_ret (results_cct rfl rfl a25 s25 (H.get 1 rfl) rfl rfl a41 s41 (H.get 0 rfl) rfl) rfl ?_
      exact ⟨_, _, _, rfl, three_nil (H.sel 6 [])⟩
  · simp only [Bool.or_eq_false_iff, decide_eq_false_iff_not] at hc
    obtain ⟨h1, h2, h3, h4, h5, h6⟩ := hc
    have e1 : (decide (1 ≤ kd) && decide (kd ≤ 7)) = true := by simp; omega
    have e2 : (decide (1 ≤ cl) && decide (cl ≤ 255)) = true := by simp; omega
    have e3 : (decide (1 ≤ op) && decide (op ≤ 1099511627776)) = true := by simp; omega
    clear h1 h2 h3 h4 h5 h6
    have tok : True := trivial
    go_enter Try.func24, Try.ntmps24
    go_wp2_with (first | ((with_reducible refine k_box (T := 25) ?_); refine st_box rfl _ _ rfl _ rfl H ?_; (clear H; intro g3 w H K hK; simp only [Value.cells, Act.eval, Value.cells, Array.getD_eq_getD_getElem?, List.getElem?_toArray, List.getElem?_cons_succ, List.getElem?_cons_zero, Option.getD_some] at H; go_simp)) | ((with_reducible refine k_box (T := 29) ?_); refine st_box rfl _ _ rfl _ rfl H ?_; (clear H; intro g4 w H K hK; simp only [Value.cells, Act.eval, Value.cells, Array.getD_eq_getD_getElem?, List.getElem?_toArray, List.getElem?_cons_succ, List.getElem?_cons_zero, Option.getD_some] at H; go_simp)) | ((with_reducible refine k_alloc (T := 25) ?_); (have _t := tok); refine st_alloc rfl _ rfl _ z25 _ rfl H ?_; (clear H tok _t; intro g6 w H K hK; simp only [Value.cells] at H; go_simp)) | ((with_reducible refine k_alloc (T := 41) ?_); refine st_alloc rfl _ rfl _ z41 _ rfl H ?_; (clear H; intro g7 w H K hK; simp only [Value.cells] at H; go_simp)) | ((with_reducible refine k_load ?_); (first | refine st_load rfl _ _ rfl _ _ rfl ?_ H 2 rfl rfl ?_ | refine st_load rfl _ _ rfl _ _ rfl ?_ H 3 rfl rfl ?_); (kernel_rfl); (intro K hK; go_simp)))
    refine (within H kd 1 7).mono ?_
    rintro e w ⟨rfl, HX⟩
    clear H
    have H := HX
    clear HX
    rw [e1]
    go_wp2_with (first | ((with_reducible refine k_load ?_); (first | refine st_load rfl _ _ rfl _ _ rfl ?_ H 2 rfl rfl ?_ | refine st_load rfl _ _ rfl _ _ rfl ?_ H 3 rfl rfl ?_); (kernel_rfl); (intro K hK; go_simp)) | ((with_reducible refine k_store (T := 41) ?_); refine st_put rfl _ _ _ rfl _ rfl _ rfl ?_ s41 H 0 rfl rfl ?_; (simp [Value.oneCell']); (clear H; intro w H K hK; simp only [List.set_cons_zero, List.set_cons_succ, Act.eval, Value.cells, Array.getD_eq_getD_getElem?, List.getElem?_toArray, List.getElem?_cons_succ, List.getElem?_cons_zero, Option.getD_some] at H; go_simp)) | ((with_reducible refine k_store (T := 25) ?_); refine st_put rfl _ _ _ rfl _ rfl _ rfl ?_ s25 H 1 rfl rfl ?_; (simp [Value.oneCell']); (clear H; intro w H K hK; simp only [List.set_cons_zero, List.set_cons_succ, Act.eval, Value.cells, Array.getD_eq_getD_getElem?, List.getElem?_toArray, List.getElem?_cons_succ, List.getElem?_cons_zero, Option.getD_some] at H; go_simp)))
    refine (within H cl 1 255).mono ?_
    rintro e w ⟨rfl, HX⟩
    clear H
    have H := HX
    clear HX
    rw [e2]
    go_wp2_with (first | ((with_reducible refine k_load ?_); (first | refine st_load rfl _ _ rfl _ _ rfl ?_ H 2 rfl rfl ?_ | refine st_load rfl _ _ rfl _ _ rfl ?_ H 3 rfl rfl ?_); (kernel_rfl); (intro K hK; go_simp)) | ((with_reducible refine k_store (T := 41) ?_); refine st_put rfl _ _ _ rfl _ rfl _ rfl ?_ s41 H 0 rfl rfl ?_; (simp [Value.oneCell']); (clear H; intro w H K hK; simp only [List.set_cons_zero, List.set_cons_succ, Act.eval, Value.cells, Array.getD_eq_getD_getElem?, List.getElem?_toArray, List.getElem?_cons_succ, List.getElem?_cons_zero, Option.getD_some] at H; go_simp)) | ((with_reducible refine k_store (T := 25) ?_); refine st_put rfl _ _ _ rfl _ rfl _ rfl ?_ s25 H 1 rfl rfl ?_; (simp [Value.oneCell']); (clear H; intro w H K hK; simp only [List.set_cons_zero, List.set_cons_succ, Act.eval, Value.cells, Array.getD_eq_getD_getElem?, List.getElem?_toArray, List.getElem?_cons_succ, List.getElem?_cons_zero, Option.getD_some] at H; go_simp)))
    refine (within H op 1 1099511627776).mono ?_
    rintro e w ⟨rfl, HX⟩
    clear H
    have H := HX
    clear HX
    rw [e3]
    go_wp2_with (first | ((with_reducible refine k_load ?_); (first | refine st_load rfl _ _ rfl _ _ rfl ?_ H 2 rfl rfl ?_ | refine st_load rfl _ _ rfl _ _ rfl ?_ H 3 rfl rfl ?_); (kernel_rfl); (intro K hK; go_simp)) | ((with_reducible refine k_store (T := 41) ?_); refine st_put rfl _ _ _ rfl _ rfl _ rfl ?_ s41 H 0 rfl rfl ?_; (simp [Value.oneCell']); (clear H; intro w H K hK; simp only [List.set_cons_zero, List.set_cons_succ, Act.eval, Value.cells, Array.getD_eq_getD_getElem?, List.getElem?_toArray, List.getElem?_cons_succ, List.getElem?_cons_zero, Option.getD_some] at H; go_simp)) | ((with_reducible refine k_store (T := 25) ?_); refine st_put rfl _ _ _ rfl _ rfl _ rfl ?_ s25 H 1 rfl rfl ?_; (simp [Value.oneCell']); (clear H; intro w H K hK; simp only [List.set_cons_zero, List.set_cons_succ, Act.eval, Value.cells, Array.getD_eq_getD_getElem?, List.getElem?_toArray, List.getElem?_cons_succ, List.getElem?_cons_zero, Option.getD_some] at H; go_simp)))
    refine bodyPost_ret (results_cct rfl rfl a25 s25 (H.get 1 rfl) rfl rfl a41 s41 (H.get 0 rfl) rfl) rfl ?_
    exact ⟨_, _, _, rfl, three_nil (H.sel 6 [])⟩

theorem rApply_do {room : Int} {ve vl : Value} {b : Bu} {c : Cm} {i : Nat} (hL : L[i]? = some (Arg W)) (hc : wrongS c = false) (hu : b.u < 1048576) (hu0 : -9223372036854775808 ≤ b.u) (be : (b.es.length + 1) * 40 ≤ 140737488355328) (bl : (b.ls.length + 1) * 56 ≤ 140737488355328)
    (H : At w0 (RE W ve b.es :: RL W vl b.ls :: L) w) :
    Calls Try.prog 24 #[.agg #[.int .i64 b.u, ve, vl], .agg c.cells.toArray, .int .i64 room] w (RrPost w0 W L (rApplyS b c room)) := by
  obtain ⟨⟨⟨ae, ⟨xn, xf, xo, xs⟩, al⟩, es2⟩, hch⟩ : ∃ r, ansS b.es c room = r := ⟨_, rfl⟩
  have hap : rApplyS b c room = ((0, ⟨ae, ⟨xn, xf, xo, xs⟩, al⟩), ⟨b.u + 1, es2, if c.k = 3 ∨ c.k = 4 then b.ls else notedS b.ls (lastS c (b.u + 1) ae ⟨xn, xf, xo, xs⟩)⟩) := by
    unfold rApplyS
    rw [if_neg (by rw [hc]; decide), if_neg (by omega), hch]
  rw [hap]
  clear hap
  obtain ⟨RS, hRS⟩ : ∃ RS : List La, (if c.k = 3 ∨ c.k = 4 then b.ls else notedS b.ls (lastS c (b.u + 1) ae ⟨xn, xf, xo, xs⟩)) = RS := ⟨_, rfl⟩
  rw [hRS]
  have HRS := Lib.hid hRS
  clear hRS
  have hans := Lib.hid (fun (w2 : World) (M : List HProp) (j : Nat) (hM : M[j]? = some (Arg W)) (HM : At w0 (RE W ve b.es :: M) w2) => answered (c := c) (room := room) hM be HM)
  rw [hch] at hans
  have HL := Lib.hid hL
  clear hch hL
  obtain ⟨kd, cl, op, nm, fc, fo, nc, no, sz⟩ := c
  obtain ⟨u, es, ls⟩ := b
  dsimp only at *
  simp only [lastS, Cm.cells] at *
  obtain ⟨ade, cape, rfl, _⟩ := re_value H
  obtain ⟨adl, capl, rfl, _⟩ := rl_value (H.pick 1 rfl)
  replace H : At w0 (RE W (.slice ade es.length cape) es :: RL W (.slice adl ls.length capl) ls :: L) w := H
  unfold wrongS at hc
  dsimp only at hc
  simp only [Bool.or_eq_false_iff, decide_eq_false_iff_not] at hc
  obtain ⟨h1, h2, h3, h4, h5, h6⟩ := hc
  have e1 : (decide (1 ≤ kd) && decide (kd ≤ 7)) = true := by simp; omega
  have e2 : (decide (1 ≤ cl) && decide (cl ≤ 255)) = true := by simp; omega
  have e3 : (decide (1 ≤ op) && decide (op ≤ 1099511627776)) = true := by simp; omega
  have hw : IntKind.i64.wrap (u + 1) = u + 1 := IntWalk.i64_in _ (by omega)
  clear h1 h2 h3 h4 h5 h6
  have tok : True := trivial
  go_enter Try.func24, Try.ntmps24
  go_wp2_with (first | ((with_reducible refine k_box (T := 25) ?_); refine st_box rfl _ _ rfl _ rfl H ?_; (clear H; intro g3 w H K hK; simp only [Value.cells, Act.eval, Value.cells, Array.getD_eq_getD_getElem?, List.getElem?_toArray, List.getElem?_cons_succ, List.getElem?_cons_zero, Option.getD_some] at H; go_simp)) | ((with_reducible refine k_box (T := 29) ?_); refine st_box rfl _ _ rfl _ rfl H ?_; (clear H; intro g4 w H K hK; simp only [Value.cells, Act.eval, Value.cells, Array.getD_eq_getD_getElem?, List.getElem?_toArray, List.getElem?_cons_succ, List.getElem?_cons_zero, Option.getD_some] at H; go_simp)) | ((with_reducible refine k_alloc (T := 25) ?_); (have _t := tok); refine st_alloc rfl _ rfl _ z25 _ rfl H ?_; (clear H tok _t; intro g6 w H K hK; simp only [Value.cells] at H; go_simp)) | ((with_reducible refine k_alloc (T := 41) ?_); refine st_alloc rfl _ rfl _ z41 _ rfl H ?_; (clear H; intro g7 w H K hK; simp only [Value.cells] at H; go_simp)) | ((with_reducible refine k_load ?_); (first | refine st_load rfl _ _ rfl _ _ rfl ?_ H 2 rfl rfl ?_ | refine st_load rfl _ _ rfl _ _ rfl ?_ H 3 rfl rfl ?_); (kernel_rfl); (intro K hK; go_simp)))
  refine (within H kd 1 7).mono ?_
  rintro e w ⟨rfl, HX⟩
  clear H
  have H := HX
  clear HX
  rw [e1]
  go_wp2_with (first | ((with_reducible refine k_load ?_); (first | refine st_load rfl _ _ rfl _ _ rfl ?_ H 2 rfl rfl ?_ | refine st_load rfl _ _ rfl _ _ rfl ?_ H 3 rfl rfl ?_); (kernel_rfl); (intro K hK; go_simp)) | ((with_reducible refine k_store (T := 41) ?_); refine st_put rfl _ _ _ rfl _ rfl _ rfl ?_ s41 H 0 rfl rfl ?_; (simp [Value.oneCell']); (clear H; intro w H K hK; simp only [List.set_cons_zero, List.set_cons_succ, Act.eval, Value.cells, Array.getD_eq_getD_getElem?, List.getElem?_toArray, List.getElem?_cons_succ, List.getElem?_cons_zero, Option.getD_some] at H; go_simp)) | ((with_reducible refine k_store (T := 25) ?_); refine st_put rfl _ _ _ rfl _ rfl _ rfl ?_ s25 H 1 rfl rfl ?_; (simp [Value.oneCell']); (clear H; intro w H K hK; simp only [List.set_cons_zero, List.set_cons_succ, Act.eval, Value.cells, Array.getD_eq_getD_getElem?, List.getElem?_toArray, List.getElem?_cons_succ, List.getElem?_cons_zero, Option.getD_some] at H; go_simp)))
  refine (within H cl 1 255).mono ?_
  rintro e w ⟨rfl, HX⟩
  clear H
  have H := HX
  clear HX
  rw [e2]
  go_wp2_with (first | ((with_reducible refine k_load ?_); (first | refine st_load rfl _ _ rfl _ _ rfl ?_ H 2 rfl rfl ?_ | refine st_load rfl _ _ rfl _ _ rfl ?_ H 3 rfl rfl ?_); (kernel_rfl); (intro K hK; go_simp)) | ((with_reducible refine k_store (T := 41) ?_); refine st_put rfl _ _ _ rfl _ rfl _ rfl ?_ s41 H 0 rfl rfl ?_; (simp [Value.oneCell']); (clear H; intro w H K hK; simp only [List.set_cons_zero, List.set_cons_succ, Act.eval, Value.cells, Array.getD_eq_getD_getElem?, List.getElem?_toArray, List.getElem?_cons_succ, List.getElem?_cons_zero, Option.getD_some] at H; go_simp)) | ((with_reducible refine k_store (T := 25) ?_); refine st_put rfl _ _ _ rfl _ rfl _ rfl ?_ s25 H 1 rfl rfl ?_; (simp [Value.oneCell']); (clear H; intro w H K hK; simp only [List.set_cons_zero, List.set_cons_succ, Act.eval, Value.cells, Array.getD_eq_getD_getElem?, List.getElem?_toArray, List.getElem?_cons_succ, List.getElem?_cons_zero, Option.getD_some] at H; go_simp)))
  refine (within H op 1 1099511627776).mono ?_
  rintro e w ⟨rfl, HX⟩
  clear H
  have H := HX
  clear HX
  rw [e3]
  go_wp2_with (first | ((with_reducible refine k_load (T := 29) ?_); refine st_row rfl _ _ rfl _ rfl a29 9 s29 H 2 rfl rfl ?_; (intro K hK; go_simp)) | ((with_reducible refine k_load (T := 29) ?_); refine st_loads rfl _ _ rfl _ _ rfl a29 9 s29 H 2 rfl ?_ ?_; (simp); (intro K hK; go_simp)) | ((with_reducible refine k_load ?_); (first | refine st_load rfl _ _ rfl _ _ rfl ?_ H 2 rfl rfl ?_ | refine st_load rfl _ _ rfl _ _ rfl ?_ H 3 rfl rfl ?_); (kernel_rfl); (intro K hK; go_simp)))
  refine (hans.out _ _ (i + 5) (show (_ :: _ :: _ :: _ :: _ :: L)[i + 5]? = some (Arg W) from by simpa using HL.out) (H.sel 6 [4, 0, 1, 2, 3, 5])).mono ?_
  rintro e w4 ⟨v2, va, rfl, HX⟩
  clear H hans
  have H := HX
  clear HX
  obtain ⟨ad3, n3, cap3, rfl⟩ := re_form H
  obtain ⟨ad5, n5, cap5, rfl⟩ := own_form (H.pick 1 rfl)
  simp only [anV]
  by_cases hk3 : kd = 3
  · subst hk3
    go_wp2_with (first | ((with_reducible refine k_alloc (T := 41) ?_); refine st_alloc rfl _ rfl _ z41 _ rfl H ?_; (clear H; intro g9 w H K hK; simp only [Value.cells] at H; go_simp)) | ((with_reducible refine k_store (T := 41) ?_); refine st_put rfl _ _ _ rfl _ rfl _ rfl ?_ s41 H 0 rfl rfl ?_; (simp [Value.oneCell']); (clear H; intro w H K hK; simp only [List.set_cons_zero, List.set_cons_succ, Act.eval, Value.cells, Array.getD_eq_getD_getElem?, List.getElem?_toArray, List.getElem?_cons_succ, List.getElem?_cons_zero, Option.getD_some] at H; go_simp)) | ((with_reducible refine k_load (T := 27) ?_); refine st_row rfl _ _ rfl _ rfl a27 2 s27 H 1 rfl rfl ?_; (intro K hK; go_simp)) | ((with_reducible refine k_load (T := 27) ?_); refine st_loads rfl _ _ rfl _ _ rfl a27 2 s27 H 1 rfl ?_ ?_; (simp); (intro K hK; go_simp)) | ((with_reducible refine k_load ?_); (first | refine st_load rfl _ _ rfl _ _ rfl ?_ H 0 rfl rfl ?_ | refine st_load rfl _ _ rfl _ _ rfl ?_ H 1 rfl rfl ?_ | refine st_load rfl _ _ rfl _ _ rfl ?_ H 5 rfl rfl ?_ | refine st_load rfl _ _ rfl _ _ rfl ?_ H 6 rfl rfl ?_ | refine st_load rfl _ _ rfl _ _ rfl ?_ H 7 rfl rfl ?_); (kernel_rfl); (intro K hK; go_simp)) | ((with_reducible refine k_alloc (T := 25) ?_); refine st_alloc rfl _ rfl _ z25 _ rfl H ?_; (clear H; intro g11 w H K hK; simp only [Value.cells] at H; go_simp)) | ((with_reducible refine k_store (T := 25) ?_); refine st_put rfl _ _ _ rfl _ rfl _ rfl ?_ s25 H 0 rfl rfl ?_; (simp [Value.oneCell']); (clear H; intro w H K hK; simp only [List.set_cons_zero, List.set_cons_succ, Act.eval, Value.cells, Array.getD_eq_getD_getElem?, List.getElem?_toArray, List.getElem?_cons_succ, List.getElem?_cons_zero, Option.getD_some] at H; go_simp)))
    replace H : At w0 (Blk g11 (.cells #[.int .i64 (u + 1), .slice ad3 n3 cap3, .slice adl ls.length capl] 25 (0, 0)) :: Blk g9 (.cells #[.int .i64 ae, .string xn, .int .i64 xf, .int .i64 xo, .int .i64 xs, .slice ad5 n5 cap5] 41 (0, 0)) :: RE W (.slice ad3 n3 cap3) es2 :: OE (.slice ad5 n5 cap5) al :: Blk g7 (.cells #[.int .i64 0, .string ⟨#[]⟩, .int .i64 0, .int .i64 0, .int .i64 0, .slice none 0 0] 41 (0, 0)) :: Blk g6 (.cells #[.int .i64 0, .slice none 0 0, .slice none 0 0] 25 (0, 0)) :: Blk g4 (.cells #[.int .i64 3, .int .i64 cl, .int .i64 op, .string nm, .int .i64 fc, .int .i64 fo, .int .i64 nc, .int .i64 no, .int .i64 sz] 29 (0, 0)) :: Blk g3 (.cells #[.int .i64 u, .slice ade es.length cape, .slice adl ls.length capl] 25 (0, 0)) :: RL W (.slice adl ls.length capl) ls :: L) _ := H
    apply wp_region_eff [2, 3] (fun i => (#[[], [], [], [], []] : Array (List Nat)).getD i []) (fun val i => ((_ :: _ :: val 2 :: val 3 :: _ :: []) : List Value).toArray.getD i undef) (fun E val => At w0 (Blk g11 (.cells #[.int .i64 (u + 1), .slice ad3 n3 cap3, .slice adl ls.length capl] 25 (0, 0)) :: Blk g9 (.cells #[.int .i64 ae, .string xn, .int .i64 xf, .int .i64 xo, .int .i64 xs, .slice ad5 n5 cap5] 41 (0, 0)) :: RE W (.slice ad3 n3 cap3) es2 :: OE (.slice ad5 n5 cap5) al :: Blk g7 (.cells (if E 3 = true then #[.int .i64 ae, .string xn, .int .i64 xf, .int .i64 xo, .int .i64 xs, .slice ad5 n5 cap5] else #[.int .i64 0, .string ⟨#[]⟩, .int .i64 0, .int .i64 0, .int .i64 0, .slice none 0 0]) 41 (0, 0)) :: Blk g6 (.cells (if E 2 = true then #[.int .i64 (u + 1), .slice ad3 n3 cap3, .slice adl ls.length capl] else #[.int .i64 0, .slice none 0 0, .slice none 0 0]) 25 (0, 0)) :: Blk g4 (.cells #[.int .i64 3, .int .i64 cl, .int .i64 op, .string nm, .int .i64 fc, .int .i64 fo, .int .i64 nc, .int .i64 no, .int .i64 sz] 29 (0, 0)) :: Blk g3 (.cells #[.int .i64 u, .slice ade es.length cape, .slice adl ls.length capl] 25 (0, 0)) :: RL W (.slice adl ls.length capl) ls :: L)) (by kernel_rfl) (by kernel_rfl) (by kernel_rfl) (by kernel_rfl) (H)
    case step =>
      iterate 2 (refine ⟨eff_pl rfl (fun _ => by rfl) fun E val hn T ds w K H hk ho hK => ?_, ?_⟩; rotate_left)
      iterate 2 (refine ⟨eff_mk rfl (fun _ => by rfl) fun E val hE0 hcl hn T ds w K H hk ho hK => ?_, ?_⟩; rotate_left)
      refine ⟨eff_pl rfl (fun _ => by rfl) fun E val hn T ds w K H hk ho hK => ?_, ?_⟩; rotate_left
      exact trivial
      · have o11 := ho 11 (by kernel_rfl); clear ho; simp [know, dstAt, Region.binds] at hk o11
        (refine op_rowT (T := 25) rfl o11 a25 s25 H 0 rfl rfl ?_; exact hK _ H)
      · have o9 := ho 9 (by kernel_rfl); clear ho; simp [know, dstAt, Region.binds] at hk o9
        (refine op_rowT (T := 41) rfl o9 a41 s41 H 1 rfl rfl ?_; exact hK _ H)
      · have o6 := ho 6 (by kernel_rfl); clear ho; simp [know, dstAt, Region.binds] at hk o6
        (simp only [hE0, Bool.false_eq_true, if_false] at H); refine op_putT rfl o6 hk ?_ s25 H 5 rfl rfl rfl ?_; (simp [Value.oneCell']); (intro w' H; refine hK _ _ ?_; have t2 : updE E 2 2 = true := rfl; have t3 : updE E 2 3 = E 3 := rfl; simp only [t2, t3, if_true]; exact H)
      · have o7 := ho 7 (by kernel_rfl); clear ho; simp [know, dstAt, Region.binds] at hk o7
        (simp only [hE0, Bool.false_eq_true, if_false] at H); refine op_putT rfl o7 hk.1 ?_ s41 H 4 rfl rfl rfl ?_; (simp [Value.oneCell']); (intro w' H; refine hK _ _ ?_; have t3 : updE E 3 3 = true := rfl; have t2 : updE E 3 2 = E 2 := rfl; simp only [t2, t3, if_true]; exact H)
      · clear ho; simp [know, dstAt, Region.binds] at hk; go_simp; exact hK _ H
    case ins =>
      iterate 2 (refine ⟨ins_pl rfl (fun _ _ _ => rfl), ?_⟩)
      iterate 2 (refine ⟨ins_mk rfl (fun _ => rfl), ?_⟩)
      refine ⟨ins_pl rfl (fun _ _ _ => rfl), ?_⟩
      exact trivial
    case jns =>
      iterate 2 (refine ⟨j_pl (fun _ _ _ => rfl), ?_⟩)
      iterate 2 (refine ⟨j_mk rfl, ?_⟩)
      refine ⟨j_pl (fun _ _ _ => rfl), ?_⟩
      exact trivial
    case fin =>
      intro E val w6 hE H
      have e2 := hE 2 (by decide)
      have e3 := hE 3 (by decide)
      simp only [e2, e3, if_true] at H
      clear hE e2 e3
      simp [putAll, Act.put]
      go_wp2_with fail
      refine bodyPost_ret (results_cct rfl rfl a25 s25 (H.get 5 rfl) rfl rfl a41 s41 (H.get 4 rfl) rfl) rfl ?_
      rw [← HRS.out, if_pos (Or.inl trivial)]
      exact ⟨_, _, _, rfl, H.sel 9 [2, 8, 3]⟩
  · have hk3' : (kd == 3) = false := by simpa using hk3
    by_cases hk4 : kd = 4
    · subst hk4
      go_wp2_with (first | ((with_reducible refine k_alloc (T := 41) ?_); refine st_alloc rfl _ rfl _ z41 _ rfl H ?_; (clear H; intro g9 w H K hK; simp only [Value.cells] at H; go_simp)) | ((with_reducible refine k_store (T := 41) ?_); refine st_put rfl _ _ _ rfl _ rfl _ rfl ?_ s41 H 0 rfl rfl ?_; (simp [Value.oneCell']); (clear H; intro w H K hK; simp only [List.set_cons_zero, List.set_cons_succ, Act.eval, Value.cells, Array.getD_eq_getD_getElem?, List.getElem?_toArray, List.getElem?_cons_succ, List.getElem?_cons_zero, Option.getD_some] at H; go_simp)) | ((with_reducible refine k_load (T := 27) ?_); refine st_row rfl _ _ rfl _ rfl a27 2 s27 H 1 rfl rfl ?_; (intro K hK; go_simp)) | ((with_reducible refine k_load (T := 27) ?_); refine st_loads rfl _ _ rfl _ _ rfl a27 2 s27 H 1 rfl ?_ ?_; (simp); (intro K hK; go_simp)) | ((with_reducible refine k_load ?_); (first | refine st_load rfl _ _ rfl _ _ rfl ?_ H 0 rfl rfl ?_ | refine st_load rfl _ _ rfl _ _ rfl ?_ H 1 rfl rfl ?_ | refine st_load rfl _ _ rfl _ _ rfl ?_ H 5 rfl rfl ?_ | refine st_load rfl _ _ rfl _ _ rfl ?_ H 6 rfl rfl ?_ | refine st_load rfl _ _ rfl _ _ rfl ?_ H 7 rfl rfl ?_); (kernel_rfl); (intro K hK; go_simp)) | ((with_reducible refine k_alloc (T := 25) ?_); refine st_alloc rfl _ rfl _ z25 _ rfl H ?_; (clear H; intro g11 w H K hK; simp only [Value.cells] at H; go_simp)) | ((with_reducible refine k_store (T := 25) ?_); refine st_put rfl _ _ _ rfl _ rfl _ rfl ?_ s25 H 0 rfl rfl ?_; (simp [Value.oneCell']); (clear H; intro w H K hK; simp only [List.set_cons_zero, List.set_cons_succ, Act.eval, Value.cells, Array.getD_eq_getD_getElem?, List.getElem?_toArray, List.getElem?_cons_succ, List.getElem?_cons_zero, Option.getD_some] at H; go_simp)))
      replace H : At w0 (Blk g11 (.cells #[.int .i64 (u + 1), .slice ad3 n3 cap3, .slice adl ls.length capl] 25 (0, 0)) :: Blk g9 (.cells #[.int .i64 ae, .string xn, .int .i64 xf, .int .i64 xo, .int .i64 xs, .slice ad5 n5 cap5] 41 (0, 0)) :: RE W (.slice ad3 n3 cap3) es2 :: OE (.slice ad5 n5 cap5) al :: Blk g7 (.cells #[.int .i64 0, .string ⟨#[]⟩, .int .i64 0, .int .i64 0, .int .i64 0, .slice none 0 0] 41 (0, 0)) :: Blk g6 (.cells #[.int .i64 0, .slice none 0 0, .slice none 0 0] 25 (0, 0)) :: Blk g4 (.cells #[.int .i64 4, .int .i64 cl, .int .i64 op, .string nm, .int .i64 fc, .int .i64 fo, .int .i64 nc, .int .i64 no, .int .i64 sz] 29 (0, 0)) :: Blk g3 (.cells #[.int .i64 u, .slice ade es.length cape, .slice adl ls.length capl] 25 (0, 0)) :: RL W (.slice adl ls.length capl) ls :: L) _ := H
      apply wp_region_eff [2, 3] (fun i => (#[[], [], [], [], []] : Array (List Nat)).getD i []) (fun val i => ((_ :: _ :: val 2 :: val 3 :: _ :: []) : List Value).toArray.getD i undef) (fun E val => At w0 (Blk g11 (.cells #[.int .i64 (u + 1), .slice ad3 n3 cap3, .slice adl ls.length capl] 25 (0, 0)) :: Blk g9 (.cells #[.int .i64 ae, .string xn, .int .i64 xf, .int .i64 xo, .int .i64 xs, .slice ad5 n5 cap5] 41 (0, 0)) :: RE W (.slice ad3 n3 cap3) es2 :: OE (.slice ad5 n5 cap5) al :: Blk g7 (.cells (if E 3 = true then #[.int .i64 ae, .string xn, .int .i64 xf, .int .i64 xo, .int .i64 xs, .slice ad5 n5 cap5] else #[.int .i64 0, .string ⟨#[]⟩, .int .i64 0, .int .i64 0, .int .i64 0, .slice none 0 0]) 41 (0, 0)) :: Blk g6 (.cells (if E 2 = true then #[.int .i64 (u + 1), .slice ad3 n3 cap3, .slice adl ls.length capl] else #[.int .i64 0, .slice none 0 0, .slice none 0 0]) 25 (0, 0)) :: Blk g4 (.cells #[.int .i64 4, .int .i64 cl, .int .i64 op, .string nm, .int .i64 fc, .int .i64 fo, .int .i64 nc, .int .i64 no, .int .i64 sz] 29 (0, 0)) :: Blk g3 (.cells #[.int .i64 u, .slice ade es.length cape, .slice adl ls.length capl] 25 (0, 0)) :: RL W (.slice adl ls.length capl) ls :: L)) (by kernel_rfl) (by kernel_rfl) (by kernel_rfl) (by kernel_rfl) (H)
      case step =>
        iterate 2 (refine ⟨eff_pl rfl (fun _ => by rfl) fun E val hn T ds w K H hk ho hK => ?_, ?_⟩; rotate_left)
        iterate 2 (refine ⟨eff_mk rfl (fun _ => by rfl) fun E val hE0 hcl hn T ds w K H hk ho hK => ?_, ?_⟩; rotate_left)
        refine ⟨eff_pl rfl (fun _ => by rfl) fun E val hn T ds w K H hk ho hK => ?_, ?_⟩; rotate_left
        exact trivial
        · have o11 := ho 11 (by kernel_rfl); clear ho; simp [know, dstAt, Region.binds] at hk o11
          (refine op_rowT (T := 25) rfl o11 a25 s25 H 0 rfl rfl ?_; exact hK _ H)
        · have o9 := ho 9 (by kernel_rfl); clear ho; simp [know, dstAt, Region.binds] at hk o9
          (refine op_rowT (T := 41) rfl o9 a41 s41 H 1 rfl rfl ?_; exact hK _ H)
        · have o6 := ho 6 (by kernel_rfl); clear ho; simp [know, dstAt, Region.binds] at hk o6
          (simp only [hE0, Bool.false_eq_true, if_false] at H); refine op_putT rfl o6 hk ?_ s25 H 5 rfl rfl rfl ?_; (simp [Value.oneCell']); (intro w' H; refine hK _ _ ?_; have t2 : updE E 2 2 = true := rfl; have t3 : updE E 2 3 = E 3 := rfl; simp only [t2, t3, if_true]; exact H)
        · have o7 := ho 7 (by kernel_rfl); clear ho; simp [know, dstAt, Region.binds] at hk o7
          (simp only [hE0, Bool.false_eq_true, if_false] at H); refine op_putT rfl o7 hk.1 ?_ s41 H 4 rfl rfl rfl ?_; (simp [Value.oneCell']); (intro w' H; refine hK _ _ ?_; have t3 : updE E 3 3 = true := rfl; have t2 : updE E 3 2 = E 2 := rfl; simp only [t2, t3, if_true]; exact H)
        · clear ho; simp [know, dstAt, Region.binds] at hk; go_simp; exact hK _ H
      case ins =>
        iterate 2 (refine ⟨ins_pl rfl (fun _ _ _ => rfl), ?_⟩)
        iterate 2 (refine ⟨ins_mk rfl (fun _ => rfl), ?_⟩)
        refine ⟨ins_pl rfl (fun _ _ _ => rfl), ?_⟩
        exact trivial
      case jns =>
        iterate 2 (refine ⟨j_pl (fun _ _ _ => rfl), ?_⟩)
        iterate 2 (refine ⟨j_mk rfl, ?_⟩)
        refine ⟨j_pl (fun _ _ _ => rfl), ?_⟩
        exact trivial
      case fin =>
        intro E val w6 hE H
        have e2 := hE 2 (by decide)
        have e3 := hE 3 (by decide)
        simp only [e2, e3, if_true] at H
        clear hE e2 e3
        simp [putAll, Act.put]
        go_wp2_with fail
        refine bodyPost_ret (results_cct rfl rfl a25 s25 (H.get 5 rfl) rfl rfl a41 s41 (H.get 4 rfl) rfl) rfl ?_
        rw [← HRS.out, if_pos (Or.inr trivial)]
        exact ⟨_, _, _, rfl, H.sel 9 [2, 8, 3]⟩
    · have hk4' : (kd == 4) = false := by simpa using hk4
      have hk3q : (kd != 3) = true := by simpa using hk3
      have hk4q : (kd != 4) = true := by simpa using hk4
      go_wp2_with (first | ((with_reducible refine k_alloc (T := 41) ?_); refine st_alloc rfl _ rfl _ z41 _ rfl H ?_; (clear H; intro g9 w H K hK; simp only [Value.cells] at H; go_simp)) | ((with_reducible refine k_store (T := 41) ?_); refine st_put rfl _ _ _ rfl _ rfl _ rfl ?_ s41 H 0 rfl rfl ?_; (simp [Value.oneCell']); (clear H; intro w H K hK; simp only [List.set_cons_zero, List.set_cons_succ, Act.eval, Value.cells, Array.getD_eq_getD_getElem?, List.getElem?_toArray, List.getElem?_cons_succ, List.getElem?_cons_zero, Option.getD_some] at H; go_simp)) | ((with_reducible refine k_load (T := 27) ?_); refine st_row rfl _ _ rfl _ rfl a27 2 s27 H 1 rfl rfl ?_; (intro K hK; go_simp)) | ((with_reducible refine k_load (T := 27) ?_); refine st_loads rfl _ _ rfl _ _ rfl a27 2 s27 H 1 rfl ?_ ?_; (simp); (intro K hK; go_simp)) | ((with_reducible refine k_load ?_); (first | refine st_load rfl _ _ rfl _ _ rfl ?_ H 0 rfl rfl ?_ | refine st_load rfl _ _ rfl _ _ rfl ?_ H 1 rfl rfl ?_ | refine st_load rfl _ _ rfl _ _ rfl ?_ H 5 rfl rfl ?_ | refine st_load rfl _ _ rfl _ _ rfl ?_ H 6 rfl rfl ?_ | refine st_load rfl _ _ rfl _ _ rfl ?_ H 7 rfl rfl ?_); (kernel_rfl); (intro K hK; go_simp)) | ((with_reducible refine k_alloc (T := 25) ?_); refine st_alloc rfl _ rfl _ z25 _ rfl H ?_; (clear H; intro g11 w H K hK; simp only [Value.cells] at H; go_simp)) | ((with_reducible refine k_store (T := 25) ?_); refine st_put rfl _ _ _ rfl _ rfl _ rfl ?_ s25 H 0 rfl rfl ?_; (simp [Value.oneCell']); (clear H; intro w H K hK; simp only [List.set_cons_zero, List.set_cons_succ, Act.eval, Value.cells, Array.getD_eq_getD_getElem?, List.getElem?_toArray, List.getElem?_cons_succ, List.getElem?_cons_zero, Option.getD_some] at H; go_simp)))
      replace H : At w0 (Blk g11 (.cells #[.int .i64 (u + 1), .slice ad3 n3 cap3, .slice adl ls.length capl] 25 (0, 0)) :: Blk g9 (.cells #[.int .i64 ae, .string xn, .int .i64 xf, .int .i64 xo, .int .i64 xs, .slice ad5 n5 cap5] 41 (0, 0)) :: RE W (.slice ad3 n3 cap3) es2 :: OE (.slice ad5 n5 cap5) al :: Blk g7 (.cells #[.int .i64 0, .string ⟨#[]⟩, .int .i64 0, .int .i64 0, .int .i64 0, .slice none 0 0] 41 (0, 0)) :: Blk g6 (.cells #[.int .i64 0, .slice none 0 0, .slice none 0 0] 25 (0, 0)) :: Blk g4 (.cells #[.int .i64 kd, .int .i64 cl, .int .i64 op, .string nm, .int .i64 fc, .int .i64 fo, .int .i64 nc, .int .i64 no, .int .i64 sz] 29 (0, 0)) :: Blk g3 (.cells #[.int .i64 u, .slice ade es.length cape, .slice adl ls.length capl] 25 (0, 0)) :: RL W (.slice adl ls.length capl) ls :: L) _ := H
      refine (noted (x := ⟨cl, op, u + 1, ae, xf, xo, xs⟩) (rl_recs (i := i + 8) (by simpa using HL.out) (H.pick 8 rfl)) bl H).mono ?_
      rintro e w5 ⟨v6, rfl, HX⟩
      clear H
      obtain ⟨ad6, n6, cap6, rfl⟩ := own_form HX
      have H : At w0 (Blk g11 (.cells #[.int .i64 (u + 1), .slice ad3 n3 cap3, .slice adl ls.length capl] 25 (0, 0)) :: Blk g9 (.cells #[.int .i64 ae, .string xn, .int .i64 xf, .int .i64 xo, .int .i64 xs, .slice ad5 n5 cap5] 41 (0, 0)) :: RE W (.slice ad3 n3 cap3) es2 :: OE (.slice ad5 n5 cap5) al :: Blk g7 (.cells #[.int .i64 0, .string ⟨#[]⟩, .int .i64 0, .int .i64 0, .int .i64 0, .slice none 0 0] 41 (0, 0)) :: Blk g6 (.cells #[.int .i64 0, .slice none 0 0, .slice none 0 0] 25 (0, 0)) :: Blk g4 (.cells #[.int .i64 kd, .int .i64 cl, .int .i64 op, .string nm, .int .i64 fc, .int .i64 fo, .int .i64 nc, .int .i64 no, .int .i64 sz] 29 (0, 0)) :: Blk g3 (.cells #[.int .i64 u, .slice ade es.length cape, .slice adl ls.length capl] 25 (0, 0)) :: RL W (.slice ad6 n6 cap6) (notedS ls ⟨cl, op, u + 1, ae, xf, xo, xs⟩) :: L) w5 := (At.imp HX fun _ hh => (.inl hh : RL W (.slice ad6 n6 cap6) (notedS ls ⟨cl, op, u + 1, ae, xf, xo, xs⟩) _)).sel 10 [1, 2, 3, 4, 5, 6, 7, 8, 0]
      clear HX
      go_wp2_with ((with_reducible refine k_store ?_); refine st_store rfl _ _ _ rfl _ _ rfl _ rfl rfl ?_ H 0 rfl ?_ ?_; (kernel_rfl); (simp); (clear H; intro w H K hK; simp only [List.set_cons_zero, List.set_cons_succ, List.setIfInBounds_toArray, Act.eval, Value.cells, Array.getD_eq_getD_getElem?, List.getElem?_toArray, List.getElem?_cons_succ, List.getElem?_cons_zero, Option.getD_some] at H; go_simp))
      apply wp_region_eff [2, 3] (fun i => (#[[], [], [], [], []] : Array (List Nat)).getD i []) (fun val i => ((_ :: _ :: val 2 :: val 3 :: _ :: []) : List Value).toArray.getD i undef) (fun E val => At w0 (Blk g11 (.cells #[.int .i64 (u + 1), .slice ad3 n3 cap3, .slice ad6 n6 cap6] 25 (0, 0)) :: Blk g9 (.cells #[.int .i64 ae, .string xn, .int .i64 xf, .int .i64 xo, .int .i64 xs, .slice ad5 n5 cap5] 41 (0, 0)) :: RE W (.slice ad3 n3 cap3) es2 :: OE (.slice ad5 n5 cap5) al :: Blk g7 (.cells (if E 3 = true then #[.int .i64 ae, .string xn, .int .i64 xf, .int .i64 xo, .int .i64 xs, .slice ad5 n5 cap5] else #[.int .i64 0, .string ⟨#[]⟩, .int .i64 0, .int .i64 0, .int .i64 0, .slice none 0 0]) 41 (0, 0)) :: Blk g6 (.cells (if E 2 = true then #[.int .i64 (u + 1), .slice ad3 n3 cap3, .slice ad6 n6 cap6] else #[.int .i64 0, .slice none 0 0, .slice none 0 0]) 25 (0, 0)) :: Blk g4 (.cells #[.int .i64 kd, .int .i64 cl, .int .i64 op, .string nm, .int .i64 fc, .int .i64 fo, .int .i64 nc, .int .i64 no, .int .i64 sz] 29 (0, 0)) :: Blk g3 (.cells #[.int .i64 u, .slice ade es.length cape, .slice adl ls.length capl] 25 (0, 0)) :: RL W (.slice ad6 n6 cap6) (notedS ls ⟨cl, op, u + 1, ae, xf, xo, xs⟩) :: L)) (by kernel_rfl) (by kernel_rfl) (by kernel_rfl) (by kernel_rfl) (H)
      case step =>
        iterate 2 (refine ⟨eff_pl rfl (fun _ => by rfl) fun E val hn T ds w K H hk ho hK => ?_, ?_⟩; rotate_left)
        iterate 2 (refine ⟨eff_mk rfl (fun _ => by rfl) fun E val hE0 hcl hn T ds w K H hk ho hK => ?_, ?_⟩; rotate_left)
        refine ⟨eff_pl rfl (fun _ => by rfl) fun E val hn T ds w K H hk ho hK => ?_, ?_⟩; rotate_left
        exact trivial
        · have o11 := ho 11 (by kernel_rfl); clear ho; simp [know, dstAt, Region.binds] at hk o11
          (refine op_rowT (T := 25) rfl o11 a25 s25 H 0 rfl rfl ?_; exact hK _ H)
        · have o9 := ho 9 (by kernel_rfl); clear ho; simp [know, dstAt, Region.binds] at hk o9
          (refine op_rowT (T := 41) rfl o9 a41 s41 H 1 rfl rfl ?_; exact hK _ H)
        · have o6 := ho 6 (by kernel_rfl); clear ho; simp [know, dstAt, Region.binds] at hk o6
          (simp only [hE0, Bool.false_eq_true, if_false] at H); refine op_putT rfl o6 hk ?_ s25 H 5 rfl rfl rfl ?_; (simp [Value.oneCell']); (intro w' H; refine hK _ _ ?_; have t2 : updE E 2 2 = true := rfl; have t3 : updE E 2 3 = E 3 := rfl; simp only [t2, t3, if_true]; exact H)
        · have o7 := ho 7 (by kernel_rfl); clear ho; simp [know, dstAt, Region.binds] at hk o7
          (simp only [hE0, Bool.false_eq_true, if_false] at H); refine op_putT rfl o7 hk.1 ?_ s41 H 4 rfl rfl rfl ?_; (simp [Value.oneCell']); (intro w' H; refine hK _ _ ?_; have t3 : updE E 3 3 = true := rfl; have t2 : updE E 3 2 = E 2 := rfl; simp only [t2, t3, if_true]; exact H)
        · clear ho; simp [know, dstAt, Region.binds] at hk; go_simp; exact hK _ H
      case ins =>
        iterate 2 (refine ⟨ins_pl rfl (fun _ _ _ => rfl), ?_⟩)
        iterate 2 (refine ⟨ins_mk rfl (fun _ => rfl), ?_⟩)
        refine ⟨ins_pl rfl (fun _ _ _ => rfl), ?_⟩
        exact trivial
      case jns =>
        iterate 2 (refine ⟨j_pl (fun _ _ _ => rfl), ?_⟩)
        iterate 2 (refine ⟨j_mk rfl, ?_⟩)
        refine ⟨j_pl (fun _ _ _ => rfl), ?_⟩
        exact trivial
      case fin =>
        intro E val w6 hE H
        have e2 := hE 2 (by decide)
        have e3 := hE 3 (by decide)
        simp only [e2, e3, if_true] at H
        clear hE e2 e3
        simp [putAll, Act.put]
        go_wp2_with fail
        refine bodyPost_ret (results_cct rfl rfl a25 s25 (H.get 5 rfl) rfl rfl a41 s41 (H.get 4 rfl) rfl) rfl ?_
        rw [← HRS.out, if_neg (fun h => h.elim hk3 hk4)]
        exact ⟨_, _, _, rfl, H.sel 9 [2, 8, 3]⟩
end
end Bk
end Go.Proofs.Ytcofcikdknmggaa
