/-
  The document's bucket: which commands may be.
-/
import Derived.Test.YtcofcikdknmggaaBkVal
namespace Go.Proofs.Ytcofcikdknmggaa
open Go.Hp Go.RowKit
set_option linter.unusedVariables false
set_option linter.unusedSimpArgs false
set_option maxRecDepth 100000
set_option maxHeartbeats 2000000
namespace Bk

structure COk (c : Cm) : Prop where
  k1 : 1 ≤ c.k
  k7 : c.k ≤ 7
  cl : inB c.cl 1 255 = true
  op : inB c.op 1 1099511627776 = true
  nm : c.k ≠ 4 → nameB c.nm = true
  fi : 5 ≤ c.k → fileB c.fc c.fo = true
  nw : c.k = 7 → fileB c.nc c.no = true
  sz : inB c.sz 0 4294967296 = true
  s0 : c.k < 5 → c.sz = 0

theorem inB_le {n lo hi : Int} (h : inB n lo hi = true) : lo ≤ n ∧ n ≤ hi := by
  unfold inB at h
  simpa using h

section
variable {w0 w W : World} {L : List HProp}

theorem command (H : At w0 L w) (c : Cm) : Calls Try.prog 11 #[.agg c.cells.toArray] w (BoolPost w0 L (fun r => r = true → COk c)) := by
  obtain ⟨kd, cl, op, nm, fc, fo, nc, no, sz⟩ := c
  simp only [Cm.cells]
  by_cases hk4 : kd = 4
  · subst hk4
    go_enter Try.func11, Try.ntmps11
    go_wp2_with (first | ((with_reducible refine k_box ?_); refine st_box rfl _ _ rfl _ rfl H ?_; (clear H; intro g1 w H K hK; simp only [Value.cells, Act.eval, Value.cells, Array.getD_eq_getD_getElem?, List.getElem?_toArray, List.getElem?_cons_succ, List.getElem?_cons_zero, Option.getD_some] at H; go_simp)) | ((with_reducible refine k_load (T := 27) ?_); refine st_row rfl _ _ rfl _ rfl a27 2 s27 H 0 rfl rfl ?_; (intro K hK; go_simp)) | ((with_reducible refine k_load (T := 27) ?_); refine st_loads rfl _ _ rfl _ _ rfl a27 2 s27 H 0 rfl ?_ ?_; (simp); (intro K hK; go_simp)) | ((with_reducible refine k_load ?_); refine st_load rfl _ _ rfl _ _ rfl ?_ H 0 rfl rfl ?_; (kernel_rfl); (intro K hK; go_simp)))
    refine (within2 H 4 1 7).mono ?_
    rintro e w ⟨rfl, HX⟩
    clear H
    have H := HX
    clear HX
    cases ek : inB 4 1 7 with
    | false =>
      go_wp2_with (first | ((with_reducible refine k_box ?_); refine st_box rfl _ _ rfl _ rfl H ?_; (clear H; intro g1 w H K hK; simp only [Value.cells, Act.eval, Value.cells, Array.getD_eq_getD_getElem?, List.getElem?_toArray, List.getElem?_cons_succ, List.getElem?_cons_zero, Option.getD_some] at H; go_simp)) | ((with_reducible refine k_load (T := 27) ?_); refine st_row rfl _ _ rfl _ rfl a27 2 s27 H 0 rfl rfl ?_; (intro K hK; go_simp)) | ((with_reducible refine k_load (T := 27) ?_); refine st_loads rfl _ _ rfl _ _ rfl a27 2 s27 H 0 rfl ?_ ?_; (simp); (intro K hK; go_simp)) | ((with_reducible refine k_load ?_); refine st_load rfl _ _ rfl _ _ rfl ?_ H 0 rfl rfl ?_; (kernel_rfl); (intro K hK; go_simp)))
      go_ret
      exact ⟨_, rfl, fun h => (by cases h), H.drop⟩
    | true =>
      go_wp2_with (first | ((with_reducible refine k_box ?_); refine st_box rfl _ _ rfl _ rfl H ?_; (clear H; intro g1 w H K hK; simp only [Value.cells, Act.eval, Value.cells, Array.getD_eq_getD_getElem?, List.getElem?_toArray, List.getElem?_cons_succ, List.getElem?_cons_zero, Option.getD_some] at H; go_simp)) | ((with_reducible refine k_load (T := 27) ?_); refine st_row rfl _ _ rfl _ rfl a27 2 s27 H 0 rfl rfl ?_; (intro K hK; go_simp)) | ((with_reducible refine k_load (T := 27) ?_); refine st_loads rfl _ _ rfl _ _ rfl a27 2 s27 H 0 rfl ?_ ?_; (simp); (intro K hK; go_simp)) | ((with_reducible refine k_load ?_); refine st_load rfl _ _ rfl _ _ rfl ?_ H 0 rfl rfl ?_; (kernel_rfl); (intro K hK; go_simp)))
      refine (within2 H cl 1 255).mono ?_
      rintro e w ⟨rfl, HX⟩
      clear H
      have H := HX
      clear HX
      cases ecl : inB cl 1 255 with
      | false =>
        go_wp2_with (first | ((with_reducible refine k_box ?_); refine st_box rfl _ _ rfl _ rfl H ?_; (clear H; intro g1 w H K hK; simp only [Value.cells, Act.eval, Value.cells, Array.getD_eq_getD_getElem?, List.getElem?_toArray, List.getElem?_cons_succ, List.getElem?_cons_zero, Option.getD_some] at H; go_simp)) | ((with_reducible refine k_load (T := 27) ?_); refine st_row rfl _ _ rfl _ rfl a27 2 s27 H 0 rfl rfl ?_; (intro K hK; go_simp)) | ((with_reducible refine k_load (T := 27) ?_); refine st_loads rfl _ _ rfl _ _ rfl a27 2 s27 H 0 rfl ?_ ?_; (simp); (intro K hK; go_simp)) | ((with_reducible refine k_load ?_); refine st_load rfl _ _ rfl _ _ rfl ?_ H 0 rfl rfl ?_; (kernel_rfl); (intro K hK; go_simp)))
        go_ret
        exact ⟨_, rfl, fun h => (by cases h), H.drop⟩
      | true =>
        go_wp2_with (first | ((with_reducible refine k_box ?_); refine st_box rfl _ _ rfl _ rfl H ?_; (clear H; intro g1 w H K hK; simp only [Value.cells, Act.eval, Value.cells, Array.getD_eq_getD_getElem?, List.getElem?_toArray, List.getElem?_cons_succ, List.getElem?_cons_zero, Option.getD_some] at H; go_simp)) | ((with_reducible refine k_load (T := 27) ?_); refine st_row rfl _ _ rfl _ rfl a27 2 s27 H 0 rfl rfl ?_; (intro K hK; go_simp)) | ((with_reducible refine k_load (T := 27) ?_); refine st_loads rfl _ _ rfl _ _ rfl a27 2 s27 H 0 rfl ?_ ?_; (simp); (intro K hK; go_simp)) | ((with_reducible refine k_load ?_); refine st_load rfl _ _ rfl _ _ rfl ?_ H 0 rfl rfl ?_; (kernel_rfl); (intro K hK; go_simp)))
        refine (within2 H op 1 1099511627776).mono ?_
        rintro e w ⟨rfl, HX⟩
        clear H
        have H := HX
        clear HX
        cases eop : inB op 1 1099511627776 with
        | false =>
          go_wp2_with (first | ((with_reducible refine k_box ?_); refine st_box rfl _ _ rfl _ rfl H ?_; (clear H; intro g1 w H K hK; simp only [Value.cells, Act.eval, Value.cells, Array.getD_eq_getD_getElem?, List.getElem?_toArray, List.getElem?_cons_succ, List.getElem?_cons_zero, Option.getD_some] at H; go_simp)) | ((with_reducible refine k_load (T := 27) ?_); refine st_row rfl _ _ rfl _ rfl a27 2 s27 H 0 rfl rfl ?_; (intro K hK; go_simp)) | ((with_reducible refine k_load (T := 27) ?_); refine st_loads rfl _ _ rfl _ _ rfl a27 2 s27 H 0 rfl ?_ ?_; (simp); (intro K hK; go_simp)) | ((with_reducible refine k_load ?_); refine st_load rfl _ _ rfl _ _ rfl ?_ H 0 rfl rfl ?_; (kernel_rfl); (intro K hK; go_simp)))
          go_ret
          exact ⟨_, rfl, fun h => (by cases h), H.drop⟩
        | true =>
          by_cases hnm : nm.toList.isEmpty = true
          · by_cases hfc : fc = 0
            · subst hfc
              by_cases hfo : fo = 0
              · subst hfo
                by_cases hnc : nc = 0
                · subst hnc
                  by_cases hno : no = 0
                  · subst hno
                    go_wp2_with (first | ((with_reducible refine k_box ?_); refine st_box rfl _ _ rfl _ rfl H ?_; (clear H; intro g1 w H K hK; simp only [Value.cells, Act.eval, Value.cells, Array.getD_eq_getD_getElem?, List.getElem?_toArray, List.getElem?_cons_succ, List.getElem?_cons_zero, Option.getD_some] at H; go_simp)) | ((with_reducible refine k_load (T := 27) ?_); refine st_row rfl _ _ rfl _ rfl a27 2 s27 H 0 rfl rfl ?_; (intro K hK; go_simp)) | ((with_reducible refine k_load (T := 27) ?_); refine st_loads rfl _ _ rfl _ _ rfl a27 2 s27 H 0 rfl ?_ ?_; (simp); (intro K hK; go_simp)) | ((with_reducible refine k_load ?_); refine st_load rfl _ _ rfl _ _ rfl ?_ H 0 rfl rfl ?_; (kernel_rfl); (intro K hK; go_simp)))
                    refine (within2 H sz 0 4294967296).mono ?_
                    rintro e w ⟨rfl, HX⟩
                    clear H
                    have H := HX
                    clear HX
                    cases esz : inB sz 0 4294967296 with
                    | false =>
                      go_wp2_with (first | ((with_reducible refine k_box ?_); refine st_box rfl _ _ rfl _ rfl H ?_; (clear H; intro g1 w H K hK; simp only [Value.cells, Act.eval, Value.cells, Array.getD_eq_getD_getElem?, List.getElem?_toArray, List.getElem?_cons_succ, List.getElem?_cons_zero, Option.getD_some] at H; go_simp)) | ((with_reducible refine k_load (T := 27) ?_); refine st_row rfl _ _ rfl _ rfl a27 2 s27 H 0 rfl rfl ?_; (intro K hK; go_simp)) | ((with_reducible refine k_load (T := 27) ?_); refine st_loads rfl _ _ rfl _ _ rfl a27 2 s27 H 0 rfl ?_ ?_; (simp); (intro K hK; go_simp)) | ((with_reducible refine k_load ?_); refine st_load rfl _ _ rfl _ _ rfl ?_ H 0 rfl rfl ?_; (kernel_rfl); (intro K hK; go_simp)))
                      go_ret
                      exact ⟨_, rfl, fun h => (by cases h), H.drop⟩
                    | true =>
                      by_cases hs0 : sz = 0
                      · subst hs0
                        go_wp2_with (first | ((with_reducible refine k_box ?_); refine st_box rfl _ _ rfl _ rfl H ?_; (clear H; intro g1 w H K hK; simp only [Value.cells, Act.eval, Value.cells, Array.getD_eq_getD_getElem?, List.getElem?_toArray, List.getElem?_cons_succ, List.getElem?_cons_zero, Option.getD_some] at H; go_simp)) | ((with_reducible refine k_load (T := 27) ?_); refine st_row rfl _ _ rfl _ rfl a27 2 s27 H 0 rfl rfl ?_; (intro K hK; go_simp)) | ((with_reducible refine k_load (T := 27) ?_); refine st_loads rfl _ _ rfl _ _ rfl a27 2 s27 H 0 rfl ?_ ?_; (simp); (intro K hK; go_simp)) | ((with_reducible refine k_load ?_); refine st_load rfl _ _ rfl _ _ rfl ?_ H 0 rfl rfl ?_; (kernel_rfl); (intro K hK; go_simp)))
                        go_ret
                        exact ⟨_, rfl, fun _ => ⟨(inB_le ek).1, (inB_le ek).2, ecl, eop, fun h => absurd rfl h, fun h => absurd (show (5 : Int) ≤ 4 from h) (by decide), fun h => absurd (show (4 : Int) = 7 from h) (by decide), esz, fun _ => rfl⟩, H.drop⟩
                      · go_wp2_with (first | ((with_reducible refine k_box ?_); refine st_box rfl _ _ rfl _ rfl H ?_; (clear H; intro g1 w H K hK; simp only [Value.cells, Act.eval, Value.cells, Array.getD_eq_getD_getElem?, List.getElem?_toArray, List.getElem?_cons_succ, List.getElem?_cons_zero, Option.getD_some] at H; go_simp)) | ((with_reducible refine k_load (T := 27) ?_); refine st_row rfl _ _ rfl _ rfl a27 2 s27 H 0 rfl rfl ?_; (intro K hK; go_simp)) | ((with_reducible refine k_load (T := 27) ?_); refine st_loads rfl _ _ rfl _ _ rfl a27 2 s27 H 0 rfl ?_ ?_; (simp); (intro K hK; go_simp)) | ((with_reducible refine k_load ?_); refine st_load rfl _ _ rfl _ _ rfl ?_ H 0 rfl rfl ?_; (kernel_rfl); (intro K hK; go_simp)))
                        go_ret
                        refine ⟨_, rfl, fun h => ?_, H.drop⟩
                        exfalso
                        simp at h
                        exact hs0 h
                  · go_wp2_with (first | ((with_reducible refine k_box ?_); refine st_box rfl _ _ rfl _ rfl H ?_; (clear H; intro g1 w H K hK; simp only [Value.cells, Act.eval, Value.cells, Array.getD_eq_getD_getElem?, List.getElem?_toArray, List.getElem?_cons_succ, List.getElem?_cons_zero, Option.getD_some] at H; go_simp)) | ((with_reducible refine k_load (T := 27) ?_); refine st_row rfl _ _ rfl _ rfl a27 2 s27 H 0 rfl rfl ?_; (intro K hK; go_simp)) | ((with_reducible refine k_load (T := 27) ?_); refine st_loads rfl _ _ rfl _ _ rfl a27 2 s27 H 0 rfl ?_ ?_; (simp); (intro K hK; go_simp)) | ((with_reducible refine k_load ?_); refine st_load rfl _ _ rfl _ _ rfl ?_ H 0 rfl rfl ?_; (kernel_rfl); (intro K hK; go_simp)))
                    go_ret
                    exact ⟨_, rfl, fun h => (by cases h), H.drop⟩
                · go_wp2_with (first | ((with_reducible refine k_box ?_); refine st_box rfl _ _ rfl _ rfl H ?_; (clear H; intro g1 w H K hK; simp only [Value.cells, Act.eval, Value.cells, Array.getD_eq_getD_getElem?, List.getElem?_toArray, List.getElem?_cons_succ, List.getElem?_cons_zero, Option.getD_some] at H; go_simp)) | ((with_reducible refine k_load (T := 27) ?_); refine st_row rfl _ _ rfl _ rfl a27 2 s27 H 0 rfl rfl ?_; (intro K hK; go_simp)) | ((with_reducible refine k_load (T := 27) ?_); refine st_loads rfl _ _ rfl _ _ rfl a27 2 s27 H 0 rfl ?_ ?_; (simp); (intro K hK; go_simp)) | ((with_reducible refine k_load ?_); refine st_load rfl _ _ rfl _ _ rfl ?_ H 0 rfl rfl ?_; (kernel_rfl); (intro K hK; go_simp)))
                  go_ret
                  exact ⟨_, rfl, fun h => (by cases h), H.drop⟩
              · go_wp2_with (first | ((with_reducible refine k_box ?_); refine st_box rfl _ _ rfl _ rfl H ?_; (clear H; intro g1 w H K hK; simp only [Value.cells, Act.eval, Value.cells, Array.getD_eq_getD_getElem?, List.getElem?_toArray, List.getElem?_cons_succ, List.getElem?_cons_zero, Option.getD_some] at H; go_simp)) | ((with_reducible refine k_load (T := 27) ?_); refine st_row rfl _ _ rfl _ rfl a27 2 s27 H 0 rfl rfl ?_; (intro K hK; go_simp)) | ((with_reducible refine k_load (T := 27) ?_); refine st_loads rfl _ _ rfl _ _ rfl a27 2 s27 H 0 rfl ?_ ?_; (simp); (intro K hK; go_simp)) | ((with_reducible refine k_load ?_); refine st_load rfl _ _ rfl _ _ rfl ?_ H 0 rfl rfl ?_; (kernel_rfl); (intro K hK; go_simp)))
                go_ret
                exact ⟨_, rfl, fun h => (by cases h), H.drop⟩
            · go_wp2_with (first | ((with_reducible refine k_box ?_); refine st_box rfl _ _ rfl _ rfl H ?_; (clear H; intro g1 w H K hK; simp only [Value.cells, Act.eval, Value.cells, Array.getD_eq_getD_getElem?, List.getElem?_toArray, List.getElem?_cons_succ, List.getElem?_cons_zero, Option.getD_some] at H; go_simp)) | ((with_reducible refine k_load (T := 27) ?_); refine st_row rfl _ _ rfl _ rfl a27 2 s27 H 0 rfl rfl ?_; (intro K hK; go_simp)) | ((with_reducible refine k_load (T := 27) ?_); refine st_loads rfl _ _ rfl _ _ rfl a27 2 s27 H 0 rfl ?_ ?_; (simp); (intro K hK; go_simp)) | ((with_reducible refine k_load ?_); refine st_load rfl _ _ rfl _ _ rfl ?_ H 0 rfl rfl ?_; (kernel_rfl); (intro K hK; go_simp)))
              go_ret
              exact ⟨_, rfl, fun h => (by cases h), H.drop⟩
          · have hne : nm.toList.isEmpty = false := by simpa using hnm
            go_wp2_with (first | ((with_reducible refine k_box ?_); refine st_box rfl _ _ rfl _ rfl H ?_; (clear H; intro g1 w H K hK; simp only [Value.cells, Act.eval, Value.cells, Array.getD_eq_getD_getElem?, List.getElem?_toArray, List.getElem?_cons_succ, List.getElem?_cons_zero, Option.getD_some] at H; go_simp)) | ((with_reducible refine k_load (T := 27) ?_); refine st_row rfl _ _ rfl _ rfl a27 2 s27 H 0 rfl rfl ?_; (intro K hK; go_simp)) | ((with_reducible refine k_load (T := 27) ?_); refine st_loads rfl _ _ rfl _ _ rfl a27 2 s27 H 0 rfl ?_ ?_; (simp); (intro K hK; go_simp)) | ((with_reducible refine k_load ?_); refine st_load rfl _ _ rfl _ _ rfl ?_ H 0 rfl rfl ?_; (kernel_rfl); (intro K hK; go_simp)))
            go_ret
            exact ⟨_, rfl, fun h => (by cases h), H.drop⟩
  · by_cases hk7 : kd = 7
    · subst hk7
      go_enter Try.func11, Try.ntmps11
      go_wp2_with (first | ((with_reducible refine k_box ?_); refine st_box rfl _ _ rfl _ rfl H ?_; (clear H; intro g1 w H K hK; simp only [Value.cells, Act.eval, Value.cells, Array.getD_eq_getD_getElem?, List.getElem?_toArray, List.getElem?_cons_succ, List.getElem?_cons_zero, Option.getD_some] at H; go_simp)) | ((with_reducible refine k_load (T := 27) ?_); refine st_row rfl _ _ rfl _ rfl a27 2 s27 H 0 rfl rfl ?_; (intro K hK; go_simp)) | ((with_reducible refine k_load (T := 27) ?_); refine st_loads rfl _ _ rfl _ _ rfl a27 2 s27 H 0 rfl ?_ ?_; (simp); (intro K hK; go_simp)) | ((with_reducible refine k_load ?_); refine st_load rfl _ _ rfl _ _ rfl ?_ H 0 rfl rfl ?_; (kernel_rfl); (intro K hK; go_simp)))
      refine (within2 H 7 1 7).mono ?_
      rintro e w ⟨rfl, HX⟩
      clear H
      have H := HX
      clear HX
      cases ek : inB 7 1 7 with
      | false =>
        go_wp2_with (first | ((with_reducible refine k_box ?_); refine st_box rfl _ _ rfl _ rfl H ?_; (clear H; intro g1 w H K hK; simp only [Value.cells, Act.eval, Value.cells, Array.getD_eq_getD_getElem?, List.getElem?_toArray, List.getElem?_cons_succ, List.getElem?_cons_zero, Option.getD_some] at H; go_simp)) | ((with_reducible refine k_load (T := 27) ?_); refine st_row rfl _ _ rfl _ rfl a27 2 s27 H 0 rfl rfl ?_; (intro K hK; go_simp)) | ((with_reducible refine k_load (T := 27) ?_); refine st_loads rfl _ _ rfl _ _ rfl a27 2 s27 H 0 rfl ?_ ?_; (simp); (intro K hK; go_simp)) | ((with_reducible refine k_load ?_); refine st_load rfl _ _ rfl _ _ rfl ?_ H 0 rfl rfl ?_; (kernel_rfl); (intro K hK; go_simp)))
        go_ret
        exact ⟨_, rfl, fun h => (by cases h), H.drop⟩
      | true =>
        go_wp2_with (first | ((with_reducible refine k_box ?_); refine st_box rfl _ _ rfl _ rfl H ?_; (clear H; intro g1 w H K hK; simp only [Value.cells, Act.eval, Value.cells, Array.getD_eq_getD_getElem?, List.getElem?_toArray, List.getElem?_cons_succ, List.getElem?_cons_zero, Option.getD_some] at H; go_simp)) | ((with_reducible refine k_load (T := 27) ?_); refine st_row rfl _ _ rfl _ rfl a27 2 s27 H 0 rfl rfl ?_; (intro K hK; go_simp)) | ((with_reducible refine k_load (T := 27) ?_); refine st_loads rfl _ _ rfl _ _ rfl a27 2 s27 H 0 rfl ?_ ?_; (simp); (intro K hK; go_simp)) | ((with_reducible refine k_load ?_); refine st_load rfl _ _ rfl _ _ rfl ?_ H 0 rfl rfl ?_; (kernel_rfl); (intro K hK; go_simp)))
        refine (within2 H cl 1 255).mono ?_
        rintro e w ⟨rfl, HX⟩
        clear H
        have H := HX
        clear HX
        cases ecl : inB cl 1 255 with
        | false =>
          go_wp2_with (first | ((with_reducible refine k_box ?_); refine st_box rfl _ _ rfl _ rfl H ?_; (clear H; intro g1 w H K hK; simp only [Value.cells, Act.eval, Value.cells, Array.getD_eq_getD_getElem?, List.getElem?_toArray, List.getElem?_cons_succ, List.getElem?_cons_zero, Option.getD_some] at H; go_simp)) | ((with_reducible refine k_load (T := 27) ?_); refine st_row rfl _ _ rfl _ rfl a27 2 s27 H 0 rfl rfl ?_; (intro K hK; go_simp)) | ((with_reducible refine k_load (T := 27) ?_); refine st_loads rfl _ _ rfl _ _ rfl a27 2 s27 H 0 rfl ?_ ?_; (simp); (intro K hK; go_simp)) | ((with_reducible refine k_load ?_); refine st_load rfl _ _ rfl _ _ rfl ?_ H 0 rfl rfl ?_; (kernel_rfl); (intro K hK; go_simp)))
          go_ret
          exact ⟨_, rfl, fun h => (by cases h), H.drop⟩
        | true =>
          go_wp2_with (first | ((with_reducible refine k_box ?_); refine st_box rfl _ _ rfl _ rfl H ?_; (clear H; intro g1 w H K hK; simp only [Value.cells, Act.eval, Value.cells, Array.getD_eq_getD_getElem?, List.getElem?_toArray, List.getElem?_cons_succ, List.getElem?_cons_zero, Option.getD_some] at H; go_simp)) | ((with_reducible refine k_load (T := 27) ?_); refine st_row rfl _ _ rfl _ rfl a27 2 s27 H 0 rfl rfl ?_; (intro K hK; go_simp)) | ((with_reducible refine k_load (T := 27) ?_); refine st_loads rfl _ _ rfl _ _ rfl a27 2 s27 H 0 rfl ?_ ?_; (simp); (intro K hK; go_simp)) | ((with_reducible refine k_load ?_); refine st_load rfl _ _ rfl _ _ rfl ?_ H 0 rfl rfl ?_; (kernel_rfl); (intro K hK; go_simp)))
          refine (within2 H op 1 1099511627776).mono ?_
          rintro e w ⟨rfl, HX⟩
          clear H
          have H := HX
          clear HX
          cases eop : inB op 1 1099511627776 with
          | false =>
            go_wp2_with (first | ((with_reducible refine k_box ?_); refine st_box rfl _ _ rfl _ rfl H ?_; (clear H; intro g1 w H K hK; simp only [Value.cells, Act.eval, Value.cells, Array.getD_eq_getD_getElem?, List.getElem?_toArray, List.getElem?_cons_succ, List.getElem?_cons_zero, Option.getD_some] at H; go_simp)) | ((with_reducible refine k_load (T := 27) ?_); refine st_row rfl _ _ rfl _ rfl a27 2 s27 H 0 rfl rfl ?_; (intro K hK; go_simp)) | ((with_reducible refine k_load (T := 27) ?_); refine st_loads rfl _ _ rfl _ _ rfl a27 2 s27 H 0 rfl ?_ ?_; (simp); (intro K hK; go_simp)) | ((with_reducible refine k_load ?_); refine st_load rfl _ _ rfl _ _ rfl ?_ H 0 rfl rfl ?_; (kernel_rfl); (intro K hK; go_simp)))
            go_ret
            exact ⟨_, rfl, fun h => (by cases h), H.drop⟩
          | true =>
            by_cases hnm : nm.toList.isEmpty = true
            · go_wp2_with (first | ((with_reducible refine k_box ?_); refine st_box rfl _ _ rfl _ rfl H ?_; (clear H; intro g1 w H K hK; simp only [Value.cells, Act.eval, Value.cells, Array.getD_eq_getD_getElem?, List.getElem?_toArray, List.getElem?_cons_succ, List.getElem?_cons_zero, Option.getD_some] at H; go_simp)) | ((with_reducible refine k_load (T := 27) ?_); refine st_row rfl _ _ rfl _ rfl a27 2 s27 H 0 rfl rfl ?_; (intro K hK; go_simp)) | ((with_reducible refine k_load (T := 27) ?_); refine st_loads rfl _ _ rfl _ _ rfl a27 2 s27 H 0 rfl ?_ ?_; (simp); (intro K hK; go_simp)) | ((with_reducible refine k_load ?_); refine st_load rfl _ _ rfl _ _ rfl ?_ H 0 rfl rfl ?_; (kernel_rfl); (intro K hK; go_simp)))
              go_ret
              exact ⟨_, rfl, fun h => (by cases h), H.drop⟩
            · have hne : nm.toList.isEmpty = false := by simpa using hnm
              go_wp2_with (first | ((with_reducible refine k_box ?_); refine st_box rfl _ _ rfl _ rfl H ?_; (clear H; intro g1 w H K hK; simp only [Value.cells, Act.eval, Value.cells, Array.getD_eq_getD_getElem?, List.getElem?_toArray, List.getElem?_cons_succ, List.getElem?_cons_zero, Option.getD_some] at H; go_simp)) | ((with_reducible refine k_load (T := 27) ?_); refine st_row rfl _ _ rfl _ rfl a27 2 s27 H 0 rfl rfl ?_; (intro K hK; go_simp)) | ((with_reducible refine k_load (T := 27) ?_); refine st_loads rfl _ _ rfl _ _ rfl a27 2 s27 H 0 rfl ?_ ?_; (simp); (intro K hK; go_simp)) | ((with_reducible refine k_load ?_); refine st_load rfl _ _ rfl _ _ rfl ?_ H 0 rfl rfl ?_; (kernel_rfl); (intro K hK; go_simp)))
              refine (name H nm).mono ?_
              rintro e w ⟨rfl, HX⟩
              clear H
              have H := HX
              clear HX
              cases enm : nameB nm with
              | false =>
                go_wp2_with (first | ((with_reducible refine k_box ?_); refine st_box rfl _ _ rfl _ rfl H ?_; (clear H; intro g1 w H K hK; simp only [Value.cells, Act.eval, Value.cells, Array.getD_eq_getD_getElem?, List.getElem?_toArray, List.getElem?_cons_succ, List.getElem?_cons_zero, Option.getD_some] at H; go_simp)) | ((with_reducible refine k_load (T := 27) ?_); refine st_row rfl _ _ rfl _ rfl a27 2 s27 H 0 rfl rfl ?_; (intro K hK; go_simp)) | ((with_reducible refine k_load (T := 27) ?_); refine st_loads rfl _ _ rfl _ _ rfl a27 2 s27 H 0 rfl ?_ ?_; (simp); (intro K hK; go_simp)) | ((with_reducible refine k_load ?_); refine st_load rfl _ _ rfl _ _ rfl ?_ H 0 rfl rfl ?_; (kernel_rfl); (intro K hK; go_simp)))
                go_ret
                exact ⟨_, rfl, fun h => (by cases h), H.drop⟩
              | true =>
                by_cases hfc : fc = 0
                · subst hfc
                  by_cases hfo : fo = 0
                  · subst hfo
                    go_wp2_with (first | ((with_reducible refine k_box ?_); refine st_box rfl _ _ rfl _ rfl H ?_; (clear H; intro g1 w H K hK; simp only [Value.cells, Act.eval, Value.cells, Array.getD_eq_getD_getElem?, List.getElem?_toArray, List.getElem?_cons_succ, List.getElem?_cons_zero, Option.getD_some] at H; go_simp)) | ((with_reducible refine k_load (T := 27) ?_); refine st_row rfl _ _ rfl _ rfl a27 2 s27 H 0 rfl rfl ?_; (intro K hK; go_simp)) | ((with_reducible refine k_load (T := 27) ?_); refine st_loads rfl _ _ rfl _ _ rfl a27 2 s27 H 0 rfl ?_ ?_; (simp); (intro K hK; go_simp)) | ((with_reducible refine k_load ?_); refine st_load rfl _ _ rfl _ _ rfl ?_ H 0 rfl rfl ?_; (kernel_rfl); (intro K hK; go_simp)))
                    go_ret
                    exact ⟨_, rfl, fun h => (by cases h), H.drop⟩
                  · go_wp2_with (first | ((with_reducible refine k_box ?_); refine st_box rfl _ _ rfl _ rfl H ?_; (clear H; intro g1 w H K hK; simp only [Value.cells, Act.eval, Value.cells, Array.getD_eq_getD_getElem?, List.getElem?_toArray, List.getElem?_cons_succ, List.getElem?_cons_zero, Option.getD_some] at H; go_simp)) | ((with_reducible refine k_load (T := 27) ?_); refine st_row rfl _ _ rfl _ rfl a27 2 s27 H 0 rfl rfl ?_; (intro K hK; go_simp)) | ((with_reducible refine k_load (T := 27) ?_); refine st_loads rfl _ _ rfl _ _ rfl a27 2 s27 H 0 rfl ?_ ?_; (simp); (intro K hK; go_simp)) | ((with_reducible refine k_load ?_); refine st_load rfl _ _ rfl _ _ rfl ?_ H 0 rfl rfl ?_; (kernel_rfl); (intro K hK; go_simp)))
                    refine (file H 0 fo).mono ?_
                    rintro e w ⟨rfl, HX⟩
                    clear H
                    have H := HX
                    clear HX
                    cases efi : fileB 0 fo with
                    | false =>
                      go_wp2_with (first | ((with_reducible refine k_box ?_); refine st_box rfl _ _ rfl _ rfl H ?_; (clear H; intro g1 w H K hK; simp only [Value.cells, Act.eval, Value.cells, Array.getD_eq_getD_getElem?, List.getElem?_toArray, List.getElem?_cons_succ, List.getElem?_cons_zero, Option.getD_some] at H; go_simp)) | ((with_reducible refine k_load (T := 27) ?_); refine st_row rfl _ _ rfl _ rfl a27 2 s27 H 0 rfl rfl ?_; (intro K hK; go_simp)) | ((with_reducible refine k_load (T := 27) ?_); refine st_loads rfl _ _ rfl _ _ rfl a27 2 s27 H 0 rfl ?_ ?_; (simp); (intro K hK; go_simp)) | ((with_reducible refine k_load ?_); refine st_load rfl _ _ rfl _ _ rfl ?_ H 0 rfl rfl ?_; (kernel_rfl); (intro K hK; go_simp)))
                      go_ret
                      exact ⟨_, rfl, fun h => (by cases h), H.drop⟩
                    | true =>
                      by_cases hnc : nc = 0
                      · subst hnc
                        by_cases hno : no = 0
                        · subst hno
                          go_wp2_with (first | ((with_reducible refine k_box ?_); refine st_box rfl _ _ rfl _ rfl H ?_; (clear H; intro g1 w H K hK; simp only [Value.cells, Act.eval, Value.cells, Array.getD_eq_getD_getElem?, List.getElem?_toArray, List.getElem?_cons_succ, List.getElem?_cons_zero, Option.getD_some] at H; go_simp)) | ((with_reducible refine k_load (T := 27) ?_); refine st_row rfl _ _ rfl _ rfl a27 2 s27 H 0 rfl rfl ?_; (intro K hK; go_simp)) | ((with_reducible refine k_load (T := 27) ?_); refine st_loads rfl _ _ rfl _ _ rfl a27 2 s27 H 0 rfl ?_ ?_; (simp); (intro K hK; go_simp)) | ((with_reducible refine k_load ?_); refine st_load rfl _ _ rfl _ _ rfl ?_ H 0 rfl rfl ?_; (kernel_rfl); (intro K hK; go_simp)))
                          go_ret
                          exact ⟨_, rfl, fun h => (by cases h), H.drop⟩
                        · go_wp2_with (first | ((with_reducible refine k_box ?_); refine st_box rfl _ _ rfl _ rfl H ?_; (clear H; intro g1 w H K hK; simp only [Value.cells, Act.eval, Value.cells, Array.getD_eq_getD_getElem?, List.getElem?_toArray, List.getElem?_cons_succ, List.getElem?_cons_zero, Option.getD_some] at H; go_simp)) | ((with_reducible refine k_load (T := 27) ?_); refine st_row rfl _ _ rfl _ rfl a27 2 s27 H 0 rfl rfl ?_; (intro K hK; go_simp)) | ((with_reducible refine k_load (T := 27) ?_); refine st_loads rfl _ _ rfl _ _ rfl a27 2 s27 H 0 rfl ?_ ?_; (simp); (intro K hK; go_simp)) | ((with_reducible refine k_load ?_); refine st_load rfl _ _ rfl _ _ rfl ?_ H 0 rfl rfl ?_; (kernel_rfl); (intro K hK; go_simp)))
                          refine (file H 0 no).mono ?_
                          rintro e w ⟨rfl, HX⟩
                          clear H
                          have H := HX
                          clear HX
                          cases enw : fileB 0 no with
                          | false =>
                            go_wp2_with (first | ((with_reducible refine k_box ?_); refine st_box rfl _ _ rfl _ rfl H ?_; (clear H; intro g1 w H K hK; simp only [Value.cells, Act.eval, Value.cells, Array.getD_eq_getD_getElem?, List.getElem?_toArray, List.getElem?_cons_succ, List.getElem?_cons_zero, Option.getD_some] at H; go_simp)) | ((with_reducible refine k_load (T := 27) ?_); refine st_row rfl _ _ rfl _ rfl a27 2 s27 H 0 rfl rfl ?_; (intro K hK; go_simp)) | ((with_reducible refine k_load (T := 27) ?_); refine st_loads rfl _ _ rfl _ _ rfl a27 2 s27 H 0 rfl ?_ ?_; (simp); (intro K hK; go_simp)) | ((with_reducible refine k_load ?_); refine st_load rfl _ _ rfl _ _ rfl ?_ H 0 rfl rfl ?_; (kernel_rfl); (intro K hK; go_simp)))
                            go_ret
                            exact ⟨_, rfl, fun h => (by cases h), H.drop⟩
                          | true =>
                            go_wp2_with (first | ((with_reducible refine k_box ?_); refine st_box rfl _ _ rfl _ rfl H ?_; (clear H; intro g1 w H K hK; simp only [Value.cells, Act.eval, Value.cells, Array.getD_eq_getD_getElem?, List.getElem?_toArray, List.getElem?_cons_succ, List.getElem?_cons_zero, Option.getD_some] at H; go_simp)) | ((with_reducible refine k_load (T := 27) ?_); refine st_row rfl _ _ rfl _ rfl a27 2 s27 H 0 rfl rfl ?_; (intro K hK; go_simp)) | ((with_reducible refine k_load (T := 27) ?_); refine st_loads rfl _ _ rfl _ _ rfl a27 2 s27 H 0 rfl ?_ ?_; (simp); (intro K hK; go_simp)) | ((with_reducible refine k_load ?_); refine st_load rfl _ _ rfl _ _ rfl ?_ H 0 rfl rfl ?_; (kernel_rfl); (intro K hK; go_simp)))
                            refine (within2 H sz 0 4294967296).mono ?_
                            rintro e w ⟨rfl, HX⟩
                            clear H
                            have H := HX
                            clear HX
                            cases esz : inB sz 0 4294967296 with
                            | false =>
                              go_wp2_with (first | ((with_reducible refine k_box ?_); refine st_box rfl _ _ rfl _ rfl H ?_; (clear H; intro g1 w H K hK; simp only [Value.cells, Act.eval, Value.cells, Array.getD_eq_getD_getElem?, List.getElem?_toArray, List.getElem?_cons_succ, List.getElem?_cons_zero, Option.getD_some] at H; go_simp)) | ((with_reducible refine k_load (T := 27) ?_); refine st_row rfl _ _ rfl _ rfl a27 2 s27 H 0 rfl rfl ?_; (intro K hK; go_simp)) | ((with_reducible refine k_load (T := 27) ?_); refine st_loads rfl _ _ rfl _ _ rfl a27 2 s27 H 0 rfl ?_ ?_; (simp); (intro K hK; go_simp)) | ((with_reducible refine k_load ?_); refine st_load rfl _ _ rfl _ _ rfl ?_ H 0 rfl rfl ?_; (kernel_rfl); (intro K hK; go_simp)))
                              go_ret
                              exact ⟨_, rfl, fun h => (by cases h), H.drop⟩
                            | true =>
                              go_wp2_with (first | ((with_reducible refine k_box ?_); refine st_box rfl _ _ rfl _ rfl H ?_; (clear H; intro g1 w H K hK; simp only [Value.cells, Act.eval, Value.cells, Array.getD_eq_getD_getElem?, List.getElem?_toArray, List.getElem?_cons_succ, List.getElem?_cons_zero, Option.getD_some] at H; go_simp)) | ((with_reducible refine k_load (T := 27) ?_); refine st_row rfl _ _ rfl _ rfl a27 2 s27 H 0 rfl rfl ?_; (intro K hK; go_simp)) | ((with_reducible refine k_load (T := 27) ?_); refine st_loads rfl _ _ rfl _ _ rfl a27 2 s27 H 0 rfl ?_ ?_; (simp); (intro K hK; go_simp)) | ((with_reducible refine k_load ?_); refine st_load rfl _ _ rfl _ _ rfl ?_ H 0 rfl rfl ?_; (kernel_rfl); (intro K hK; go_simp)))
                              go_ret
                              exact ⟨_, rfl, fun _ => ⟨(inB_le ek).1, (inB_le ek).2, ecl, eop, fun _ => enm, fun _ => efi, fun _ => enw, esz, fun h => absurd (show (7 : Int) < 5 from h) (by decide)⟩, H.drop⟩
                      · go_wp2_with (first | ((with_reducible refine k_box ?_); refine st_box rfl _ _ rfl _ rfl H ?_; (clear H; intro g1 w H K hK; simp only [Value.cells, Act.eval, Value.cells, Array.getD_eq_getD_getElem?, List.getElem?_toArray, List.getElem?_cons_succ, List.getElem?_cons_zero, Option.getD_some] at H; go_simp)) | ((with_reducible refine k_load (T := 27) ?_); refine st_row rfl _ _ rfl _ rfl a27 2 s27 H 0 rfl rfl ?_; (intro K hK; go_simp)) | ((with_reducible refine k_load (T := 27) ?_); refine st_loads rfl _ _ rfl _ _ rfl a27 2 s27 H 0 rfl ?_ ?_; (simp); (intro K hK; go_simp)) | ((with_reducible refine k_load ?_); refine st_load rfl _ _ rfl _ _ rfl ?_ H 0 rfl rfl ?_; (kernel_rfl); (intro K hK; go_simp)))
                        refine (file H nc no).mono ?_
                        rintro e w ⟨rfl, HX⟩
                        clear H
                        have H := HX
                        clear HX
                        cases enw : fileB nc no with
                        | false =>
                          go_wp2_with (first | ((with_reducible refine k_box ?_); refine st_box rfl _ _ rfl _ rfl H ?_; (clear H; intro g1 w H K hK; simp only [Value.cells, Act.eval, Value.cells, Array.getD_eq_getD_getElem?, List.getElem?_toArray, List.getElem?_cons_succ, List.getElem?_cons_zero, Option.getD_some] at H; go_simp)) | ((with_reducible refine k_load (T := 27) ?_); refine st_row rfl _ _ rfl _ rfl a27 2 s27 H 0 rfl rfl ?_; (intro K hK; go_simp)) | ((with_reducible refine k_load (T := 27) ?_); refine st_loads rfl _ _ rfl _ _ rfl a27 2 s27 H 0 rfl ?_ ?_; (simp); (intro K hK; go_simp)) | ((with_reducible refine k_load ?_); refine st_load rfl _ _ rfl _ _ rfl ?_ H 0 rfl rfl ?_; (kernel_rfl); (intro K hK; go_simp)))
                          go_ret
                          exact ⟨_, rfl, fun h => (by cases h), H.drop⟩
                        | true =>
                          go_wp2_with (first | ((with_reducible refine k_box ?_); refine st_box rfl _ _ rfl _ rfl H ?_; (clear H; intro g1 w H K hK; simp only [Value.cells, Act.eval, Value.cells, Array.getD_eq_getD_getElem?, List.getElem?_toArray, List.getElem?_cons_succ, List.getElem?_cons_zero, Option.getD_some] at H; go_simp)) | ((with_reducible refine k_load (T := 27) ?_); refine st_row rfl _ _ rfl _ rfl a27 2 s27 H 0 rfl rfl ?_; (intro K hK; go_simp)) | ((with_reducible refine k_load (T := 27) ?_); refine st_loads rfl _ _ rfl _ _ rfl a27 2 s27 H 0 rfl ?_ ?_; (simp); (intro K hK; go_simp)) | ((with_reducible refine k_load ?_); refine st_load rfl _ _ rfl _ _ rfl ?_ H 0 rfl rfl ?_; (kernel_rfl); (intro K hK; go_simp)))
                          refine (within2 H sz 0 4294967296).mono ?_
                          rintro e w ⟨rfl, HX⟩
                          clear H
                          have H := HX
                          clear HX
                          cases esz : inB sz 0 4294967296 with
                          | false =>
                            go_wp2_with (first | ((with_reducible refine k_box ?_); refine st_box rfl _ _ rfl _ rfl H ?_; (clear H; intro g1 w H K hK; simp only [Value.cells, Act.eval, Value.cells, Array.getD_eq_getD_getElem?, List.getElem?_toArray, List.getElem?_cons_succ, List.getElem?_cons_zero, Option.getD_some] at H; go_simp)) | ((with_reducible refine k_load (T := 27) ?_); refine st_row rfl _ _ rfl _ rfl a27 2 s27 H 0 rfl rfl ?_; (intro K hK; go_simp)) | ((with_reducible refine k_load (T := 27) ?_); refine st_loads rfl _ _ rfl _ _ rfl a27 2 s27 H 0 rfl ?_ ?_; (simp); (intro K hK; go_simp)) | ((with_reducible refine k_load ?_); refine st_load rfl _ _ rfl _ _ rfl ?_ H 0 rfl rfl ?_; (kernel_rfl); (intro K hK; go_simp)))
                            go_ret
                            exact ⟨_, rfl, fun h => (by cases h), H.drop⟩
                          | true =>
                            go_wp2_with (first | ((with_reducible refine k_box ?_); refine st_box rfl _ _ rfl _ rfl H ?_; (clear H; intro g1 w H K hK; simp only [Value.cells, Act.eval, Value.cells, Array.getD_eq_getD_getElem?, List.getElem?_toArray, List.getElem?_cons_succ, List.getElem?_cons_zero, Option.getD_some] at H; go_simp)) | ((with_reducible refine k_load (T := 27) ?_); refine st_row rfl _ _ rfl _ rfl a27 2 s27 H 0 rfl rfl ?_; (intro K hK; go_simp)) | ((with_reducible refine k_load (T := 27) ?_); refine st_loads rfl _ _ rfl _ _ rfl a27 2 s27 H 0 rfl ?_ ?_; (simp); (intro K hK; go_simp)) | ((with_reducible refine k_load ?_); refine st_load rfl _ _ rfl _ _ rfl ?_ H 0 rfl rfl ?_; (kernel_rfl); (intro K hK; go_simp)))
                            go_ret
                            exact ⟨_, rfl, fun _ => ⟨(inB_le ek).1, (inB_le ek).2, ecl, eop, fun _ => enm, fun _ => efi, fun _ => enw, esz, fun h => absurd (show (7 : Int) < 5 from h) (by decide)⟩, H.drop⟩
                · go_wp2_with (first | ((with_reducible refine k_box ?_); refine st_box rfl _ _ rfl _ rfl H ?_; (clear H; intro g1 w H K hK; simp only [Value.cells, Act.eval, Value.cells, Array.getD_eq_getD_getElem?, List.getElem?_toArray, List.getElem?_cons_succ, List.getElem?_cons_zero, Option.getD_some] at H; go_simp)) | ((with_reducible refine k_load (T := 27) ?_); refine st_row rfl _ _ rfl _ rfl a27 2 s27 H 0 rfl rfl ?_; (intro K hK; go_simp)) | ((with_reducible refine k_load (T := 27) ?_); refine st_loads rfl _ _ rfl _ _ rfl a27 2 s27 H 0 rfl ?_ ?_; (simp); (intro K hK; go_simp)) | ((with_reducible refine k_load ?_); refine st_load rfl _ _ rfl _ _ rfl ?_ H 0 rfl rfl ?_; (kernel_rfl); (intro K hK; go_simp)))
                  refine (file H fc fo).mono ?_
                  rintro e w ⟨rfl, HX⟩
                  clear H
                  have H := HX
                  clear HX
                  cases efi : fileB fc fo with
                  | false =>
                    go_wp2_with (first | ((with_reducible refine k_box ?_); refine st_box rfl _ _ rfl _ rfl H ?_; (clear H; intro g1 w H K hK; simp only [Value.cells, Act.eval, Value.cells, Array.getD_eq_getD_getElem?, List.getElem?_toArray, List.getElem?_cons_succ, List.getElem?_cons_zero, Option.getD_some] at H; go_simp)) | ((with_reducible refine k_load (T := 27) ?_); refine st_row rfl _ _ rfl _ rfl a27 2 s27 H 0 rfl rfl ?_; (intro K hK; go_simp)) | ((with_reducible refine k_load (T := 27) ?_); refine st_loads rfl _ _ rfl _ _ rfl a27 2 s27 H 0 rfl ?_ ?_; (simp); (intro K hK; go_simp)) | ((with_reducible refine k_load ?_); refine st_load rfl _ _ rfl _ _ rfl ?_ H 0 rfl rfl ?_; (kernel_rfl); (intro K hK; go_simp)))
                    go_ret
                    exact ⟨_, rfl, fun h => (by cases h), H.drop⟩
                  | true =>
                    by_cases hnc : nc = 0
                    · subst hnc
                      by_cases hno : no = 0
                      · subst hno
                        go_wp2_with (first | ((with_reducible refine k_box ?_); refine st_box rfl _ _ rfl _ rfl H ?_; (clear H; intro g1 w H K hK; simp only [Value.cells, Act.eval, Value.cells, Array.getD_eq_getD_getElem?, List.getElem?_toArray, List.getElem?_cons_succ, List.getElem?_cons_zero, Option.getD_some] at H; go_simp)) | ((with_reducible refine k_load (T := 27) ?_); refine st_row rfl _ _ rfl _ rfl a27 2 s27 H 0 rfl rfl ?_; (intro K hK; go_simp)) | ((with_reducible refine k_load (T := 27) ?_); refine st_loads rfl _ _ rfl _ _ rfl a27 2 s27 H 0 rfl ?_ ?_; (simp); (intro K hK; go_simp)) | ((with_reducible refine k_load ?_); refine st_load rfl _ _ rfl _ _ rfl ?_ H 0 rfl rfl ?_; (kernel_rfl); (intro K hK; go_simp)))
                        go_ret
                        exact ⟨_, rfl, fun h => (by cases h), H.drop⟩
                      · go_wp2_with (first | ((with_reducible refine k_box ?_); refine st_box rfl _ _ rfl _ rfl H ?_; (clear H; intro g1 w H K hK; simp only [Value.cells, Act.eval, Value.cells, Array.getD_eq_getD_getElem?, List.getElem?_toArray, List.getElem?_cons_succ, List.getElem?_cons_zero, Option.getD_some] at H; go_simp)) | ((with_reducible refine k_load (T := 27) ?_); refine st_row rfl _ _ rfl _ rfl a27 2 s27 H 0 rfl rfl ?_; (intro K hK; go_simp)) | ((with_reducible refine k_load (T := 27) ?_); refine st_loads rfl _ _ rfl _ _ rfl a27 2 s27 H 0 rfl ?_ ?_; (simp); (intro K hK; go_simp)) | ((with_reducible refine k_load ?_); refine st_load rfl _ _ rfl _ _ rfl ?_ H 0 rfl rfl ?_; (kernel_rfl); (intro K hK; go_simp)))
                        refine (file H 0 no).mono ?_
                        rintro e w ⟨rfl, HX⟩
                        clear H
                        have H := HX
                        clear HX
                        cases enw : fileB 0 no with
                        | false =>
                          go_wp2_with (first | ((with_reducible refine k_box ?_); refine st_box rfl _ _ rfl _ rfl H ?_; (clear H; intro g1 w H K hK; simp only [Value.cells, Act.eval, Value.cells, Array.getD_eq_getD_getElem?, List.getElem?_toArray, List.getElem?_cons_succ, List.getElem?_cons_zero, Option.getD_some] at H; go_simp)) | ((with_reducible refine k_load (T := 27) ?_); refine st_row rfl _ _ rfl _ rfl a27 2 s27 H 0 rfl rfl ?_; (intro K hK; go_simp)) | ((with_reducible refine k_load (T := 27) ?_); refine st_loads rfl _ _ rfl _ _ rfl a27 2 s27 H 0 rfl ?_ ?_; (simp); (intro K hK; go_simp)) | ((with_reducible refine k_load ?_); refine st_load rfl _ _ rfl _ _ rfl ?_ H 0 rfl rfl ?_; (kernel_rfl); (intro K hK; go_simp)))
                          go_ret
                          exact ⟨_, rfl, fun h => (by cases h), H.drop⟩
                        | true =>
                          go_wp2_with (first | ((with_reducible refine k_box ?_); refine st_box rfl _ _ rfl _ rfl H ?_; (clear H; intro g1 w H K hK; simp only [Value.cells, Act.eval, Value.cells, Array.getD_eq_getD_getElem?, List.getElem?_toArray, List.getElem?_cons_succ, List.getElem?_cons_zero, Option.getD_some] at H; go_simp)) | ((with_reducible refine k_load (T := 27) ?_); refine st_row rfl _ _ rfl _ rfl a27 2 s27 H 0 rfl rfl ?_; (intro K hK; go_simp)) | ((with_reducible refine k_load (T := 27) ?_); refine st_loads rfl _ _ rfl _ _ rfl a27 2 s27 H 0 rfl ?_ ?_; (simp); (intro K hK; go_simp)) | ((with_reducible refine k_load ?_); refine st_load rfl _ _ rfl _ _ rfl ?_ H 0 rfl rfl ?_; (kernel_rfl); (intro K hK; go_simp)))
                          refine (within2 H sz 0 4294967296).mono ?_
                          rintro e w ⟨rfl, HX⟩
                          clear H
                          have H := HX
                          clear HX
                          cases esz : inB sz 0 4294967296 with
                          | false =>
                            go_wp2_with (first | ((with_reducible refine k_box ?_); refine st_box rfl _ _ rfl _ rfl H ?_; (clear H; intro g1 w H K hK; simp only [Value.cells, Act.eval, Value.cells, Array.getD_eq_getD_getElem?, List.getElem?_toArray, List.getElem?_cons_succ, List.getElem?_cons_zero, Option.getD_some] at H; go_simp)) | ((with_reducible refine k_load (T := 27) ?_); refine st_row rfl _ _ rfl _ rfl a27 2 s27 H 0 rfl rfl ?_; (intro K hK; go_simp)) | ((with_reducible refine k_load (T := 27) ?_); refine st_loads rfl _ _ rfl _ _ rfl a27 2 s27 H 0 rfl ?_ ?_; (simp); (intro K hK; go_simp)) | ((with_reducible refine k_load ?_); refine st_load rfl _ _ rfl _ _ rfl ?_ H 0 rfl rfl ?_; (kernel_rfl); (intro K hK; go_simp)))
                            go_ret
                            exact ⟨_, rfl, fun h => (by cases h), H.drop⟩
                          | true =>
                            go_wp2_with (first | ((with_reducible refine k_box ?_); refine st_box rfl _ _ rfl _ rfl H ?_; (clear H; intro g1 w H K hK; simp only [Value.cells, Act.eval, Value.cells, Array.getD_eq_getD_getElem?, List.getElem?_toArray, List.getElem?_cons_succ, List.getElem?_cons_zero, Option.getD_some] at H; go_simp)) | ((with_reducible refine k_load (T := 27) ?_); refine st_row rfl _ _ rfl _ rfl a27 2 s27 H 0 rfl rfl ?_; (intro K hK; go_simp)) | ((with_reducible refine k_load (T := 27) ?_); refine st_loads rfl _ _ rfl _ _ rfl a27 2 s27 H 0 rfl ?_ ?_; (simp); (intro K hK; go_simp)) | ((with_reducible refine k_load ?_); refine st_load rfl _ _ rfl _ _ rfl ?_ H 0 rfl rfl ?_; (kernel_rfl); (intro K hK; go_simp)))
                            go_ret
                            exact ⟨_, rfl, fun _ => ⟨(inB_le ek).1, (inB_le ek).2, ecl, eop, fun _ => enm, fun _ => efi, fun _ => enw, esz, fun h => absurd (show (7 : Int) < 5 from h) (by decide)⟩, H.drop⟩
                    · go_wp2_with (first | ((with_reducible refine k_box ?_); refine st_box rfl _ _ rfl _ rfl H ?_; (clear H; intro g1 w H K hK; simp only [Value.cells, Act.eval, Value.cells, Array.getD_eq_getD_getElem?, List.getElem?_toArray, List.getElem?_cons_succ, List.getElem?_cons_zero, Option.getD_some] at H; go_simp)) | ((with_reducible refine k_load (T := 27) ?_); refine st_row rfl _ _ rfl _ rfl a27 2 s27 H 0 rfl rfl ?_; (intro K hK; go_simp)) | ((with_reducible refine k_load (T := 27) ?_); refine st_loads rfl _ _ rfl _ _ rfl a27 2 s27 H 0 rfl ?_ ?_; (simp); (intro K hK; go_simp)) | ((with_reducible refine k_load ?_); refine st_load rfl _ _ rfl _ _ rfl ?_ H 0 rfl rfl ?_; (kernel_rfl); (intro K hK; go_simp)))
                      refine (file H nc no).mono ?_
                      rintro e w ⟨rfl, HX⟩
                      clear H
                      have H := HX
                      clear HX
                      cases enw : fileB nc no with
                      | false =>
                        go_wp2_with (first | ((with_reducible refine k_box ?_); refine st_box rfl _ _ rfl _ rfl H ?_; (clear H; intro g1 w H K hK; simp only [Value.cells, Act.eval, Value.cells, Array.getD_eq_getD_getElem?, List.getElem?_toArray, List.getElem?_cons_succ, List.getElem?_cons_zero, Option.getD_some] at H; go_simp)) | ((with_reducible refine k_load (T := 27) ?_); refine st_row rfl _ _ rfl _ rfl a27 2 s27 H 0 rfl rfl ?_; (intro K hK; go_simp)) | ((with_reducible refine k_load (T := 27) ?_); refine st_loads rfl _ _ rfl _ _ rfl a27 2 s27 H 0 rfl ?_ ?_; (simp); (intro K hK; go_simp)) | ((with_reducible refine k_load ?_); refine st_load rfl _ _ rfl _ _ rfl ?_ H 0 rfl rfl ?_; (kernel_rfl); (intro K hK; go_simp)))
                        go_ret
                        exact ⟨_, rfl, fun h => (by cases h), H.drop⟩
                      | true =>
                        go_wp2_with (first | ((with_reducible refine k_box ?_); refine st_box rfl _ _ rfl _ rfl H ?_; (clear H; intro g1 w H K hK; simp only [Value.cells, Act.eval, Value.cells, Array.getD_eq_getD_getElem?, List.getElem?_toArray, List.getElem?_cons_succ, List.getElem?_cons_zero, Option.getD_some] at H; go_simp)) | ((with_reducible refine k_load (T := 27) ?_); refine st_row rfl _ _ rfl _ rfl a27 2 s27 H 0 rfl rfl ?_; (intro K hK; go_simp)) | ((with_reducible refine k_load (T := 27) ?_); refine st_loads rfl _ _ rfl _ _ rfl a27 2 s27 H 0 rfl ?_ ?_; (simp); (intro K hK; go_simp)) | ((with_reducible refine k_load ?_); refine st_load rfl _ _ rfl _ _ rfl ?_ H 0 rfl rfl ?_; (kernel_rfl); (intro K hK; go_simp)))
                        refine (within2 H sz 0 4294967296).mono ?_
                        rintro e w ⟨rfl, HX⟩
                        clear H
                        have H := HX
                        clear HX
                        cases esz : inB sz 0 4294967296 with
                        | false =>
                          go_wp2_with (first | ((with_reducible refine k_box ?_); refine st_box rfl _ _ rfl _ rfl H ?_; (clear H; intro g1 w H K hK; simp only [Value.cells, Act.eval, Value.cells, Array.getD_eq_getD_getElem?, List.getElem?_toArray, List.getElem?_cons_succ, List.getElem?_cons_zero, Option.getD_some] at H; go_simp)) | ((with_reducible refine k_load (T := 27) ?_); refine st_row rfl _ _ rfl _ rfl a27 2 s27 H 0 rfl rfl ?_; (intro K hK; go_simp)) | ((with_reducible refine k_load (T := 27) ?_); refine st_loads rfl _ _ rfl _ _ rfl a27 2 s27 H 0 rfl ?_ ?_; (simp); (intro K hK; go_simp)) | ((with_reducible refine k_load ?_); refine st_load rfl _ _ rfl _ _ rfl ?_ H 0 rfl rfl ?_; (kernel_rfl); (intro K hK; go_simp)))
                          go_ret
                          exact ⟨_, rfl, fun h => (by cases h), H.drop⟩
                        | true =>
                          go_wp2_with (first | ((with_reducible refine k_box ?_); refine st_box rfl _ _ rfl _ rfl H ?_; (clear H; intro g1 w H K hK; simp only [Value.cells, Act.eval, Value.cells, Array.getD_eq_getD_getElem?, List.getElem?_toArray, List.getElem?_cons_succ, List.getElem?_cons_zero, Option.getD_some] at H; go_simp)) | ((with_reducible refine k_load (T := 27) ?_); refine st_row rfl _ _ rfl _ rfl a27 2 s27 H 0 rfl rfl ?_; (intro K hK; go_simp)) | ((with_reducible refine k_load (T := 27) ?_); refine st_loads rfl _ _ rfl _ _ rfl a27 2 s27 H 0 rfl ?_ ?_; (simp); (intro K hK; go_simp)) | ((with_reducible refine k_load ?_); refine st_load rfl _ _ rfl _ _ rfl ?_ H 0 rfl rfl ?_; (kernel_rfl); (intro K hK; go_simp)))
                          go_ret
                          exact ⟨_, rfl, fun _ => ⟨(inB_le ek).1, (inB_le ek).2, ecl, eop, fun _ => enm, fun _ => efi, fun _ => enw, esz, fun h => absurd (show (7 : Int) < 5 from h) (by decide)⟩, H.drop⟩
    · by_cases hk5 : 5 ≤ kd
      · have f1 : (kd != 4) = true := by simpa using hk4
        have f3 : (kd == 7) = false := by simpa using hk7
        go_enter Try.func11, Try.ntmps11
        go_wp2_with (first | ((with_reducible refine k_box ?_); refine st_box rfl _ _ rfl _ rfl H ?_; (clear H; intro g1 w H K hK; simp only [Value.cells, Act.eval, Value.cells, Array.getD_eq_getD_getElem?, List.getElem?_toArray, List.getElem?_cons_succ, List.getElem?_cons_zero, Option.getD_some] at H; go_simp)) | ((with_reducible refine k_load (T := 27) ?_); refine st_row rfl _ _ rfl _ rfl a27 2 s27 H 0 rfl rfl ?_; (intro K hK; go_simp)) | ((with_reducible refine k_load (T := 27) ?_); refine st_loads rfl _ _ rfl _ _ rfl a27 2 s27 H 0 rfl ?_ ?_; (simp); (intro K hK; go_simp)) | ((with_reducible refine k_load ?_); refine st_load rfl _ _ rfl _ _ rfl ?_ H 0 rfl rfl ?_; (kernel_rfl); (intro K hK; go_simp)))
        refine (within2 H kd 1 7).mono ?_
        rintro e w ⟨rfl, HX⟩
        clear H
        have H := HX
        clear HX
        cases ek : inB kd 1 7 with
        | false =>
          go_wp2_with (first | ((with_reducible refine k_box ?_); refine st_box rfl _ _ rfl _ rfl H ?_; (clear H; intro g1 w H K hK; simp only [Value.cells, Act.eval, Value.cells, Array.getD_eq_getD_getElem?, List.getElem?_toArray, List.getElem?_cons_succ, List.getElem?_cons_zero, Option.getD_some] at H; go_simp)) | ((with_reducible refine k_load (T := 27) ?_); refine st_row rfl _ _ rfl _ rfl a27 2 s27 H 0 rfl rfl ?_; (intro K hK; go_simp)) | ((with_reducible refine k_load (T := 27) ?_); refine st_loads rfl _ _ rfl _ _ rfl a27 2 s27 H 0 rfl ?_ ?_; (simp); (intro K hK; go_simp)) | ((with_reducible refine k_load ?_); refine st_load rfl _ _ rfl _ _ rfl ?_ H 0 rfl rfl ?_; (kernel_rfl); (intro K hK; go_simp)))
          go_ret
          exact ⟨_, rfl, fun h => (by cases h), H.drop⟩
        | true =>
          go_wp2_with (first | ((with_reducible refine k_box ?_); refine st_box rfl _ _ rfl _ rfl H ?_; (clear H; intro g1 w H K hK; simp only [Value.cells, Act.eval, Value.cells, Array.getD_eq_getD_getElem?, List.getElem?_toArray, List.getElem?_cons_succ, List.getElem?_cons_zero, Option.getD_some] at H; go_simp)) | ((with_reducible refine k_load (T := 27) ?_); refine st_row rfl _ _ rfl _ rfl a27 2 s27 H 0 rfl rfl ?_; (intro K hK; go_simp)) | ((with_reducible refine k_load (T := 27) ?_); refine st_loads rfl _ _ rfl _ _ rfl a27 2 s27 H 0 rfl ?_ ?_; (simp); (intro K hK; go_simp)) | ((with_reducible refine k_load ?_); refine st_load rfl _ _ rfl _ _ rfl ?_ H 0 rfl rfl ?_; (kernel_rfl); (intro K hK; go_simp)))
          refine (within2 H cl 1 255).mono ?_
          rintro e w ⟨rfl, HX⟩
          clear H
          have H := HX
          clear HX
          cases ecl : inB cl 1 255 with
          | false =>
            go_wp2_with (first | ((with_reducible refine k_box ?_); refine st_box rfl _ _ rfl _ rfl H ?_; (clear H; intro g1 w H K hK; simp only [Value.cells, Act.eval, Value.cells, Array.getD_eq_getD_getElem?, List.getElem?_toArray, List.getElem?_cons_succ, List.getElem?_cons_zero, Option.getD_some] at H; go_simp)) | ((with_reducible refine k_load (T := 27) ?_); refine st_row rfl _ _ rfl _ rfl a27 2 s27 H 0 rfl rfl ?_; (intro K hK; go_simp)) | ((with_reducible refine k_load (T := 27) ?_); refine st_loads rfl _ _ rfl _ _ rfl a27 2 s27 H 0 rfl ?_ ?_; (simp); (intro K hK; go_simp)) | ((with_reducible refine k_load ?_); refine st_load rfl _ _ rfl _ _ rfl ?_ H 0 rfl rfl ?_; (kernel_rfl); (intro K hK; go_simp)))
            go_ret
            exact ⟨_, rfl, fun h => (by cases h), H.drop⟩
          | true =>
            go_wp2_with (first | ((with_reducible refine k_box ?_); refine st_box rfl _ _ rfl _ rfl H ?_; (clear H; intro g1 w H K hK; simp only [Value.cells, Act.eval, Value.cells, Array.getD_eq_getD_getElem?, List.getElem?_toArray, List.getElem?_cons_succ, List.getElem?_cons_zero, Option.getD_some] at H; go_simp)) | ((with_reducible refine k_load (T := 27) ?_); refine st_row rfl _ _ rfl _ rfl a27 2 s27 H 0 rfl rfl ?_; (intro K hK; go_simp)) | ((with_reducible refine k_load (T := 27) ?_); refine st_loads rfl _ _ rfl _ _ rfl a27 2 s27 H 0 rfl ?_ ?_; (simp); (intro K hK; go_simp)) | ((with_reducible refine k_load ?_); refine st_load rfl _ _ rfl _ _ rfl ?_ H 0 rfl rfl ?_; (kernel_rfl); (intro K hK; go_simp)))
            refine (within2 H op 1 1099511627776).mono ?_
            rintro e w ⟨rfl, HX⟩
            clear H
            have H := HX
            clear HX
            cases eop : inB op 1 1099511627776 with
            | false =>
              go_wp2_with (first | ((with_reducible refine k_box ?_); refine st_box rfl _ _ rfl _ rfl H ?_; (clear H; intro g1 w H K hK; simp only [Value.cells, Act.eval, Value.cells, Array.getD_eq_getD_getElem?, List.getElem?_toArray, List.getElem?_cons_succ, List.getElem?_cons_zero, Option.getD_some] at H; go_simp)) | ((with_reducible refine k_load (T := 27) ?_); refine st_row rfl _ _ rfl _ rfl a27 2 s27 H 0 rfl rfl ?_; (intro K hK; go_simp)) | ((with_reducible refine k_load (T := 27) ?_); refine st_loads rfl _ _ rfl _ _ rfl a27 2 s27 H 0 rfl ?_ ?_; (simp); (intro K hK; go_simp)) | ((with_reducible refine k_load ?_); refine st_load rfl _ _ rfl _ _ rfl ?_ H 0 rfl rfl ?_; (kernel_rfl); (intro K hK; go_simp)))
              go_ret
              exact ⟨_, rfl, fun h => (by cases h), H.drop⟩
            | true =>
              by_cases hnm : nm.toList.isEmpty = true
              · go_wp2_with (first | ((with_reducible refine k_box ?_); refine st_box rfl _ _ rfl _ rfl H ?_; (clear H; intro g1 w H K hK; simp only [Value.cells, Act.eval, Value.cells, Array.getD_eq_getD_getElem?, List.getElem?_toArray, List.getElem?_cons_succ, List.getElem?_cons_zero, Option.getD_some] at H; go_simp)) | ((with_reducible refine k_load (T := 27) ?_); refine st_row rfl _ _ rfl _ rfl a27 2 s27 H 0 rfl rfl ?_; (intro K hK; go_simp)) | ((with_reducible refine k_load (T := 27) ?_); refine st_loads rfl _ _ rfl _ _ rfl a27 2 s27 H 0 rfl ?_ ?_; (simp); (intro K hK; go_simp)) | ((with_reducible refine k_load ?_); refine st_load rfl _ _ rfl _ _ rfl ?_ H 0 rfl rfl ?_; (kernel_rfl); (intro K hK; go_simp)))
                go_ret
                exact ⟨_, rfl, fun h => (by cases h), H.drop⟩
              · have hne : nm.toList.isEmpty = false := by simpa using hnm
                go_wp2_with (first | ((with_reducible refine k_box ?_); refine st_box rfl _ _ rfl _ rfl H ?_; (clear H; intro g1 w H K hK; simp only [Value.cells, Act.eval, Value.cells, Array.getD_eq_getD_getElem?, List.getElem?_toArray, List.getElem?_cons_succ, List.getElem?_cons_zero, Option.getD_some] at H; go_simp)) | ((with_reducible refine k_load (T := 27) ?_); refine st_row rfl _ _ rfl _ rfl a27 2 s27 H 0 rfl rfl ?_; (intro K hK; go_simp)) | ((with_reducible refine k_load (T := 27) ?_); refine st_loads rfl _ _ rfl _ _ rfl a27 2 s27 H 0 rfl ?_ ?_; (simp); (intro K hK; go_simp)) | ((with_reducible refine k_load ?_); refine st_load rfl _ _ rfl _ _ rfl ?_ H 0 rfl rfl ?_; (kernel_rfl); (intro K hK; go_simp)))
                refine (name H nm).mono ?_
                rintro e w ⟨rfl, HX⟩
                clear H
                have H := HX
                clear HX
                cases enm : nameB nm with
                | false =>
                  go_wp2_with (first | ((with_reducible refine k_box ?_); refine st_box rfl _ _ rfl _ rfl H ?_; (clear H; intro g1 w H K hK; simp only [Value.cells, Act.eval, Value.cells, Array.getD_eq_getD_getElem?, List.getElem?_toArray, List.getElem?_cons_succ, List.getElem?_cons_zero, Option.getD_some] at H; go_simp)) | ((with_reducible refine k_load (T := 27) ?_); refine st_row rfl _ _ rfl _ rfl a27 2 s27 H 0 rfl rfl ?_; (intro K hK; go_simp)) | ((with_reducible refine k_load (T := 27) ?_); refine st_loads rfl _ _ rfl _ _ rfl a27 2 s27 H 0 rfl ?_ ?_; (simp); (intro K hK; go_simp)) | ((with_reducible refine k_load ?_); refine st_load rfl _ _ rfl _ _ rfl ?_ H 0 rfl rfl ?_; (kernel_rfl); (intro K hK; go_simp)))
                  go_ret
                  exact ⟨_, rfl, fun h => (by cases h), H.drop⟩
                | true =>
                  by_cases hfc : fc = 0
                  · subst hfc
                    by_cases hfo : fo = 0
                    · subst hfo
                      go_wp2_with (first | ((with_reducible refine k_box ?_); refine st_box rfl _ _ rfl _ rfl H ?_; (clear H; intro g1 w H K hK; simp only [Value.cells, Act.eval, Value.cells, Array.getD_eq_getD_getElem?, List.getElem?_toArray, List.getElem?_cons_succ, List.getElem?_cons_zero, Option.getD_some] at H; go_simp)) | ((with_reducible refine k_load (T := 27) ?_); refine st_row rfl _ _ rfl _ rfl a27 2 s27 H 0 rfl rfl ?_; (intro K hK; go_simp)) | ((with_reducible refine k_load (T := 27) ?_); refine st_loads rfl _ _ rfl _ _ rfl a27 2 s27 H 0 rfl ?_ ?_; (simp); (intro K hK; go_simp)) | ((with_reducible refine k_load ?_); refine st_load rfl _ _ rfl _ _ rfl ?_ H 0 rfl rfl ?_; (kernel_rfl); (intro K hK; go_simp)))
                      go_ret
                      exact ⟨_, rfl, fun h => (by cases h), H.drop⟩
                    · go_wp2_with (first | ((with_reducible refine k_box ?_); refine st_box rfl _ _ rfl _ rfl H ?_; (clear H; intro g1 w H K hK; simp only [Value.cells, Act.eval, Value.cells, Array.getD_eq_getD_getElem?, List.getElem?_toArray, List.getElem?_cons_succ, List.getElem?_cons_zero, Option.getD_some] at H; go_simp)) | ((with_reducible refine k_load (T := 27) ?_); refine st_row rfl _ _ rfl _ rfl a27 2 s27 H 0 rfl rfl ?_; (intro K hK; go_simp)) | ((with_reducible refine k_load (T := 27) ?_); refine st_loads rfl _ _ rfl _ _ rfl a27 2 s27 H 0 rfl ?_ ?_; (simp); (intro K hK; go_simp)) | ((with_reducible refine k_load ?_); refine st_load rfl _ _ rfl _ _ rfl ?_ H 0 rfl rfl ?_; (kernel_rfl); (intro K hK; go_simp)))
                      refine (file H 0 fo).mono ?_
                      rintro e w ⟨rfl, HX⟩
                      clear H
                      have H := HX
                      clear HX
                      cases efi : fileB 0 fo with
                      | false =>
                        go_wp2_with (first | ((with_reducible refine k_box ?_); refine st_box rfl _ _ rfl _ rfl H ?_; (clear H; intro g1 w H K hK; simp only [Value.cells, Act.eval, Value.cells, Array.getD_eq_getD_getElem?, List.getElem?_toArray, List.getElem?_cons_succ, List.getElem?_cons_zero, Option.getD_some] at H; go_simp)) | ((with_reducible refine k_load (T := 27) ?_); refine st_row rfl _ _ rfl _ rfl a27 2 s27 H 0 rfl rfl ?_; (intro K hK; go_simp)) | ((with_reducible refine k_load (T := 27) ?_); refine st_loads rfl _ _ rfl _ _ rfl a27 2 s27 H 0 rfl ?_ ?_; (simp); (intro K hK; go_simp)) | ((with_reducible refine k_load ?_); refine st_load rfl _ _ rfl _ _ rfl ?_ H 0 rfl rfl ?_; (kernel_rfl); (intro K hK; go_simp)))
                        go_ret
                        exact ⟨_, rfl, fun h => (by cases h), H.drop⟩
                      | true =>
                        by_cases hnc : nc = 0
                        · subst hnc
                          by_cases hno : no = 0
                          · subst hno
                            go_wp2_with (first | ((with_reducible refine k_box ?_); refine st_box rfl _ _ rfl _ rfl H ?_; (clear H; intro g1 w H K hK; simp only [Value.cells, Act.eval, Value.cells, Array.getD_eq_getD_getElem?, List.getElem?_toArray, List.getElem?_cons_succ, List.getElem?_cons_zero, Option.getD_some] at H; go_simp)) | ((with_reducible refine k_load (T := 27) ?_); refine st_row rfl _ _ rfl _ rfl a27 2 s27 H 0 rfl rfl ?_; (intro K hK; go_simp)) | ((with_reducible refine k_load (T := 27) ?_); refine st_loads rfl _ _ rfl _ _ rfl a27 2 s27 H 0 rfl ?_ ?_; (simp); (intro K hK; go_simp)) | ((with_reducible refine k_load ?_); refine st_load rfl _ _ rfl _ _ rfl ?_ H 0 rfl rfl ?_; (kernel_rfl); (intro K hK; go_simp)))
                            refine (within2 H sz 0 4294967296).mono ?_
                            rintro e w ⟨rfl, HX⟩
                            clear H
                            have H := HX
                            clear HX
                            cases esz : inB sz 0 4294967296 with
                            | false =>
                              go_wp2_with (first | ((with_reducible refine k_box ?_); refine st_box rfl _ _ rfl _ rfl H ?_; (clear H; intro g1 w H K hK; simp only [Value.cells, Act.eval, Value.cells, Array.getD_eq_getD_getElem?, List.getElem?_toArray, List.getElem?_cons_succ, List.getElem?_cons_zero, Option.getD_some] at H; go_simp)) | ((with_reducible refine k_load (T := 27) ?_); refine st_row rfl _ _ rfl _ rfl a27 2 s27 H 0 rfl rfl ?_; (intro K hK; go_simp)) | ((with_reducible refine k_load (T := 27) ?_); refine st_loads rfl _ _ rfl _ _ rfl a27 2 s27 H 0 rfl ?_ ?_; (simp); (intro K hK; go_simp)) | ((with_reducible refine k_load ?_); refine st_load rfl _ _ rfl _ _ rfl ?_ H 0 rfl rfl ?_; (kernel_rfl); (intro K hK; go_simp)))
                              go_ret
                              exact ⟨_, rfl, fun h => (by cases h), H.drop⟩
                            | true =>
                              go_wp2_with (first | ((with_reducible refine k_box ?_); refine st_box rfl _ _ rfl _ rfl H ?_; (clear H; intro g1 w H K hK; simp only [Value.cells, Act.eval, Value.cells, Array.getD_eq_getD_getElem?, List.getElem?_toArray, List.getElem?_cons_succ, List.getElem?_cons_zero, Option.getD_some] at H; go_simp)) | ((with_reducible refine k_load (T := 27) ?_); refine st_row rfl _ _ rfl _ rfl a27 2 s27 H 0 rfl rfl ?_; (intro K hK; go_simp)) | ((with_reducible refine k_load (T := 27) ?_); refine st_loads rfl _ _ rfl _ _ rfl a27 2 s27 H 0 rfl ?_ ?_; (simp); (intro K hK; go_simp)) | ((with_reducible refine k_load ?_); refine st_load rfl _ _ rfl _ _ rfl ?_ H 0 rfl rfl ?_; (kernel_rfl); (intro K hK; go_simp)))
                              go_ret
                              exact ⟨_, rfl, fun _ => ⟨(inB_le ek).1, (inB_le ek).2, ecl, eop, fun _ => enm, fun _ => efi, fun h => absurd h hk7, esz, fun h => absurd h (by show ¬ kd < 5; omega)⟩, H.drop⟩
                          · go_wp2_with (first | ((with_reducible refine k_box ?_); refine st_box rfl _ _ rfl _ rfl H ?_; (clear H; intro g1 w H K hK; simp only [Value.cells, Act.eval, Value.cells, Array.getD_eq_getD_getElem?, List.getElem?_toArray, List.getElem?_cons_succ, List.getElem?_cons_zero, Option.getD_some] at H; go_simp)) | ((with_reducible refine k_load (T := 27) ?_); refine st_row rfl _ _ rfl _ rfl a27 2 s27 H 0 rfl rfl ?_; (intro K hK; go_simp)) | ((with_reducible refine k_load (T := 27) ?_); refine st_loads rfl _ _ rfl _ _ rfl a27 2 s27 H 0 rfl ?_ ?_; (simp); (intro K hK; go_simp)) | ((with_reducible refine k_load ?_); refine st_load rfl _ _ rfl _ _ rfl ?_ H 0 rfl rfl ?_; (kernel_rfl); (intro K hK; go_simp)))
                            go_ret
                            exact ⟨_, rfl, fun h => (by cases h), H.drop⟩
                        · go_wp2_with (first | ((with_reducible refine k_box ?_); refine st_box rfl _ _ rfl _ rfl H ?_; (clear H; intro g1 w H K hK; simp only [Value.cells, Act.eval, Value.cells, Array.getD_eq_getD_getElem?, List.getElem?_toArray, List.getElem?_cons_succ, List.getElem?_cons_zero, Option.getD_some] at H; go_simp)) | ((with_reducible refine k_load (T := 27) ?_); refine st_row rfl _ _ rfl _ rfl a27 2 s27 H 0 rfl rfl ?_; (intro K hK; go_simp)) | ((with_reducible refine k_load (T := 27) ?_); refine st_loads rfl _ _ rfl _ _ rfl a27 2 s27 H 0 rfl ?_ ?_; (simp); (intro K hK; go_simp)) | ((with_reducible refine k_load ?_); refine st_load rfl _ _ rfl _ _ rfl ?_ H 0 rfl rfl ?_; (kernel_rfl); (intro K hK; go_simp)))
                          go_ret
                          exact ⟨_, rfl, fun h => (by cases h), H.drop⟩
                  · go_wp2_with (first | ((with_reducible refine k_box ?_); refine st_box rfl _ _ rfl _ rfl H ?_; (clear H; intro g1 w H K hK; simp only [Value.cells, Act.eval, Value.cells, Array.getD_eq_getD_getElem?, List.getElem?_toArray, List.getElem?_cons_succ, List.getElem?_cons_zero, Option.getD_some] at H; go_simp)) | ((with_reducible refine k_load (T := 27) ?_); refine st_row rfl _ _ rfl _ rfl a27 2 s27 H 0 rfl rfl ?_; (intro K hK; go_simp)) | ((with_reducible refine k_load (T := 27) ?_); refine st_loads rfl _ _ rfl _ _ rfl a27 2 s27 H 0 rfl ?_ ?_; (simp); (intro K hK; go_simp)) | ((with_reducible refine k_load ?_); refine st_load rfl _ _ rfl _ _ rfl ?_ H 0 rfl rfl ?_; (kernel_rfl); (intro K hK; go_simp)))
                    refine (file H fc fo).mono ?_
                    rintro e w ⟨rfl, HX⟩
                    clear H
                    have H := HX
                    clear HX
                    cases efi : fileB fc fo with
                    | false =>
                      go_wp2_with (first | ((with_reducible refine k_box ?_); refine st_box rfl _ _ rfl _ rfl H ?_; (clear H; intro g1 w H K hK; simp only [Value.cells, Act.eval, Value.cells, Array.getD_eq_getD_getElem?, List.getElem?_toArray, List.getElem?_cons_succ, List.getElem?_cons_zero, Option.getD_some] at H; go_simp)) | ((with_reducible refine k_load (T := 27) ?_); refine st_row rfl _ _ rfl _ rfl a27 2 s27 H 0 rfl rfl ?_; (intro K hK; go_simp)) | ((with_reducible refine k_load (T := 27) ?_); refine st_loads rfl _ _ rfl _ _ rfl a27 2 s27 H 0 rfl ?_ ?_; (simp); (intro K hK; go_simp)) | ((with_reducible refine k_load ?_); refine st_load rfl _ _ rfl _ _ rfl ?_ H 0 rfl rfl ?_; (kernel_rfl); (intro K hK; go_simp)))
                      go_ret
                      exact ⟨_, rfl, fun h => (by cases h), H.drop⟩
                    | true =>
                      by_cases hnc : nc = 0
                      · subst hnc
                        by_cases hno : no = 0
                        · subst hno
                          go_wp2_with (first | ((with_reducible refine k_box ?_); refine st_box rfl _ _ rfl _ rfl H ?_; (clear H; intro g1 w H K hK; simp only [Value.cells, Act.eval, Value.cells, Array.getD_eq_getD_getElem?, List.getElem?_toArray, List.getElem?_cons_succ, List.getElem?_cons_zero, Option.getD_some] at H; go_simp)) | ((with_reducible refine k_load (T := 27) ?_); refine st_row rfl _ _ rfl _ rfl a27 2 s27 H 0 rfl rfl ?_; (intro K hK; go_simp)) | ((with_reducible refine k_load (T := 27) ?_); refine st_loads rfl _ _ rfl _ _ rfl a27 2 s27 H 0 rfl ?_ ?_; (simp); (intro K hK; go_simp)) | ((with_reducible refine k_load ?_); refine st_load rfl _ _ rfl _ _ rfl ?_ H 0 rfl rfl ?_; (kernel_rfl); (intro K hK; go_simp)))
                          refine (within2 H sz 0 4294967296).mono ?_
                          rintro e w ⟨rfl, HX⟩
                          clear H
                          have H := HX
                          clear HX
                          cases esz : inB sz 0 4294967296 with
                          | false =>
                            go_wp2_with (first | ((with_reducible refine k_box ?_); refine st_box rfl _ _ rfl _ rfl H ?_; (clear H; intro g1 w H K hK; simp only [Value.cells, Act.eval, Value.cells, Array.getD_eq_getD_getElem?, List.getElem?_toArray, List.getElem?_cons_succ, List.getElem?_cons_zero, Option.getD_some] at H; go_simp)) | ((with_reducible refine k_load (T := 27) ?_); refine st_row rfl _ _ rfl _ rfl a27 2 s27 H 0 rfl rfl ?_; (intro K hK; go_simp)) | ((with_reducible refine k_load (T := 27) ?_); refine st_loads rfl _ _ rfl _ _ rfl a27 2 s27 H 0 rfl ?_ ?_; (simp); (intro K hK; go_simp)) | ((with_reducible refine k_load ?_); refine st_load rfl _ _ rfl _ _ rfl ?_ H 0 rfl rfl ?_; (kernel_rfl); (intro K hK; go_simp)))
                            go_ret
                            exact ⟨_, rfl, fun h => (by cases h), H.drop⟩
                          | true =>
                            go_wp2_with (first | ((with_reducible refine k_box ?_); refine st_box rfl _ _ rfl _ rfl H ?_; (clear H; intro g1 w H K hK; simp only [Value.cells, Act.eval, Value.cells, Array.getD_eq_getD_getElem?, List.getElem?_toArray, List.getElem?_cons_succ, List.getElem?_cons_zero, Option.getD_some] at H; go_simp)) | ((with_reducible refine k_load (T := 27) ?_); refine st_row rfl _ _ rfl _ rfl a27 2 s27 H 0 rfl rfl ?_; (intro K hK; go_simp)) | ((with_reducible refine k_load (T := 27) ?_); refine st_loads rfl _ _ rfl _ _ rfl a27 2 s27 H 0 rfl ?_ ?_; (simp); (intro K hK; go_simp)) | ((with_reducible refine k_load ?_); refine st_load rfl _ _ rfl _ _ rfl ?_ H 0 rfl rfl ?_; (kernel_rfl); (intro K hK; go_simp)))
                            go_ret
                            exact ⟨_, rfl, fun _ => ⟨(inB_le ek).1, (inB_le ek).2, ecl, eop, fun _ => enm, fun _ => efi, fun h => absurd h hk7, esz, fun h => absurd h (by show ¬ kd < 5; omega)⟩, H.drop⟩
                        · go_wp2_with (first | ((with_reducible refine k_box ?_); refine st_box rfl _ _ rfl _ rfl H ?_; (clear H; intro g1 w H K hK; simp only [Value.cells, Act.eval, Value.cells, Array.getD_eq_getD_getElem?, List.getElem?_toArray, List.getElem?_cons_succ, List.getElem?_cons_zero, Option.getD_some] at H; go_simp)) | ((with_reducible refine k_load (T := 27) ?_); refine st_row rfl _ _ rfl _ rfl a27 2 s27 H 0 rfl rfl ?_; (intro K hK; go_simp)) | ((with_reducible refine k_load (T := 27) ?_); refine st_loads rfl _ _ rfl _ _ rfl a27 2 s27 H 0 rfl ?_ ?_; (simp); (intro K hK; go_simp)) | ((with_reducible refine k_load ?_); refine st_load rfl _ _ rfl _ _ rfl ?_ H 0 rfl rfl ?_; (kernel_rfl); (intro K hK; go_simp)))
                          go_ret
                          exact ⟨_, rfl, fun h => (by cases h), H.drop⟩
                      · go_wp2_with (first | ((with_reducible refine k_box ?_); refine st_box rfl _ _ rfl _ rfl H ?_; (clear H; intro g1 w H K hK; simp only [Value.cells, Act.eval, Value.cells, Array.getD_eq_getD_getElem?, List.getElem?_toArray, List.getElem?_cons_succ, List.getElem?_cons_zero, Option.getD_some] at H; go_simp)) | ((with_reducible refine k_load (T := 27) ?_); refine st_row rfl _ _ rfl _ rfl a27 2 s27 H 0 rfl rfl ?_; (intro K hK; go_simp)) | ((with_reducible refine k_load (T := 27) ?_); refine st_loads rfl _ _ rfl _ _ rfl a27 2 s27 H 0 rfl ?_ ?_; (simp); (intro K hK; go_simp)) | ((with_reducible refine k_load ?_); refine st_load rfl _ _ rfl _ _ rfl ?_ H 0 rfl rfl ?_; (kernel_rfl); (intro K hK; go_simp)))
                        go_ret
                        exact ⟨_, rfl, fun h => (by cases h), H.drop⟩
      · have f1 : (kd != 4) = true := by simpa using hk4
        have f3 : (kd == 7) = false := by simpa using hk7
        go_enter Try.func11, Try.ntmps11
        go_wp2_with (first | ((with_reducible refine k_box ?_); refine st_box rfl _ _ rfl _ rfl H ?_; (clear H; intro g1 w H K hK; simp only [Value.cells, Act.eval, Value.cells, Array.getD_eq_getD_getElem?, List.getElem?_toArray, List.getElem?_cons_succ, List.getElem?_cons_zero, Option.getD_some] at H; go_simp)) | ((with_reducible refine k_load (T := 27) ?_); refine st_row rfl _ _ rfl _ rfl a27 2 s27 H 0 rfl rfl ?_; (intro K hK; go_simp)) | ((with_reducible refine k_load (T := 27) ?_); refine st_loads rfl _ _ rfl _ _ rfl a27 2 s27 H 0 rfl ?_ ?_; (simp); (intro K hK; go_simp)) | ((with_reducible refine k_load ?_); refine st_load rfl _ _ rfl _ _ rfl ?_ H 0 rfl rfl ?_; (kernel_rfl); (intro K hK; go_simp)))
        refine (within2 H kd 1 7).mono ?_
        rintro e w ⟨rfl, HX⟩
        clear H
        have H := HX
        clear HX
        cases ek : inB kd 1 7 with
        | false =>
          go_wp2_with (first | ((with_reducible refine k_box ?_); refine st_box rfl _ _ rfl _ rfl H ?_; (clear H; intro g1 w H K hK; simp only [Value.cells, Act.eval, Value.cells, Array.getD_eq_getD_getElem?, List.getElem?_toArray, List.getElem?_cons_succ, List.getElem?_cons_zero, Option.getD_some] at H; go_simp)) | ((with_reducible refine k_load (T := 27) ?_); refine st_row rfl _ _ rfl _ rfl a27 2 s27 H 0 rfl rfl ?_; (intro K hK; go_simp)) | ((with_reducible refine k_load (T := 27) ?_); refine st_loads rfl _ _ rfl _ _ rfl a27 2 s27 H 0 rfl ?_ ?_; (simp); (intro K hK; go_simp)) | ((with_reducible refine k_load ?_); refine st_load rfl _ _ rfl _ _ rfl ?_ H 0 rfl rfl ?_; (kernel_rfl); (intro K hK; go_simp)))
          go_ret
          exact ⟨_, rfl, fun h => (by cases h), H.drop⟩
        | true =>
          go_wp2_with (first | ((with_reducible refine k_box ?_); refine st_box rfl _ _ rfl _ rfl H ?_; (clear H; intro g1 w H K hK; simp only [Value.cells, Act.eval, Value.cells, Array.getD_eq_getD_getElem?, List.getElem?_toArray, List.getElem?_cons_succ, List.getElem?_cons_zero, Option.getD_some] at H; go_simp)) | ((with_reducible refine k_load (T := 27) ?_); refine st_row rfl _ _ rfl _ rfl a27 2 s27 H 0 rfl rfl ?_; (intro K hK; go_simp)) | ((with_reducible refine k_load (T := 27) ?_); refine st_loads rfl _ _ rfl _ _ rfl a27 2 s27 H 0 rfl ?_ ?_; (simp); (intro K hK; go_simp)) | ((with_reducible refine k_load ?_); refine st_load rfl _ _ rfl _ _ rfl ?_ H 0 rfl rfl ?_; (kernel_rfl); (intro K hK; go_simp)))
          refine (within2 H cl 1 255).mono ?_
          rintro e w ⟨rfl, HX⟩
          clear H
          have H := HX
          clear HX
          cases ecl : inB cl 1 255 with
          | false =>
            go_wp2_with (first | ((with_reducible refine k_box ?_); refine st_box rfl _ _ rfl _ rfl H ?_; (clear H; intro g1 w H K hK; simp only [Value.cells, Act.eval, Value.cells, Array.getD_eq_getD_getElem?, List.getElem?_toArray, List.getElem?_cons_succ, List.getElem?_cons_zero, Option.getD_some] at H; go_simp)) | ((with_reducible refine k_load (T := 27) ?_); refine st_row rfl _ _ rfl _ rfl a27 2 s27 H 0 rfl rfl ?_; (intro K hK; go_simp)) | ((with_reducible refine k_load (T := 27) ?_); refine st_loads rfl _ _ rfl _ _ rfl a27 2 s27 H 0 rfl ?_ ?_; (simp); (intro K hK; go_simp)) | ((with_reducible refine k_load ?_); refine st_load rfl _ _ rfl _ _ rfl ?_ H 0 rfl rfl ?_; (kernel_rfl); (intro K hK; go_simp)))
            go_ret
            exact ⟨_, rfl, fun h => (by cases h), H.drop⟩
          | true =>
            go_wp2_with (first | ((with_reducible refine k_box ?_); refine st_box rfl _ _ rfl _ rfl H ?_; (clear H; intro g1 w H K hK; simp only [Value.cells, Act.eval, Value.cells, Array.getD_eq_getD_getElem?, List.getElem?_toArray, List.getElem?_cons_succ, List.getElem?_cons_zero, Option.getD_some] at H; go_simp)) | ((with_reducible refine k_load (T := 27) ?_); refine st_row rfl _ _ rfl _ rfl a27 2 s27 H 0 rfl rfl ?_; (intro K hK; go_simp)) | ((with_reducible refine k_load (T := 27) ?_); refine st_loads rfl _ _ rfl _ _ rfl a27 2 s27 H 0 rfl ?_ ?_; (simp); (intro K hK; go_simp)) | ((with_reducible refine k_load ?_); refine st_load rfl _ _ rfl _ _ rfl ?_ H 0 rfl rfl ?_; (kernel_rfl); (intro K hK; go_simp)))
            refine (within2 H op 1 1099511627776).mono ?_
            rintro e w ⟨rfl, HX⟩
            clear H
            have H := HX
            clear HX
            cases eop : inB op 1 1099511627776 with
            | false =>
              go_wp2_with (first | ((with_reducible refine k_box ?_); refine st_box rfl _ _ rfl _ rfl H ?_; (clear H; intro g1 w H K hK; simp only [Value.cells, Act.eval, Value.cells, Array.getD_eq_getD_getElem?, List.getElem?_toArray, List.getElem?_cons_succ, List.getElem?_cons_zero, Option.getD_some] at H; go_simp)) | ((with_reducible refine k_load (T := 27) ?_); refine st_row rfl _ _ rfl _ rfl a27 2 s27 H 0 rfl rfl ?_; (intro K hK; go_simp)) | ((with_reducible refine k_load (T := 27) ?_); refine st_loads rfl _ _ rfl _ _ rfl a27 2 s27 H 0 rfl ?_ ?_; (simp); (intro K hK; go_simp)) | ((with_reducible refine k_load ?_); refine st_load rfl _ _ rfl _ _ rfl ?_ H 0 rfl rfl ?_; (kernel_rfl); (intro K hK; go_simp)))
              go_ret
              exact ⟨_, rfl, fun h => (by cases h), H.drop⟩
            | true =>
              by_cases hnm : nm.toList.isEmpty = true
              · go_wp2_with (first | ((with_reducible refine k_box ?_); refine st_box rfl _ _ rfl _ rfl H ?_; (clear H; intro g1 w H K hK; simp only [Value.cells, Act.eval, Value.cells, Array.getD_eq_getD_getElem?, List.getElem?_toArray, List.getElem?_cons_succ, List.getElem?_cons_zero, Option.getD_some] at H; go_simp)) | ((with_reducible refine k_load (T := 27) ?_); refine st_row rfl _ _ rfl _ rfl a27 2 s27 H 0 rfl rfl ?_; (intro K hK; go_simp)) | ((with_reducible refine k_load (T := 27) ?_); refine st_loads rfl _ _ rfl _ _ rfl a27 2 s27 H 0 rfl ?_ ?_; (simp); (intro K hK; go_simp)) | ((with_reducible refine k_load ?_); refine st_load rfl _ _ rfl _ _ rfl ?_ H 0 rfl rfl ?_; (kernel_rfl); (intro K hK; go_simp)))
                go_ret
                exact ⟨_, rfl, fun h => (by cases h), H.drop⟩
              · have hne : nm.toList.isEmpty = false := by simpa using hnm
                go_wp2_with (first | ((with_reducible refine k_box ?_); refine st_box rfl _ _ rfl _ rfl H ?_; (clear H; intro g1 w H K hK; simp only [Value.cells, Act.eval, Value.cells, Array.getD_eq_getD_getElem?, List.getElem?_toArray, List.getElem?_cons_succ, List.getElem?_cons_zero, Option.getD_some] at H; go_simp)) | ((with_reducible refine k_load (T := 27) ?_); refine st_row rfl _ _ rfl _ rfl a27 2 s27 H 0 rfl rfl ?_; (intro K hK; go_simp)) | ((with_reducible refine k_load (T := 27) ?_); refine st_loads rfl _ _ rfl _ _ rfl a27 2 s27 H 0 rfl ?_ ?_; (simp); (intro K hK; go_simp)) | ((with_reducible refine k_load ?_); refine st_load rfl _ _ rfl _ _ rfl ?_ H 0 rfl rfl ?_; (kernel_rfl); (intro K hK; go_simp)))
                refine (name H nm).mono ?_
                rintro e w ⟨rfl, HX⟩
                clear H
                have H := HX
                clear HX
                cases enm : nameB nm with
                | false =>
                  go_wp2_with (first | ((with_reducible refine k_box ?_); refine st_box rfl _ _ rfl _ rfl H ?_; (clear H; intro g1 w H K hK; simp only [Value.cells, Act.eval, Value.cells, Array.getD_eq_getD_getElem?, List.getElem?_toArray, List.getElem?_cons_succ, List.getElem?_cons_zero, Option.getD_some] at H; go_simp)) | ((with_reducible refine k_load (T := 27) ?_); refine st_row rfl _ _ rfl _ rfl a27 2 s27 H 0 rfl rfl ?_; (intro K hK; go_simp)) | ((with_reducible refine k_load (T := 27) ?_); refine st_loads rfl _ _ rfl _ _ rfl a27 2 s27 H 0 rfl ?_ ?_; (simp); (intro K hK; go_simp)) | ((with_reducible refine k_load ?_); refine st_load rfl _ _ rfl _ _ rfl ?_ H 0 rfl rfl ?_; (kernel_rfl); (intro K hK; go_simp)))
                  go_ret
                  exact ⟨_, rfl, fun h => (by cases h), H.drop⟩
                | true =>
                  by_cases hfc : fc = 0
                  · subst hfc
                    by_cases hfo : fo = 0
                    · subst hfo
                      by_cases hnc : nc = 0
                      · subst hnc
                        by_cases hno : no = 0
                        · subst hno
                          go_wp2_with (first | ((with_reducible refine k_box ?_); refine st_box rfl _ _ rfl _ rfl H ?_; (clear H; intro g1 w H K hK; simp only [Value.cells, Act.eval, Value.cells, Array.getD_eq_getD_getElem?, List.getElem?_toArray, List.getElem?_cons_succ, List.getElem?_cons_zero, Option.getD_some] at H; go_simp)) | ((with_reducible refine k_load (T := 27) ?_); refine st_row rfl _ _ rfl _ rfl a27 2 s27 H 0 rfl rfl ?_; (intro K hK; go_simp)) | ((with_reducible refine k_load (T := 27) ?_); refine st_loads rfl _ _ rfl _ _ rfl a27 2 s27 H 0 rfl ?_ ?_; (simp); (intro K hK; go_simp)) | ((with_reducible refine k_load ?_); refine st_load rfl _ _ rfl _ _ rfl ?_ H 0 rfl rfl ?_; (kernel_rfl); (intro K hK; go_simp)))
                          refine (within2 H sz 0 4294967296).mono ?_
                          rintro e w ⟨rfl, HX⟩
                          clear H
                          have H := HX
                          clear HX
                          cases esz : inB sz 0 4294967296 with
                          | false =>
                            go_wp2_with (first | ((with_reducible refine k_box ?_); refine st_box rfl _ _ rfl _ rfl H ?_; (clear H; intro g1 w H K hK; simp only [Value.cells, Act.eval, Value.cells, Array.getD_eq_getD_getElem?, List.getElem?_toArray, List.getElem?_cons_succ, List.getElem?_cons_zero, Option.getD_some] at H; go_simp)) | ((with_reducible refine k_load (T := 27) ?_); refine st_row rfl _ _ rfl _ rfl a27 2 s27 H 0 rfl rfl ?_; (intro K hK; go_simp)) | ((with_reducible refine k_load (T := 27) ?_); refine st_loads rfl _ _ rfl _ _ rfl a27 2 s27 H 0 rfl ?_ ?_; (simp); (intro K hK; go_simp)) | ((with_reducible refine k_load ?_); refine st_load rfl _ _ rfl _ _ rfl ?_ H 0 rfl rfl ?_; (kernel_rfl); (intro K hK; go_simp)))
                            go_ret
                            exact ⟨_, rfl, fun h => (by cases h), H.drop⟩
                          | true =>
                            by_cases hs0 : sz = 0
                            · subst hs0
                              go_wp2_with (first | ((with_reducible refine k_box ?_); refine st_box rfl _ _ rfl _ rfl H ?_; (clear H; intro g1 w H K hK; simp only [Value.cells, Act.eval, Value.cells, Array.getD_eq_getD_getElem?, List.getElem?_toArray, List.getElem?_cons_succ, List.getElem?_cons_zero, Option.getD_some] at H; go_simp)) | ((with_reducible refine k_load (T := 27) ?_); refine st_row rfl _ _ rfl _ rfl a27 2 s27 H 0 rfl rfl ?_; (intro K hK; go_simp)) | ((with_reducible refine k_load (T := 27) ?_); refine st_loads rfl _ _ rfl _ _ rfl a27 2 s27 H 0 rfl ?_ ?_; (simp); (intro K hK; go_simp)) | ((with_reducible refine k_load ?_); refine st_load rfl _ _ rfl _ _ rfl ?_ H 0 rfl rfl ?_; (kernel_rfl); (intro K hK; go_simp)))
                              go_ret
                              exact ⟨_, rfl, fun _ => ⟨(inB_le ek).1, (inB_le ek).2, ecl, eop, fun _ => enm, fun h => absurd h (by show ¬ (5 : Int) ≤ kd; omega), fun h => absurd h hk7, esz, fun _ => rfl⟩, H.drop⟩
                            · go_wp2_with (first | ((with_reducible refine k_box ?_); refine st_box rfl _ _ rfl _ rfl H ?_; (clear H; intro g1 w H K hK; simp only [Value.cells, Act.eval, Value.cells, Array.getD_eq_getD_getElem?, List.getElem?_toArray, List.getElem?_cons_succ, List.getElem?_cons_zero, Option.getD_some] at H; go_simp)) | ((with_reducible refine k_load (T := 27) ?_); refine st_row rfl _ _ rfl _ rfl a27 2 s27 H 0 rfl rfl ?_; (intro K hK; go_simp)) | ((with_reducible refine k_load (T := 27) ?_); refine st_loads rfl _ _ rfl _ _ rfl a27 2 s27 H 0 rfl ?_ ?_; (simp); (intro K hK; go_simp)) | ((with_reducible refine k_load ?_); refine st_load rfl _ _ rfl _ _ rfl ?_ H 0 rfl rfl ?_; (kernel_rfl); (intro K hK; go_simp)))
                              go_ret
                              refine ⟨_, rfl, fun h => ?_, H.drop⟩
                              exfalso
                              simp at h
                              exact hs0 h
                        · go_wp2_with (first | ((with_reducible refine k_box ?_); refine st_box rfl _ _ rfl _ rfl H ?_; (clear H; intro g1 w H K hK; simp only [Value.cells, Act.eval, Value.cells, Array.getD_eq_getD_getElem?, List.getElem?_toArray, List.getElem?_cons_succ, List.getElem?_cons_zero, Option.getD_some] at H; go_simp)) | ((with_reducible refine k_load (T := 27) ?_); refine st_row rfl _ _ rfl _ rfl a27 2 s27 H 0 rfl rfl ?_; (intro K hK; go_simp)) | ((with_reducible refine k_load (T := 27) ?_); refine st_loads rfl _ _ rfl _ _ rfl a27 2 s27 H 0 rfl ?_ ?_; (simp); (intro K hK; go_simp)) | ((with_reducible refine k_load ?_); refine st_load rfl _ _ rfl _ _ rfl ?_ H 0 rfl rfl ?_; (kernel_rfl); (intro K hK; go_simp)))
                          go_ret
                          exact ⟨_, rfl, fun h => (by cases h), H.drop⟩
                      · go_wp2_with (first | ((with_reducible refine k_box ?_); refine st_box rfl _ _ rfl _ rfl H ?_; (clear H; intro g1 w H K hK; simp only [Value.cells, Act.eval, Value.cells, Array.getD_eq_getD_getElem?, List.getElem?_toArray, List.getElem?_cons_succ, List.getElem?_cons_zero, Option.getD_some] at H; go_simp)) | ((with_reducible refine k_load (T := 27) ?_); refine st_row rfl _ _ rfl _ rfl a27 2 s27 H 0 rfl rfl ?_; (intro K hK; go_simp)) | ((with_reducible refine k_load (T := 27) ?_); refine st_loads rfl _ _ rfl _ _ rfl a27 2 s27 H 0 rfl ?_ ?_; (simp); (intro K hK; go_simp)) | ((with_reducible refine k_load ?_); refine st_load rfl _ _ rfl _ _ rfl ?_ H 0 rfl rfl ?_; (kernel_rfl); (intro K hK; go_simp)))
                        go_ret
                        exact ⟨_, rfl, fun h => (by cases h), H.drop⟩
                    · go_wp2_with (first | ((with_reducible refine k_box ?_); refine st_box rfl _ _ rfl _ rfl H ?_; (clear H; intro g1 w H K hK; simp only [Value.cells, Act.eval, Value.cells, Array.getD_eq_getD_getElem?, List.getElem?_toArray, List.getElem?_cons_succ, List.getElem?_cons_zero, Option.getD_some] at H; go_simp)) | ((with_reducible refine k_load (T := 27) ?_); refine st_row rfl _ _ rfl _ rfl a27 2 s27 H 0 rfl rfl ?_; (intro K hK; go_simp)) | ((with_reducible refine k_load (T := 27) ?_); refine st_loads rfl _ _ rfl _ _ rfl a27 2 s27 H 0 rfl ?_ ?_; (simp); (intro K hK; go_simp)) | ((with_reducible refine k_load ?_); refine st_load rfl _ _ rfl _ _ rfl ?_ H 0 rfl rfl ?_; (kernel_rfl); (intro K hK; go_simp)))
                      go_ret
                      exact ⟨_, rfl, fun h => (by cases h), H.drop⟩
                  · go_wp2_with (first | ((with_reducible refine k_box ?_); refine st_box rfl _ _ rfl _ rfl H ?_; (clear H; intro g1 w H K hK; simp only [Value.cells, Act.eval, Value.cells, Array.getD_eq_getD_getElem?, List.getElem?_toArray, List.getElem?_cons_succ, List.getElem?_cons_zero, Option.getD_some] at H; go_simp)) | ((with_reducible refine k_load (T := 27) ?_); refine st_row rfl _ _ rfl _ rfl a27 2 s27 H 0 rfl rfl ?_; (intro K hK; go_simp)) | ((with_reducible refine k_load (T := 27) ?_); refine st_loads rfl _ _ rfl _ _ rfl a27 2 s27 H 0 rfl ?_ ?_; (simp); (intro K hK; go_simp)) | ((with_reducible refine k_load ?_); refine st_load rfl _ _ rfl _ _ rfl ?_ H 0 rfl rfl ?_; (kernel_rfl); (intro K hK; go_simp)))
                    go_ret
                    exact ⟨_, rfl, fun h => (by cases h), H.drop⟩
end
end Bk
end Go.Proofs.Ytcofcikdknmggaa
