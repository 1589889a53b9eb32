/-
  The reference's Take.
-/
import Derived.Test.YtjobojgmadjmfaaMdRTakeE
import Derived.Test.YtjobojgmadjmfaaMdRTakeL
namespace Go.Proofs.Ytjobojgmadjmfaa
open Go.Hp Go.RowKit
set_option linter.unusedVariables false
set_option linter.unusedSimpArgs false
set_option maxRecDepth 100000
set_option maxHeartbeats 16000000
namespace Md

section
variable {w0 w : World} {L : List HProp}

theorem rtakeH {m : Mg} {vb ve vl vc : Value} (hmv : MgAt w m vb ve vl vc) (hmo : m.Ok) (hcl : m.cmds.length * 80 ≤ 140737488355328) {h : Hd} {vd ve2 vl2 vr : Value} (hm : May h) (hok : h.Ok) (hsz : h.row.length ≤ 140737488355328) (hv : HdAt w h vd ve2 vl2 vr) (H : At w0 L w) :
    Calls Try.prog 19 #[.agg (mgV m vb ve vl vc), .agg (hdV h vd ve2 vl2 vr)] w (RTh w0 L (takeS m h) vb ve vl) := by
  obtain ⟨W, rfl⟩ : ∃ W : World, W = w := ⟨_, rfl⟩
  have HF := At.of W
  have H0 := Lib.hid H
  have Hm := Lib.hid hm
  have HV := Lib.hid hv
  obtain ⟨ac, cap, rfl, c1, c2, c3⟩ := hmv.c.value
  have ove := row_one hmv.e.1
  have ovl := row_one hmv.l.1
  obtain ⟨adb, capb, hvb, -⟩ := hmv.b
  subst hvb
  have Hmv := Lib.hid hmv
  have C3 := Lib.hid c3
  have Hok := Lib.hid hok
  have Hmo := Lib.hid hmo
  have hu0 := hm.u0
  have hu1 := hm.u1
  clear hm hv H hmv hok hmo c3
  simp only [mgV, hdV]
  unfold takeS
  by_cases hk : m.kind = 22
  · rw [if_neg (by simpa using hk)]
    have hkb : (m.kind == 22) = true := by simpa using hk
    have hkb2 : (m.kind != 22) = false := by simpa using hk
    have Hhk := Lib.hid hk
    clear hk
    by_cases h1 : m.kk = 1
    · rw [if_pos h1]
      have h1b : (m.kk == 1) = true := by simpa using h1
      have Hkk := Lib.hid h1
      clear h1
      cases hle : lessS h.sn h.sc m.sn m.sc with
      | true =>
        rw [if_pos rfl]
        have hs := Lib.hid (rfl : (([chB m], mg0, false) : List Cg × Mg × Bool) = ([chB m], mg0, false))
        have Hle := Lib.hid hle
        clear hle
        go_enter Try.func19, Try.ntmps19
        go_wp2_with (first | ((with_reducible refine k_box (T := 39) ?_); refine st_box rfl _ _ rfl _ rfl HF ?_; (clear HF; intro gm w HF K hK; simp only [Value.cells, Act.eval, Value.cells, Array.getD_eq_getD_getElem?, List.getElem?_toArray, List.getElem?_cons_succ, List.getElem?_cons_zero, Option.getD_some] at HF; go_simp)) | ((with_reducible refine k_box (T := 44) ?_); refine st_box rfl _ _ rfl _ rfl HF ?_; (clear HF; intro gh w HF K hK; simp only [Value.cells, Act.eval, Value.cells, Array.getD_eq_getD_getElem?, List.getElem?_toArray, List.getElem?_cons_succ, List.getElem?_cons_zero, Option.getD_some] at HF; go_simp)) | ((with_reducible refine k_alloc (T := 39) ?_); refine st_alloc rfl _ rfl _ z39 _ rfl HF ?_; (clear HF; intro g5 w HF K hK; simp only [Value.cells] at HF; go_simp)) | ((with_reducible refine k_load (T := 27) ?_); (first | refine st_row rfl _ _ rfl _ rfl a27 2 s27 HF 1 rfl rfl ?_ | refine st_row rfl _ _ rfl _ rfl a27 2 s27 HF 2 rfl rfl ?_); (intro K hK; go_simp)) | ((with_reducible refine k_load (T := 27) ?_); (first | refine st_loads rfl _ _ rfl _ _ rfl a27 2 s27 HF 1 rfl ?_ ?_ | refine st_loads rfl _ _ rfl _ _ rfl a27 2 s27 HF 2 rfl ?_ ?_); (simp); (intro K hK; go_simp)) | ((with_reducible refine k_load ?_); (first | refine st_load rfl _ _ rfl _ _ rfl ?_ HF 1 rfl rfl ?_ | refine st_load rfl _ _ rfl _ _ rfl ?_ HF 2 rfl rfl ?_); (kernel_rfl); (intro K hK; go_simp)))
        refine (rless HF h.sn h.sc m.sn m.sc).mono ?_
        rintro e w1 ⟨rfl, H1⟩
        replace HF := own_nil H1 71 24
        clear H1
        rw [Hle.out]
        go_wp2_with (first | ((with_reducible refine k_load (T := 25) ?_); (first | refine st_row rfl _ _ rfl _ rfl a25 4 s25 HF 3 rfl rfl ?_ | refine st_row rfl _ _ rfl _ rfl a25 4 s25 HF 4 rfl rfl ?_); (intro K hK; go_simp)) | ((with_reducible refine k_load (T := 25) ?_); (first | refine st_loads rfl _ _ rfl _ _ rfl a25 4 s25 HF 3 rfl ?_ ?_ | refine st_loads rfl _ _ rfl _ _ rfl a25 4 s25 HF 4 rfl ?_ ?_); (simp); (intro K hK; go_simp)) | ((with_reducible refine k_load (T := 27) ?_); (first | refine st_row rfl _ _ rfl _ rfl a27 2 s27 HF 3 rfl rfl ?_ | refine st_row rfl _ _ rfl _ rfl a27 2 s27 HF 4 rfl rfl ?_); (intro K hK; go_simp)) | ((with_reducible refine k_load (T := 27) ?_); (first | refine st_loads rfl _ _ rfl _ _ rfl a27 2 s27 HF 3 rfl ?_ ?_ | refine st_loads rfl _ _ rfl _ _ rfl a27 2 s27 HF 4 rfl ?_ ?_); (simp); (intro K hK; go_simp)) | ((with_reducible refine k_lit ?_); refine st_lit1 rfl _ _ rfl ((chB m).cells (.slice adb m.blk.length capb) nl nl).toArray rfl 71 Try.underlying61 24 s71 _ z71 rfl rfl (by decide) (by decide) HF ?_; (clear HF; intro gl w6 HF K hK; replace HF := HF.pick 1 rfl; go_simp)) | ((with_reducible refine k_builtin ?_); refine st_append rfl _ _ _ rfl 71 Try.underlying61 24 s71 248 ?_ _ z71 rfl _ _ _ rfl HF (some ⟨gl, 0, none⟩) 1 1 ((chB m).cells (.slice adb m.blk.length capb) nl nl) rfl ?_ ?_ ?_ ?_ ?_ ?_; (kernel_rfl); (rfl); (intro _; exact ⟨_, rfl, cells_of (HF.get 1 rfl)⟩); (exact cells_one _ (by first | rfl | assumption) (by first | rfl | assumption) (by first | rfl | assumption)); (simp [maxLen]); (decide); (clear HF; intro vc2 w7 HF K hK; go_simp)) | ((with_reducible refine k_store (T := 39) ?_); refine st_put rfl _ _ _ rfl _ rfl _ rfl ?_ s39 HF 2 rfl rfl ?_; (simp [Value.oneCell']); (clear HF; intro w HF K hK; simp only [List.set_cons_zero, List.set_cons_succ, Act.eval, Value.cells, Array.getD_eq_getD_getElem?, List.getElem?_toArray, List.getElem?_cons_succ, List.getElem?_cons_zero, Option.getD_some] at HF; go_simp)) | ((with_reducible refine k_load ?_); (first | refine st_load rfl _ _ rfl _ _ rfl ?_ HF 3 rfl rfl ?_ | refine st_load rfl _ _ rfl _ _ rfl ?_ HF 4 rfl rfl ?_); (kernel_rfl); (intro K hK; go_simp)))
        refine bodyPost_ret (results_three rfl rfl a39 s39 (HF.get 2 rfl) rfl rfl rfl) rfl ?_
        exact ⟨_, rfl, endT rfl (chRows_B Hkk.out _ _ _) (HF.sel 6 [0, 5]) H0.out⟩
      | false =>
        rw [if_neg (by simp)]
        have Hle := Lib.hid hle
        clear hle
        go_enter Try.func19, Try.ntmps19
        go_wp2_with (first | ((with_reducible refine k_box (T := 39) ?_); refine st_box rfl _ _ rfl _ rfl HF ?_; (clear HF; intro gm w HF K hK; simp only [Value.cells, Act.eval, Value.cells, Array.getD_eq_getD_getElem?, List.getElem?_toArray, List.getElem?_cons_succ, List.getElem?_cons_zero, Option.getD_some] at HF; go_simp)) | ((with_reducible refine k_box (T := 44) ?_); refine st_box rfl _ _ rfl _ rfl HF ?_; (clear HF; intro gh w HF K hK; simp only [Value.cells, Act.eval, Value.cells, Array.getD_eq_getD_getElem?, List.getElem?_toArray, List.getElem?_cons_succ, List.getElem?_cons_zero, Option.getD_some] at HF; go_simp)) | ((with_reducible refine k_alloc (T := 39) ?_); refine st_alloc rfl _ rfl _ z39 _ rfl HF ?_; (clear HF; intro g5 w HF K hK; simp only [Value.cells] at HF; go_simp)) | ((with_reducible refine k_load (T := 27) ?_); (first | refine st_row rfl _ _ rfl _ rfl a27 2 s27 HF 1 rfl rfl ?_ | refine st_row rfl _ _ rfl _ rfl a27 2 s27 HF 2 rfl rfl ?_); (intro K hK; go_simp)) | ((with_reducible refine k_load (T := 27) ?_); (first | refine st_loads rfl _ _ rfl _ _ rfl a27 2 s27 HF 1 rfl ?_ ?_ | refine st_loads rfl _ _ rfl _ _ rfl a27 2 s27 HF 2 rfl ?_ ?_); (simp); (intro K hK; go_simp)) | ((with_reducible refine k_load ?_); (first | refine st_load rfl _ _ rfl _ _ rfl ?_ HF 1 rfl rfl ?_ | refine st_load rfl _ _ rfl _ _ rfl ?_ HF 2 rfl rfl ?_); (kernel_rfl); (intro K hK; go_simp)))
        refine (rless HF h.sn h.sc m.sn m.sc).mono ?_
        rintro e w1 ⟨rfl, H1⟩
        replace HF := H1
        clear H1
        rw [Hle.out]
        go_wp2_with (first | ((with_reducible refine k_store (T := 39) ?_); refine st_put rfl _ _ _ rfl _ rfl _ rfl ?_ s39 HF 0 rfl rfl ?_; (simp [Value.oneCell']); (clear HF; intro w HF K hK; simp only [List.set_cons_zero, List.set_cons_succ, Act.eval, Value.cells, Array.getD_eq_getD_getElem?, List.getElem?_toArray, List.getElem?_cons_succ, List.getElem?_cons_zero, Option.getD_some] at HF; go_simp)) | ((with_reducible refine k_load ?_); (first | refine st_load rfl _ _ rfl _ _ rfl ?_ HF 1 rfl rfl ?_ | refine st_load rfl _ _ rfl _ _ rfl ?_ HF 2 rfl rfl ?_); (kernel_rfl); (intro K hK; go_simp)))
        refine bodyPost_ret (results_three rfl rfl a39 s39 (HF.get 0 rfl) rfl rfl rfl) rfl ?_
        exact ⟨_, rfl, hold_nil ((HF.sel 4 [3]).lift0 H0.out)⟩
    · rw [if_neg h1]
      have h1b : (m.kk == 1) = false := by simpa using h1
      clear h1
      by_cases h2 : m.kk = 2
      · rw [if_pos h2]
        have h2b : (m.kk == 2) = true := by simpa using h2
        have h2c : (m.kk != 2) = false := by simpa using h2
        by_cases h3 : m.upto < 0
        ·
          have hs := Lib.hid (show takeBS m h = ([], mg0, false) by unfold takeBS; rw [if_pos (Or.inl h3)])
          rw [hs.out]
          go_enter Try.func19, Try.ntmps19
          go_wp2_with (first | ((with_reducible refine k_box (T := 39) ?_); refine st_box rfl _ _ rfl _ rfl HF ?_; (clear HF; intro gm w HF K hK; simp only [Value.cells, Act.eval, Value.cells, Array.getD_eq_getD_getElem?, List.getElem?_toArray, List.getElem?_cons_succ, List.getElem?_cons_zero, Option.getD_some] at HF; go_simp)) | ((with_reducible refine k_box (T := 44) ?_); refine st_box rfl _ _ rfl _ rfl HF ?_; (clear HF; intro gh w HF K hK; simp only [Value.cells, Act.eval, Value.cells, Array.getD_eq_getD_getElem?, List.getElem?_toArray, List.getElem?_cons_succ, List.getElem?_cons_zero, Option.getD_some] at HF; go_simp)) | ((with_reducible refine k_alloc (T := 39) ?_); refine st_alloc rfl _ rfl _ z39 _ rfl HF ?_; (clear HF; intro g5 w HF K hK; simp only [Value.cells] at HF; go_simp)) | ((with_reducible refine k_store (T := 39) ?_); refine st_put rfl _ _ _ rfl _ rfl _ rfl ?_ s39 HF 0 rfl rfl ?_; (simp [Value.oneCell']); (clear HF; intro w HF K hK; simp only [List.set_cons_zero, List.set_cons_succ, Act.eval, Value.cells, Array.getD_eq_getD_getElem?, List.getElem?_toArray, List.getElem?_cons_succ, List.getElem?_cons_zero, Option.getD_some] at HF; go_simp)) | ((with_reducible refine k_load ?_); (first | refine st_load rfl _ _ rfl _ _ rfl ?_ HF 1 rfl rfl ?_ | refine st_load rfl _ _ rfl _ _ rfl ?_ HF 2 rfl rfl ?_); (kernel_rfl); (intro K hK; go_simp)))
          refine bodyPost_ret (results_three rfl rfl a39 s39 (HF.get 0 rfl) rfl rfl rfl) rfl ?_
          exact ⟨_, rfl, hold_nil ((HF.sel 4 [3]).lift0 H0.out)⟩
        by_cases h4 : 1048576 < m.upto
        ·
          have hs := Lib.hid (show takeBS m h = ([], mg0, false) by unfold takeBS; rw [if_pos (Or.inr (Or.inl h4))])
          rw [hs.out]
          go_enter Try.func19, Try.ntmps19
          go_wp2_with (first | ((with_reducible refine k_box (T := 39) ?_); refine st_box rfl _ _ rfl _ rfl HF ?_; (clear HF; intro gm w HF K hK; simp only [Value.cells, Act.eval, Value.cells, Array.getD_eq_getD_getElem?, List.getElem?_toArray, List.getElem?_cons_succ, List.getElem?_cons_zero, Option.getD_some] at HF; go_simp)) | ((with_reducible refine k_box (T := 44) ?_); refine st_box rfl _ _ rfl _ rfl HF ?_; (clear HF; intro gh w HF K hK; simp only [Value.cells, Act.eval, Value.cells, Array.getD_eq_getD_getElem?, List.getElem?_toArray, List.getElem?_cons_succ, List.getElem?_cons_zero, Option.getD_some] at HF; go_simp)) | ((with_reducible refine k_alloc (T := 39) ?_); refine st_alloc rfl _ rfl _ z39 _ rfl HF ?_; (clear HF; intro g5 w HF K hK; simp only [Value.cells] at HF; go_simp)) | ((with_reducible refine k_store (T := 39) ?_); refine st_put rfl _ _ _ rfl _ rfl _ rfl ?_ s39 HF 0 rfl rfl ?_; (simp [Value.oneCell']); (clear HF; intro w HF K hK; simp only [List.set_cons_zero, List.set_cons_succ, Act.eval, Value.cells, Array.getD_eq_getD_getElem?, List.getElem?_toArray, List.getElem?_cons_succ, List.getElem?_cons_zero, Option.getD_some] at HF; go_simp)) | ((with_reducible refine k_load ?_); (first | refine st_load rfl _ _ rfl _ _ rfl ?_ HF 1 rfl rfl ?_ | refine st_load rfl _ _ rfl _ _ rfl ?_ HF 2 rfl rfl ?_); (kernel_rfl); (intro K hK; go_simp)))
          refine bodyPost_ret (results_three rfl rfl a39 s39 (HF.get 0 rfl) rfl rfl rfl) rfl ?_
          exact ⟨_, rfl, hold_nil ((HF.sel 4 [3]).lift0 H0.out)⟩
        by_cases h5 : m.upto = 0
        · have h5b : (m.upto == 0) = true := by simpa using h5
          have h5c : ¬ (0 : Int) < m.upto := by omega
          by_cases h6 : 1 ≤ m.sn ∧ m.sn ≤ 1048577
          · exact rtakeL Hmv.out Hmo.out Hhk.out h2 h5 h6.1 h6.2 hcl Hm.out Hok.out hsz HV.out H0.out
          · have hs := Lib.hid (show takeBS m h = ([], mg0, false) by unfold takeBS; rw [if_pos (Or.inr (Or.inr ⟨h5, h6⟩))])
            rw [hs.out]
            clear h5
            by_cases h7 : m.sn < 1
            ·
              go_enter Try.func19, Try.ntmps19
              go_wp2_with (first | ((with_reducible refine k_box (T := 39) ?_); refine st_box rfl _ _ rfl _ rfl HF ?_; (clear HF; intro gm w HF K hK; simp only [Value.cells, Act.eval, Value.cells, Array.getD_eq_getD_getElem?, List.getElem?_toArray, List.getElem?_cons_succ, List.getElem?_cons_zero, Option.getD_some] at HF; go_simp)) | ((with_reducible refine k_box (T := 44) ?_); refine st_box rfl _ _ rfl _ rfl HF ?_; (clear HF; intro gh w HF K hK; simp only [Value.cells, Act.eval, Value.cells, Array.getD_eq_getD_getElem?, List.getElem?_toArray, List.getElem?_cons_succ, List.getElem?_cons_zero, Option.getD_some] at HF; go_simp)) | ((with_reducible refine k_alloc (T := 39) ?_); refine st_alloc rfl _ rfl _ z39 _ rfl HF ?_; (clear HF; intro g5 w HF K hK; simp only [Value.cells] at HF; go_simp)) | ((with_reducible refine k_store (T := 39) ?_); refine st_put rfl _ _ _ rfl _ rfl _ rfl ?_ s39 HF 0 rfl rfl ?_; (simp [Value.oneCell']); (clear HF; intro w HF K hK; simp only [List.set_cons_zero, List.set_cons_succ, Act.eval, Value.cells, Array.getD_eq_getD_getElem?, List.getElem?_toArray, List.getElem?_cons_succ, List.getElem?_cons_zero, Option.getD_some] at HF; go_simp)) | ((with_reducible refine k_load ?_); (first | refine st_load rfl _ _ rfl _ _ rfl ?_ HF 1 rfl rfl ?_ | refine st_load rfl _ _ rfl _ _ rfl ?_ HF 2 rfl rfl ?_); (kernel_rfl); (intro K hK; go_simp)))
              refine bodyPost_ret (results_three rfl rfl a39 s39 (HF.get 0 rfl) rfl rfl rfl) rfl ?_
              exact ⟨_, rfl, hold_nil ((HF.sel 4 [3]).lift0 H0.out)⟩
            · have h8 : 1048577 < m.sn := by omega
              go_enter Try.func19, Try.ntmps19
              go_wp2_with (first | ((with_reducible refine k_box (T := 39) ?_); refine st_box rfl _ _ rfl _ rfl HF ?_; (clear HF; intro gm w HF K hK; simp only [Value.cells, Act.eval, Value.cells, Array.getD_eq_getD_getElem?, List.getElem?_toArray, List.getElem?_cons_succ, List.getElem?_cons_zero, Option.getD_some] at HF; go_simp)) | ((with_reducible refine k_box (T := 44) ?_); refine st_box rfl _ _ rfl _ rfl HF ?_; (clear HF; intro gh w HF K hK; simp only [Value.cells, Act.eval, Value.cells, Array.getD_eq_getD_getElem?, List.getElem?_toArray, List.getElem?_cons_succ, List.getElem?_cons_zero, Option.getD_some] at HF; go_simp)) | ((with_reducible refine k_alloc (T := 39) ?_); refine st_alloc rfl _ rfl _ z39 _ rfl HF ?_; (clear HF; intro g5 w HF K hK; simp only [Value.cells] at HF; go_simp)) | ((with_reducible refine k_store (T := 39) ?_); refine st_put rfl _ _ _ rfl _ rfl _ rfl ?_ s39 HF 0 rfl rfl ?_; (simp [Value.oneCell']); (clear HF; intro w HF K hK; simp only [List.set_cons_zero, List.set_cons_succ, Act.eval, Value.cells, Array.getD_eq_getD_getElem?, List.getElem?_toArray, List.getElem?_cons_succ, List.getElem?_cons_zero, Option.getD_some] at HF; go_simp)) | ((with_reducible refine k_load ?_); (first | refine st_load rfl _ _ rfl _ _ rfl ?_ HF 1 rfl rfl ?_ | refine st_load rfl _ _ rfl _ _ rfl ?_ HF 2 rfl rfl ?_); (kernel_rfl); (intro K hK; go_simp)))
              refine bodyPost_ret (results_three rfl rfl a39 s39 (HF.get 0 rfl) rfl rfl rfl) rfl ?_
              exact ⟨_, rfl, hold_nil ((HF.sel 4 [3]).lift0 H0.out)⟩
        · exact rtakeE Hmv.out Hmo.out Hhk.out h2 h3 h4 h5 hcl Hm.out Hok.out hsz HV.out H0.out
      · rw [if_neg h2]
        have h2c : (m.kk != 2) = true := by simpa using h2
        clear h2
        go_enter Try.func19, Try.ntmps19
        go_wp2_with (first | ((with_reducible refine k_box (T := 39) ?_); refine st_box rfl _ _ rfl _ rfl HF ?_; (clear HF; intro gm w HF K hK; simp only [Value.cells, Act.eval, Value.cells, Array.getD_eq_getD_getElem?, List.getElem?_toArray, List.getElem?_cons_succ, List.getElem?_cons_zero, Option.getD_some] at HF; go_simp)) | ((with_reducible refine k_box (T := 44) ?_); refine st_box rfl _ _ rfl _ rfl HF ?_; (clear HF; intro gh w HF K hK; simp only [Value.cells, Act.eval, Value.cells, Array.getD_eq_getD_getElem?, List.getElem?_toArray, List.getElem?_cons_succ, List.getElem?_cons_zero, Option.getD_some] at HF; go_simp)) | ((with_reducible refine k_alloc (T := 39) ?_); refine st_alloc rfl _ rfl _ z39 _ rfl HF ?_; (clear HF; intro g5 w HF K hK; simp only [Value.cells] at HF; go_simp)) | ((with_reducible refine k_store (T := 39) ?_); refine st_put rfl _ _ _ rfl _ rfl _ rfl ?_ s39 HF 0 rfl rfl ?_; (simp [Value.oneCell']); (clear HF; intro w HF K hK; simp only [List.set_cons_zero, List.set_cons_succ, Act.eval, Value.cells, Array.getD_eq_getD_getElem?, List.getElem?_toArray, List.getElem?_cons_succ, List.getElem?_cons_zero, Option.getD_some] at HF; go_simp)) | ((with_reducible refine k_load ?_); (first | refine st_load rfl _ _ rfl _ _ rfl ?_ HF 1 rfl rfl ?_ | refine st_load rfl _ _ rfl _ _ rfl ?_ HF 2 rfl rfl ?_); (kernel_rfl); (intro K hK; go_simp)))
        refine bodyPost_ret (results_three rfl rfl a39 s39 (HF.get 0 rfl) rfl rfl rfl) rfl ?_
        exact ⟨_, rfl, hold_nil ((HF.sel 4 [3]).lift0 H0.out)⟩
  · rw [if_pos hk]
    have hkb : (m.kind == 22) = false := by simpa using hk
    have hkb2 : (m.kind != 22) = true := by simpa using hk
    clear hk
    go_enter Try.func19, Try.ntmps19
    go_wp2_with (first | ((with_reducible refine k_box (T := 39) ?_); refine st_box rfl _ _ rfl _ rfl HF ?_; (clear HF; intro gm w HF K hK; simp only [Value.cells, Act.eval, Value.cells, Array.getD_eq_getD_getElem?, List.getElem?_toArray, List.getElem?_cons_succ, List.getElem?_cons_zero, Option.getD_some] at HF; go_simp)) | ((with_reducible refine k_box (T := 44) ?_); refine st_box rfl _ _ rfl _ rfl HF ?_; (clear HF; intro gh w HF K hK; simp only [Value.cells, Act.eval, Value.cells, Array.getD_eq_getD_getElem?, List.getElem?_toArray, List.getElem?_cons_succ, List.getElem?_cons_zero, Option.getD_some] at HF; go_simp)) | ((with_reducible refine k_alloc (T := 39) ?_); refine st_alloc rfl _ rfl _ z39 _ rfl HF ?_; (clear HF; intro g5 w HF K hK; simp only [Value.cells] at HF; go_simp)) | ((with_reducible refine k_store (T := 39) ?_); refine st_put rfl _ _ _ rfl _ rfl _ rfl ?_ s39 HF 0 rfl rfl ?_; (simp [Value.oneCell']); (clear HF; intro w HF K hK; simp only [List.set_cons_zero, List.set_cons_succ, Act.eval, Value.cells, Array.getD_eq_getD_getElem?, List.getElem?_toArray, List.getElem?_cons_succ, List.getElem?_cons_zero, Option.getD_some] at HF; go_simp)) | ((with_reducible refine k_load ?_); (first | refine st_load rfl _ _ rfl _ _ rfl ?_ HF 1 rfl rfl ?_ | refine st_load rfl _ _ rfl _ _ rfl ?_ HF 2 rfl rfl ?_); (kernel_rfl); (intro K hK; go_simp)))
    refine bodyPost_ret (results_three rfl rfl a39 s39 (HF.get 0 rfl) rfl rfl rfl) rfl ?_
    exact ⟨_, rfl, hold_nil ((HF.sel 4 [3]).lift0 H0.out)⟩
end
end Md
end Go.Proofs.Ytjobojgmadjmfaa
