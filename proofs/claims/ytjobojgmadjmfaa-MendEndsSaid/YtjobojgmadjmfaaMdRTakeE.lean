/-
  The reference's Take of a bucket.
-/
import Derived.Test.YtjobojgmadjmfaaMdRTakeS
namespace Go.Proofs.Ytjobojgmadjmfaa
open Go.Hp Go.RowKit
set_option linter.unusedVariables false
set_option linter.unusedSimpArgs false
set_option maxRecDepth 100000
set_option maxHeartbeats 16000000
namespace Md

section
variable {w0 w : World} {L : List HProp}

theorem rtakeE {m : Mg} {vb ve vl vc : Value} (hmv : MgAt w m vb ve vl vc) (hmo : m.Ok) (hkk : m.kind = 22) (h2 : m.kk = 2) (h3 : ¬ m.upto < 0) (h4 : ¬ 1048576 < m.upto) (h5 : ¬ m.upto = 0)  (hcl : m.cmds.length * 80 ≤ 140737488355328) {h : Hd} {vd ve2 vl2 vr : Value} (hm : May h) (hok : h.Ok) (hsz : h.row.length ≤ 140737488355328) (hv : HdAt w h vd ve2 vl2 vr) (H : At w0 L w) :
    Calls Try.prog 19 #[.agg (mgV m vb ve vl vc), .agg (hdV h vd ve2 vl2 vr)] w (RTh w0 L (takeBS m h) vb ve vl) := by
  obtain ⟨W, rfl⟩ : ∃ W : World, W = w := ⟨_, rfl⟩
  have HF := At.of W
  have H0 := Lib.hid H
  have Hm := Lib.hid hm
  have HV := Lib.hid hv
  obtain ⟨ac, cap, rfl, c1, c2, c3⟩ := hmv.c.value
  have ove := row_one hmv.e.1
  have ovl := row_one hmv.l.1
  obtain ⟨adb, capb, hvb, -⟩ := hmv.b
  subst hvb
  have Hmv := Lib.hid hmv
  have C3 := Lib.hid c3
  have Hok := Lib.hid hok
  have Hmo := Lib.hid hmo
  have hu0 := hm.u0
  have hu1 := hm.u1
  clear hm hv H hmv hok hmo c3
  simp only [mgV, hdV]
  have hkb : (m.kind == 22) = true := by simpa using hkk
  have hkb2 : (m.kind != 22) = false := by simpa using hkk
  have h1b : (m.kk == 1) = false := by rw [h2]; rfl
  have h2b : (m.kk == 2) = true := by simpa using h2
  have h2c : (m.kk != 2) = false := by simpa using h2
  have HeK := Lib.hid (chRows_K h2 (.slice adb m.blk.length capb) ve vl)
  clear hkk h2
  have h5b : (m.upto == 0) = false := by simpa using h5
  have h5c : (0 : Int) < m.upto := by omega
  have Hbad := Lib.hid (show ¬ (m.upto < 0 ∨ 1048576 < m.upto ∨ (m.upto = 0 ∧ ¬ (1 ≤ m.sn ∧ m.sn ≤ 1048577))) by omega)
  have H5 := Lib.hid h5
  clear h5
  by_cases h7 : edgeS h < m.upto
  · cases hmore : m.more with
    | false =>
      have hs := Lib.hid (show takeBS m h = ([chK m], mg0, false) by unfold takeBS; rw [if_neg Hbad.out, if_pos (Or.inl hmore), if_neg H5.out, if_pos h7])
      go_enter Try.func19, Try.ntmps19
      go_wp2_with (first | ((with_reducible refine k_box (T := 39) ?_); refine st_box rfl _ _ rfl _ rfl HF ?_; (clear HF; intro gm w HF K hK; simp only [Value.cells, Act.eval, Value.cells, Array.getD_eq_getD_getElem?, List.getElem?_toArray, List.getElem?_cons_succ, List.getElem?_cons_zero, Option.getD_some] at HF; go_simp)) | ((with_reducible refine k_box (T := 44) ?_); refine st_box rfl _ _ rfl _ rfl HF ?_; (clear HF; intro gh w HF K hK; simp only [Value.cells, Act.eval, Value.cells, Array.getD_eq_getD_getElem?, List.getElem?_toArray, List.getElem?_cons_succ, List.getElem?_cons_zero, Option.getD_some] at HF; go_simp)) | ((with_reducible refine k_alloc (T := 39) ?_); refine st_alloc rfl _ rfl _ z39 _ rfl HF ?_; (clear HF; intro g5 w HF K hK; simp only [Value.cells] at HF; go_simp)) | ((with_reducible refine k_load (T := 44) ?_); refine st_row rfl _ _ rfl _ rfl a44 7 s44 HF 1 rfl rfl ?_; (intro K hK; go_simp)) | ((with_reducible refine k_load (T := 44) ?_); refine st_loads rfl _ _ rfl _ _ rfl a44 7 s44 HF 1 rfl ?_ ?_; (simp); (intro K hK; go_simp)) | ((with_reducible refine k_load ?_); (first | refine st_load rfl _ _ rfl _ _ rfl ?_ HF 1 rfl rfl ?_ | refine st_load rfl _ _ rfl _ _ rfl ?_ HF 2 rfl rfl ?_); (kernel_rfl); (intro K hK; go_simp)))
      refine (redge Hm.out Hok.out hsz (HV.out.r.ext (HF.ext 3 rfl)) HF).mono ?_
      rintro e w1 ⟨rfl, H1⟩
      replace HF := own_nil H1 71 24
      clear H1
      go_wp2_with (first | ((with_reducible refine k_load (T := 25) ?_); refine st_row rfl _ _ rfl _ rfl a25 4 s25 HF 3 rfl rfl ?_; (intro K hK; go_simp)) | ((with_reducible refine k_load (T := 25) ?_); refine st_loads rfl _ _ rfl _ _ rfl a25 4 s25 HF 3 rfl ?_ ?_; (simp); (intro K hK; go_simp)) | ((with_reducible refine k_load (T := 36) ?_); refine st_row rfl _ _ rfl _ rfl a36 3 s36 HF 3 rfl rfl ?_; (intro K hK; go_simp)) | ((with_reducible refine k_load (T := 36) ?_); refine st_loads rfl _ _ rfl _ _ rfl a36 3 s36 HF 3 rfl ?_ ?_; (simp); (intro K hK; go_simp)) | ((with_reducible refine k_lit ?_); refine st_lit1 rfl _ _ rfl ((chK m).cells nl ve vl).toArray rfl 71 Try.underlying61 24 s71 _ z71 rfl rfl (by decide) (by decide) HF ?_; (clear HF; intro gl w6 HF K hK; replace HF := HF.pick 1 rfl; go_simp)) | ((with_reducible refine k_builtin ?_); refine st_append rfl _ _ _ rfl 71 Try.underlying61 24 s71 248 ?_ _ z71 rfl _ _ _ rfl HF (some ⟨gl, 0, none⟩) 1 1 ((chK m).cells nl ve vl) rfl ?_ ?_ ?_ ?_ ?_ ?_; (kernel_rfl); (rfl); (intro _; exact ⟨_, rfl, cells_of (HF.get 1 rfl)⟩); (exact cells_one _ (by first | rfl | assumption) (by first | rfl | assumption) (by first | rfl | assumption)); (simp [maxLen]); (decide); (clear HF; intro vc2 w7 HF K hK; go_simp)) | ((with_reducible refine k_store (T := 39) ?_); refine st_put rfl _ _ _ rfl _ rfl _ rfl ?_ s39 HF 2 rfl rfl ?_; (simp [Value.oneCell']); (clear HF; intro w HF K hK; simp only [List.set_cons_zero, List.set_cons_succ, Act.eval, Value.cells, Array.getD_eq_getD_getElem?, List.getElem?_toArray, List.getElem?_cons_succ, List.getElem?_cons_zero, Option.getD_some] at HF; go_simp)) | ((with_reducible refine k_load ?_); refine st_load rfl _ _ rfl _ _ rfl ?_ HF 4 rfl rfl ?_; (kernel_rfl); (intro K hK; go_simp)))
      refine bodyPost_ret (results_three rfl rfl a39 s39 (HF.get 2 rfl) rfl rfl rfl) rfl ?_
      rw [hs.out]
      exact ⟨_, rfl, endT rfl HeK.out (HF.sel 6 [0, 5]) H0.out⟩
    | true =>
      have hs := Lib.hid (show takeBS m h = ([chK m], onM m (m.upto + 1), true) by unfold takeBS; rw [if_neg Hbad.out, if_neg (by simp [hmore, H5.out]), if_neg H5.out, if_neg H5.out, if_pos h7])
      go_enter Try.func19, Try.ntmps19
      go_wp2_with (first | ((with_reducible refine k_box (T := 39) ?_); refine st_box rfl _ _ rfl _ rfl HF ?_; (clear HF; intro gm w HF K hK; simp only [Value.cells, Act.eval, Value.cells, Array.getD_eq_getD_getElem?, List.getElem?_toArray, List.getElem?_cons_succ, List.getElem?_cons_zero, Option.getD_some] at HF; go_simp)) | ((with_reducible refine k_box (T := 44) ?_); refine st_box rfl _ _ rfl _ rfl HF ?_; (clear HF; intro gh w HF K hK; simp only [Value.cells, Act.eval, Value.cells, Array.getD_eq_getD_getElem?, List.getElem?_toArray, List.getElem?_cons_succ, List.getElem?_cons_zero, Option.getD_some] at HF; go_simp)) | ((with_reducible refine k_alloc (T := 39) ?_); refine st_alloc rfl _ rfl _ z39 _ rfl HF ?_; (clear HF; intro g5 w HF K hK; simp only [Value.cells] at HF; go_simp)) | ((with_reducible refine k_load (T := 44) ?_); refine st_row rfl _ _ rfl _ rfl a44 7 s44 HF 1 rfl rfl ?_; (intro K hK; go_simp)) | ((with_reducible refine k_load (T := 44) ?_); refine st_loads rfl _ _ rfl _ _ rfl a44 7 s44 HF 1 rfl ?_ ?_; (simp); (intro K hK; go_simp)) | ((with_reducible refine k_load ?_); (first | refine st_load rfl _ _ rfl _ _ rfl ?_ HF 1 rfl rfl ?_ | refine st_load rfl _ _ rfl _ _ rfl ?_ HF 2 rfl rfl ?_); (kernel_rfl); (intro K hK; go_simp)))
      refine (redge Hm.out Hok.out hsz (HV.out.r.ext (HF.ext 3 rfl)) HF).mono ?_
      rintro e w1 ⟨rfl, H1⟩
      replace HF := own_nil H1 71 24
      clear H1
      go_wp2_with (first | ((with_reducible refine k_load (T := 25) ?_); refine st_row rfl _ _ rfl _ rfl a25 4 s25 HF 3 rfl rfl ?_; (intro K hK; go_simp)) | ((with_reducible refine k_load (T := 25) ?_); refine st_loads rfl _ _ rfl _ _ rfl a25 4 s25 HF 3 rfl ?_ ?_; (simp); (intro K hK; go_simp)) | ((with_reducible refine k_load (T := 36) ?_); refine st_row rfl _ _ rfl _ rfl a36 3 s36 HF 3 rfl rfl ?_; (intro K hK; go_simp)) | ((with_reducible refine k_load (T := 36) ?_); refine st_loads rfl _ _ rfl _ _ rfl a36 3 s36 HF 3 rfl ?_ ?_; (simp); (intro K hK; go_simp)) | ((with_reducible refine k_lit ?_); refine st_lit1 rfl _ _ rfl ((chK m).cells nl ve vl).toArray rfl 71 Try.underlying61 24 s71 _ z71 rfl rfl (by decide) (by decide) HF ?_; (clear HF; intro gl w6 HF K hK; replace HF := HF.pick 1 rfl; go_simp)) | ((with_reducible refine k_builtin ?_); refine st_append rfl _ _ _ rfl 71 Try.underlying61 24 s71 248 ?_ _ z71 rfl _ _ _ rfl HF (some ⟨gl, 0, none⟩) 1 1 ((chK m).cells nl ve vl) rfl ?_ ?_ ?_ ?_ ?_ ?_; (kernel_rfl); (rfl); (intro _; exact ⟨_, rfl, cells_of (HF.get 1 rfl)⟩); (exact cells_one _ (by first | rfl | assumption) (by first | rfl | assumption) (by first | rfl | assumption)); (simp [maxLen]); (decide); (clear HF; intro vc2 w7 HF K hK; go_simp)) | ((with_reducible refine k_load ?_); refine st_load rfl _ _ rfl _ _ rfl ?_ HF 4 rfl rfl ?_; (kernel_rfl); (intro K hK; go_simp)))
      apply wp_region_eff [11] (fun i => (#[[], [], [], [], [], [], [], [], [], [], [], [], []] : Array (List Nat)).getD i []) (fun val i => ((_ :: _ :: _ :: _ :: _ :: _ :: _ :: _ :: _ :: _ :: _ :: val 11 :: _ :: []) : List Value).toArray.getD i undef) (fun E val => At W (OwnRow 71 24 vc2 (0 + 1) ([] ++ (chK m).cells nl ve vl) :: Blk gl (.cells ((chK m).cells nl ve vl).toArray 71 (0, 0)) :: Blk g5 (.cells (if E 11 = true then #[.int .i64 21, .bool m.tc, .int .i64 m.ti, .bool m.fc, .int .i64 m.fi, .int .i64 0, .int .i64 0, .int .i64 m.kk, .int .i64 m.ka, .int .i64 m.kb, .int .i64 m.kc, .int .i64 (m.upto + 1), .int .i64 0, .int .i64 0, .int .i64 0, .slice none 0 0, .int .i64 0, .int .i64 0, .int .i64 0, .string ⟨#[]⟩, .int .i64 0, .int .i64 0, .int .i64 0, .int .i64 0, .int .i64 0, .int .i64 0, .slice none 0 0, .slice none 0 0, .slice none 0 0, .bool false] else #[.int .i64 0, .bool false, .int .i64 0, .bool false, .int .i64 0, .int .i64 0, .int .i64 0, .int .i64 0, .int .i64 0, .int .i64 0, .int .i64 0, .int .i64 0, .int .i64 0, .int .i64 0, .int .i64 0, .slice none 0 0, .int .i64 0, .int .i64 0, .int .i64 0, .string ⟨#[]⟩, .int .i64 0, .int .i64 0, .int .i64 0, .int .i64 0, .int .i64 0, .int .i64 0, .slice none 0 0, .slice none 0 0, .slice none 0 0, .bool false]) 39 (0, 0)) :: Blk gh (.cells #[.int .i64 h.sn, .int .i64 h.sc, vd, .int .i64 h.upto, ve2, vl2, vr] 44 (0, 0)) :: Blk gm (.cells #[.int .i64 m.kind, .bool m.fc, .int .i64 m.fi, .bool m.tc, .int .i64 m.ti, .int .i64 m.op, .int .i64 m.rd, .int .i64 m.kk, .int .i64 m.ka, .int .i64 m.kb, .int .i64 m.kc, .int .i64 m.sn, .int .i64 m.sc, .int .i64 m.hn, .int .i64 m.hc, .slice adb m.blk.length capb, .int .i64 m.cmd.k, .int .i64 m.cmd.cl, .int .i64 m.cmd.op, .string m.cmd.nm, .int .i64 m.cmd.f1, .int .i64 m.cmd.f2, .int .i64 m.cmd.n1, .int .i64 m.cmd.n2, .int .i64 m.cmd.sz, .int .i64 m.upto, ve, vl, .slice ac m.cmds.length cap, .bool true] 39 (0, 0)) :: Arg W :: [])) (by kernel_rfl) (by kernel_rfl) (by kernel_rfl) (by kernel_rfl) (HF)
      case step =>
        iterate 11 (refine ⟨eff_pl rfl (fun _ => by rfl) fun E val hn T ds w K H hk ho hK => ?_, ?_⟩; rotate_left)
        refine ⟨eff_mk rfl (fun _ => by rfl) fun E val hE0 hcl hn T ds w K H hk ho hK => ?_, ?_⟩; rotate_left
        refine ⟨eff_pl rfl (fun _ => by rfl) fun E val hn T ds w K H hk ho hK => ?_, ?_⟩; rotate_left
        exact trivial
        · have o7 := ho 7 (by kernel_rfl); clear ho; simp [know, dstAt, Region.binds] at hk o7; go_simp; exact hK _ H
        · have o2 := ho 2 (by kernel_rfl); clear ho; simp [know, dstAt, Region.binds] at hk o2; go_simp; exact hK _ H
        · clear ho; simp [know, dstAt, Region.binds] at hk
          (refine op_loadsT (T := 23) (n := 2) rfl hk a23 s23 H 4 rfl rfl rfl ?_; exact hK _ H)
        · have o2 := ho 2 (by kernel_rfl); clear ho; simp [know, dstAt, Region.binds] at hk o2; go_simp; exact hK _ H
        · clear ho; simp [know, dstAt, Region.binds] at hk
          (refine op_loadsT (T := 23) (n := 2) rfl hk a23 s23 H 4 rfl rfl rfl ?_; exact hK _ H)
        · have o2 := ho 2 (by kernel_rfl); clear ho; simp [know, dstAt, Region.binds] at hk o2; go_simp; exact hK _ H
        · clear ho; simp [know, dstAt, Region.binds] at hk
          (refine op_loadsT (T := 25) (n := 4) rfl hk a25 s25 H 4 rfl rfl rfl ?_; exact hK _ H)
        · have o9 := ho 9 (by kernel_rfl); clear ho; simp [know, dstAt, Region.binds] at hk o9; go_simp; exact hK _ H
        · clear ho; simp [know, dstAt, Region.binds] at hk; go_simp; exact hK _ H
        · clear ho; simp [know, dstAt, Region.binds] at hk; go_simp; exact hK _ H
        · clear ho; simp [know, dstAt, Region.binds] at hk; go_simp; exact hK _ H
        · have o5 := ho 5 (by kernel_rfl); clear ho; simp [know, dstAt, Region.binds] at hk o5
          (simp only [hE0, Bool.false_eq_true, if_false] at H); refine op_putT rfl o5 hk.1 ?_ s39 H 2 rfl rfl rfl ?_; (simp [Value.oneCell']); (intro w' H; refine hK _ _ ?_; exact H)
        · clear ho; simp [know, dstAt, Region.binds] at hk; go_simp; exact hK _ H
      case ins =>
        iterate 11 (refine ⟨ins_pl rfl (fun _ _ _ => rfl), ?_⟩)
        refine ⟨ins_mk rfl (fun _ => rfl), ?_⟩
        refine ⟨ins_pl rfl (fun _ _ _ => rfl), ?_⟩
        exact trivial
      case jns =>
        iterate 11 (refine ⟨j_pl (fun _ _ _ => rfl), ?_⟩)
        refine ⟨j_mk rfl, ?_⟩
        refine ⟨j_pl (fun _ _ _ => rfl), ?_⟩
        exact trivial
      case fin =>
        intro E val w9 hE H
        have e11 := hE 11 (by decide)
        simp only [e11, if_true] at H
        clear HF hE e11
        have HF := H
        clear H
        simp [putAll, Act.put]
        go_wp2_with fail
        refine bodyPost_ret (results_three rfl rfl a39 s39 (HF.get 2 rfl) rfl rfl rfl) rfl ?_
        rw [hs.out]
        exact ⟨_, rfl, endT rfl HeK.out (HF.sel 6 [0, 5]) H0.out⟩
  · cases hmore : m.more with
    | false =>
      have hs := Lib.hid (show takeBS m h = ([], mg0, false) by unfold takeBS; rw [if_neg Hbad.out, if_pos (Or.inl hmore), if_neg H5.out, if_neg h7])
      go_enter Try.func19, Try.ntmps19
      go_wp2_with (first | ((with_reducible refine k_box (T := 39) ?_); refine st_box rfl _ _ rfl _ rfl HF ?_; (clear HF; intro gm w HF K hK; simp only [Value.cells, Act.eval, Value.cells, Array.getD_eq_getD_getElem?, List.getElem?_toArray, List.getElem?_cons_succ, List.getElem?_cons_zero, Option.getD_some] at HF; go_simp)) | ((with_reducible refine k_box (T := 44) ?_); refine st_box rfl _ _ rfl _ rfl HF ?_; (clear HF; intro gh w HF K hK; simp only [Value.cells, Act.eval, Value.cells, Array.getD_eq_getD_getElem?, List.getElem?_toArray, List.getElem?_cons_succ, List.getElem?_cons_zero, Option.getD_some] at HF; go_simp)) | ((with_reducible refine k_alloc (T := 39) ?_); refine st_alloc rfl _ rfl _ z39 _ rfl HF ?_; (clear HF; intro g5 w HF K hK; simp only [Value.cells] at HF; go_simp)) | ((with_reducible refine k_load (T := 44) ?_); refine st_row rfl _ _ rfl _ rfl a44 7 s44 HF 1 rfl rfl ?_; (intro K hK; go_simp)) | ((with_reducible refine k_load (T := 44) ?_); refine st_loads rfl _ _ rfl _ _ rfl a44 7 s44 HF 1 rfl ?_ ?_; (simp); (intro K hK; go_simp)) | ((with_reducible refine k_load ?_); (first | refine st_load rfl _ _ rfl _ _ rfl ?_ HF 1 rfl rfl ?_ | refine st_load rfl _ _ rfl _ _ rfl ?_ HF 2 rfl rfl ?_); (kernel_rfl); (intro K hK; go_simp)))
      refine (redge Hm.out Hok.out hsz (HV.out.r.ext (HF.ext 3 rfl)) HF).mono ?_
      rintro e w1 ⟨rfl, H1⟩
      replace HF := H1
      clear H1
      go_wp2_with (first | ((with_reducible refine k_store (T := 39) ?_); refine st_put rfl _ _ _ rfl _ rfl _ rfl ?_ s39 HF 0 rfl rfl ?_; (simp [Value.oneCell']); (clear HF; intro w HF K hK; simp only [List.set_cons_zero, List.set_cons_succ, Act.eval, Value.cells, Array.getD_eq_getD_getElem?, List.getElem?_toArray, List.getElem?_cons_succ, List.getElem?_cons_zero, Option.getD_some] at HF; go_simp)) | ((with_reducible refine k_load ?_); refine st_load rfl _ _ rfl _ _ rfl ?_ HF 2 rfl rfl ?_; (kernel_rfl); (intro K hK; go_simp)))
      refine bodyPost_ret (results_three rfl rfl a39 s39 (HF.get 0 rfl) rfl rfl rfl) rfl ?_
      rw [hs.out]
      exact ⟨_, rfl, hold_nil ((HF.sel 4 [3]).lift0 H0.out)⟩
    | true =>
      have hs := Lib.hid (show takeBS m h = ([], onM m (m.upto + 1), true) by unfold takeBS; rw [if_neg Hbad.out, if_neg (by simp [hmore, H5.out]), if_neg H5.out, if_neg H5.out, if_neg h7])
      go_enter Try.func19, Try.ntmps19
      go_wp2_with (first | ((with_reducible refine k_box (T := 39) ?_); refine st_box rfl _ _ rfl _ rfl HF ?_; (clear HF; intro gm w HF K hK; simp only [Value.cells, Act.eval, Value.cells, Array.getD_eq_getD_getElem?, List.getElem?_toArray, List.getElem?_cons_succ, List.getElem?_cons_zero, Option.getD_some] at HF; go_simp)) | ((with_reducible refine k_box (T := 44) ?_); refine st_box rfl _ _ rfl _ rfl HF ?_; (clear HF; intro gh w HF K hK; simp only [Value.cells, Act.eval, Value.cells, Array.getD_eq_getD_getElem?, List.getElem?_toArray, List.getElem?_cons_succ, List.getElem?_cons_zero, Option.getD_some] at HF; go_simp)) | ((with_reducible refine k_alloc (T := 39) ?_); refine st_alloc rfl _ rfl _ z39 _ rfl HF ?_; (clear HF; intro g5 w HF K hK; simp only [Value.cells] at HF; go_simp)) | ((with_reducible refine k_load (T := 44) ?_); refine st_row rfl _ _ rfl _ rfl a44 7 s44 HF 1 rfl rfl ?_; (intro K hK; go_simp)) | ((with_reducible refine k_load (T := 44) ?_); refine st_loads rfl _ _ rfl _ _ rfl a44 7 s44 HF 1 rfl ?_ ?_; (simp); (intro K hK; go_simp)) | ((with_reducible refine k_load ?_); (first | refine st_load rfl _ _ rfl _ _ rfl ?_ HF 1 rfl rfl ?_ | refine st_load rfl _ _ rfl _ _ rfl ?_ HF 2 rfl rfl ?_); (kernel_rfl); (intro K hK; go_simp)))
      refine (redge Hm.out Hok.out hsz (HV.out.r.ext (HF.ext 3 rfl)) HF).mono ?_
      rintro e w1 ⟨rfl, H1⟩
      replace HF := H1
      clear H1
      go_wp2_with (first | ((with_reducible refine k_load ?_); refine st_load rfl _ _ rfl _ _ rfl ?_ HF 2 rfl rfl ?_; (kernel_rfl); (intro K hK; go_simp)))
      apply wp_region_eff [11] (fun i => (#[[], [], [], [], [], [], [], [], [], [], [], [], []] : Array (List Nat)).getD i []) (fun val i => ((_ :: _ :: _ :: _ :: _ :: _ :: _ :: _ :: _ :: _ :: _ :: val 11 :: _ :: []) : List Value).toArray.getD i undef) (fun E val => At W ( Blk g5 (.cells (if E 11 = true then #[.int .i64 21, .bool m.tc, .int .i64 m.ti, .bool m.fc, .int .i64 m.fi, .int .i64 0, .int .i64 0, .int .i64 m.kk, .int .i64 m.ka, .int .i64 m.kb, .int .i64 m.kc, .int .i64 (m.upto + 1), .int .i64 0, .int .i64 0, .int .i64 0, .slice none 0 0, .int .i64 0, .int .i64 0, .int .i64 0, .string ⟨#[]⟩, .int .i64 0, .int .i64 0, .int .i64 0, .int .i64 0, .int .i64 0, .int .i64 0, .slice none 0 0, .slice none 0 0, .slice none 0 0, .bool false] else #[.int .i64 0, .bool false, .int .i64 0, .bool false, .int .i64 0, .int .i64 0, .int .i64 0, .int .i64 0, .int .i64 0, .int .i64 0, .int .i64 0, .int .i64 0, .int .i64 0, .int .i64 0, .int .i64 0, .slice none 0 0, .int .i64 0, .int .i64 0, .int .i64 0, .string ⟨#[]⟩, .int .i64 0, .int .i64 0, .int .i64 0, .int .i64 0, .int .i64 0, .int .i64 0, .slice none 0 0, .slice none 0 0, .slice none 0 0, .bool false]) 39 (0, 0)) :: Blk gh (.cells #[.int .i64 h.sn, .int .i64 h.sc, vd, .int .i64 h.upto, ve2, vl2, vr] 44 (0, 0)) :: Blk gm (.cells #[.int .i64 m.kind, .bool m.fc, .int .i64 m.fi, .bool m.tc, .int .i64 m.ti, .int .i64 m.op, .int .i64 m.rd, .int .i64 m.kk, .int .i64 m.ka, .int .i64 m.kb, .int .i64 m.kc, .int .i64 m.sn, .int .i64 m.sc, .int .i64 m.hn, .int .i64 m.hc, .slice adb m.blk.length capb, .int .i64 m.cmd.k, .int .i64 m.cmd.cl, .int .i64 m.cmd.op, .string m.cmd.nm, .int .i64 m.cmd.f1, .int .i64 m.cmd.f2, .int .i64 m.cmd.n1, .int .i64 m.cmd.n2, .int .i64 m.cmd.sz, .int .i64 m.upto, ve, vl, .slice ac m.cmds.length cap, .bool true] 39 (0, 0)) :: Arg W :: [])) (by kernel_rfl) (by kernel_rfl) (by kernel_rfl) (by kernel_rfl) (HF)
      case step =>
        iterate 11 (refine ⟨eff_pl rfl (fun _ => by rfl) fun E val hn T ds w K H hk ho hK => ?_, ?_⟩; rotate_left)
        refine ⟨eff_mk rfl (fun _ => by rfl) fun E val hE0 hcl hn T ds w K H hk ho hK => ?_, ?_⟩; rotate_left
        refine ⟨eff_pl rfl (fun _ => by rfl) fun E val hn T ds w K H hk ho hK => ?_, ?_⟩; rotate_left
        exact trivial
        · have o7 := ho 7 (by kernel_rfl); clear ho; simp [know, dstAt, Region.binds] at hk o7; go_simp; exact hK _ H
        · have o2 := ho 2 (by kernel_rfl); clear ho; simp [know, dstAt, Region.binds] at hk o2; go_simp; exact hK _ H
        · clear ho; simp [know, dstAt, Region.binds] at hk
          (refine op_loadsT (T := 23) (n := 2) rfl hk a23 s23 H 2 rfl rfl rfl ?_; exact hK _ H)
        · have o2 := ho 2 (by kernel_rfl); clear ho; simp [know, dstAt, Region.binds] at hk o2; go_simp; exact hK _ H
        · clear ho; simp [know, dstAt, Region.binds] at hk
          (refine op_loadsT (T := 23) (n := 2) rfl hk a23 s23 H 2 rfl rfl rfl ?_; exact hK _ H)
        · have o2 := ho 2 (by kernel_rfl); clear ho; simp [know, dstAt, Region.binds] at hk o2; go_simp; exact hK _ H
        · clear ho; simp [know, dstAt, Region.binds] at hk
          (refine op_loadsT (T := 25) (n := 4) rfl hk a25 s25 H 2 rfl rfl rfl ?_; exact hK _ H)
        · have o9 := ho 9 (by kernel_rfl); clear ho; simp [know, dstAt, Region.binds] at hk o9; go_simp; exact hK _ H
        · clear ho; simp [know, dstAt, Region.binds] at hk; go_simp; exact hK _ H
        · clear ho; simp [know, dstAt, Region.binds] at hk; go_simp; exact hK _ H
        · clear ho; simp [know, dstAt, Region.binds] at hk; go_simp; exact hK _ H
        · have o5 := ho 5 (by kernel_rfl); clear ho; simp [know, dstAt, Region.binds] at hk o5
          (simp only [hE0, Bool.false_eq_true, if_false] at H); refine op_putT rfl o5 hk.1 ?_ s39 H 0 rfl rfl rfl ?_; (simp [Value.oneCell']); (intro w' H; refine hK _ _ ?_; exact H)
        · clear ho; simp [know, dstAt, Region.binds] at hk; go_simp; exact hK _ H
      case ins =>
        iterate 11 (refine ⟨ins_pl rfl (fun _ _ _ => rfl), ?_⟩)
        refine ⟨ins_mk rfl (fun _ => rfl), ?_⟩
        refine ⟨ins_pl rfl (fun _ _ _ => rfl), ?_⟩
        exact trivial
      case jns =>
        iterate 11 (refine ⟨j_pl (fun _ _ _ => rfl), ?_⟩)
        refine ⟨j_mk rfl, ?_⟩
        refine ⟨j_pl (fun _ _ _ => rfl), ?_⟩
        exact trivial
      case fin =>
        intro E val w9 hE H
        have e11 := hE 11 (by decide)
        simp only [e11, if_true] at H
        clear HF hE e11
        have HF := H
        clear H
        simp [putAll, Act.put]
        go_wp2_with fail
        refine bodyPost_ret (results_three rfl rfl a39 s39 (HF.get 0 rfl) rfl rfl rfl) rfl ?_
        rw [hs.out]
        exact ⟨_, rfl, hold_nil ((HF.sel 4 [3]).lift0 H0.out)⟩
end
end Md
end Go.Proofs.Ytjobojgmadjmfaa
