/-
  mend.Take.
-/
import Derived.Test.YtjobojgmadjmfaaMdTakeB
namespace Go.Proofs.Ytjobojgmadjmfaa
open Go.Hp Go.RowKit
set_option linter.unusedVariables false
set_option linter.unusedSimpArgs false
set_option maxRecDepth 100000
set_option maxHeartbeats 4000000
namespace Md
section
variable {w0 w : World} {L : List HProp}

theorem take {m : Mg} {vb ve vl vc : Value} (hmv : MgAt w m vb ve vl vc) (hmo : m.Ok) (hcl : m.cmds.length * 80 ≤ 140737488355328) (be : m.ents.length * 40 ≤ 140737488355328) (bl : m.lasts.length * 56 ≤ 140737488355328) (bb : m.blk.length ≤ 140737488355328)
    {h : Hd} {vd ve2 vl2 vr : Value} (hm : May h) (hok : h.Ok) (hsz : h.row.length ≤ 140737488355328) (hv : HdAt w h vd ve2 vl2 vr) (H : At w0 L w) :
    Calls Try.prog 18 #[.agg (mgV m vb ve vl vc), .agg (hdV h vd ve2 vl2 vr)] w (TkPost w0 L (takeS m h)) := by
  obtain ⟨W, rfl⟩ : ∃ W : World, W = w := ⟨_, rfl⟩
  have HF := At.of W
  have H0 := Lib.hid H
  have Hm := Lib.hid hm
  have Hv := Lib.hid hv
  have Hmv := Lib.hid hmv
  have Hok := Lib.hid hok
  have Hmo := Lib.hid hmo
  clear hm hv H hmv hok hmo
  simp only [mgV, hdV]
  by_cases h1 : m.kind = 22
  · have hb1 : (m.kind == 22) = true := by simpa using h1
    have hb1b : (m.kind != 22) = false := by simpa using h1
    have H1 := Lib.hid h1
    clear h1
    by_cases h2 : m.kk = 1
    · have hb2 : (m.kk == 1) = true := by simpa using h2
      have H2 := Lib.hid h2
      clear h2
      go_enter Try.func18, Try.ntmps18
      go_wp2_with (first | ((with_reducible refine k_box (T := 39) ?_); refine st_box rfl _ _ rfl _ rfl HF ?_; (clear HF; intro gm w HF K hK; simp only [Value.cells, Act.eval, Value.cells, Array.getD_eq_getD_getElem?, List.getElem?_toArray, List.getElem?_cons_succ, List.getElem?_cons_zero, Option.getD_some] at HF; go_simp)) | ((with_reducible refine k_box (T := 49) ?_); refine st_box rfl _ _ rfl _ rfl HF ?_; (clear HF; intro gh w HF K hK; simp only [Value.cells, Act.eval, Value.cells, Array.getD_eq_getD_getElem?, List.getElem?_toArray, List.getElem?_cons_succ, List.getElem?_cons_zero, Option.getD_some] at HF; go_simp)) | ((with_reducible refine k_alloc (T := 39) ?_); refine st_alloc rfl _ rfl _ z39 _ rfl HF ?_; (clear HF; intro g5 w HF K hK; simp only [Value.cells] at HF; go_simp)) | ((with_reducible refine k_load (T := 27) ?_); (first | refine st_row rfl _ _ rfl _ rfl a27 2 s27 HF 1 rfl rfl ?_ | refine st_row rfl _ _ rfl _ rfl a27 2 s27 HF 2 rfl rfl ?_); (intro K hK; go_simp)) | ((with_reducible refine k_load (T := 27) ?_); (first | refine st_loads rfl _ _ rfl _ _ rfl a27 2 s27 HF 1 rfl ?_ ?_ | refine st_loads rfl _ _ rfl _ _ rfl a27 2 s27 HF 2 rfl ?_ ?_); (simp); (intro K hK; go_simp)) | ((with_reducible refine k_load ?_); (first | refine st_load rfl _ _ rfl _ _ rfl ?_ HF 1 rfl rfl ?_ | refine st_load rfl _ _ rfl _ _ rfl ?_ HF 2 rfl rfl ?_); (kernel_rfl); (intro K hK; go_simp)))
      replace HF : At W (Blk gm (.cells #[.int .i64 m.kind, .bool m.fc, .int .i64 m.fi, .bool m.tc, .int .i64 m.ti, .int .i64 m.op, .int .i64 m.rd, .int .i64 m.kk, .int .i64 m.ka, .int .i64 m.kb, .int .i64 m.kc, .int .i64 m.sn, .int .i64 m.sc, .int .i64 m.hn, .int .i64 m.hc, vb, .int .i64 m.cmd.k, .int .i64 m.cmd.cl, .int .i64 m.cmd.op, .string m.cmd.nm, .int .i64 m.cmd.f1, .int .i64 m.cmd.f2, .int .i64 m.cmd.n1, .int .i64 m.cmd.n2, .int .i64 m.cmd.sz, .int .i64 m.upto, ve, vl, vc, .bool m.more] 39 (0, 0)) :: Blk gh (.cells #[.int .i64 h.sn, .int .i64 h.sc, vd, .int .i64 h.upto, ve2, vl2, vr] 49 (0, 0)) :: Blk g5 (.cells #[.int .i64 0, .bool false, .int .i64 0, .bool false, .int .i64 0, .int .i64 0, .int .i64 0, .int .i64 0, .int .i64 0, .int .i64 0, .int .i64 0, .int .i64 0, .int .i64 0, .int .i64 0, .int .i64 0, .slice none 0 0, .int .i64 0, .int .i64 0, .int .i64 0, .string ⟨#[]⟩, .int .i64 0, .int .i64 0, .int .i64 0, .int .i64 0, .int .i64 0, .int .i64 0, .slice none 0 0, .slice none 0 0, .slice none 0 0, .bool false] 39 (0, 0)) :: Arg W :: []) _ := HF.sel 4 [2, 1, 0, 3]
      refine (less HF h.sn h.sc m.sn m.sc).mono ?_
      rintro e w3 ⟨rfl, HX⟩
      replace HF := HX
      clear HX
      cases hl : lessS h.sn h.sc m.sn m.sc with
      | false =>
        have hs := Lib.hid (show takeS m h = ([], mg0, false) by unfold takeS; rw [if_neg (by simp [H1.out]), if_pos H2.out, if_neg (by simp [hl])])
        clear hl
        go_wp2_with (first | ((with_reducible refine k_store (T := 39) ?_); refine st_put rfl _ _ _ rfl _ rfl _ rfl ?_ s39 HF 2 rfl rfl ?_; (simp [Value.oneCell']); (clear HF; intro w HF K hK; simp only [List.set_cons_zero, List.set_cons_succ, Act.eval, Value.cells, Array.getD_eq_getD_getElem?, List.getElem?_toArray, List.getElem?_cons_succ, List.getElem?_cons_zero, Option.getD_some] at HF; go_simp)) | ((with_reducible refine k_load ?_); (first | refine st_load rfl _ _ rfl _ _ rfl ?_ HF 0 rfl rfl ?_ | refine st_load rfl _ _ rfl _ _ rfl ?_ HF 1 rfl rfl ?_); (kernel_rfl); (intro K hK; go_simp)))
        refine bodyPost_ret (results_three rfl rfl a39 s39 (HF.get 2 rfl) rfl rfl rfl) rfl ?_
        rw [hs.out]
        exact ⟨_, rfl, holdc_nil ((HF.sel 4 [3]).lift0 H0.out)⟩
      | true =>
        have hs := Lib.hid (show takeS m h = ([chB m], mg0, false) by unfold takeS; rw [if_neg (by simp [H1.out]), if_pos H2.out, if_pos hl])
        clear hl
        go_wp2_with fail
        apply wp_region_eff [6, 9, 12] (fun i => (#[[], [], [], [], [], [], [], [6], [6], [6], [], [6, 9], [], []] : Array (List Nat)).getD i []) (fun val i => ((_ :: _ :: _ :: _ :: _ :: _ :: val 6 :: _ :: _ :: val 9 :: _ :: _ :: val 12 :: _ :: []) : List Value).toArray.getD i undef) (fun E val => At W ((if E 9 = true then SlBlk (val 9) ((chB m).cells (val 6) nl nl).toArray 87 else emp) :: (if E 6 = true then Hold (val 6) m.blk.length (bv m.blk) else emp) :: Blk gm (.cells #[.int .i64 m.kind, .bool m.fc, .int .i64 m.fi, .bool m.tc, .int .i64 m.ti, .int .i64 m.op, .int .i64 m.rd, .int .i64 m.kk, .int .i64 m.ka, .int .i64 m.kb, .int .i64 m.kc, .int .i64 m.sn, .int .i64 m.sc, .int .i64 m.hn, .int .i64 m.hc, vb, .int .i64 m.cmd.k, .int .i64 m.cmd.cl, .int .i64 m.cmd.op, .string m.cmd.nm, .int .i64 m.cmd.f1, .int .i64 m.cmd.f2, .int .i64 m.cmd.n1, .int .i64 m.cmd.n2, .int .i64 m.cmd.sz, .int .i64 m.upto, ve, vl, vc, .bool m.more] 39 (0, 0)) :: Blk gh (.cells #[.int .i64 h.sn, .int .i64 h.sc, vd, .int .i64 h.upto, ve2, vl2, vr] 49 (0, 0)) :: Blk g5 (.cells #[.int .i64 0, .bool false, .int .i64 0, .bool false, .int .i64 0, .int .i64 0, .int .i64 0, .int .i64 0, .int .i64 0, .int .i64 0, .int .i64 0, .int .i64 0, .int .i64 0, .int .i64 0, .int .i64 0, .slice none 0 0, .int .i64 0, .int .i64 0, .int .i64 0, .string ⟨#[]⟩, .int .i64 0, .int .i64 0, .int .i64 0, .int .i64 0, .int .i64 0, .int .i64 0, .slice none 0 0, .slice none 0 0, .slice none 0 0, .bool false] 39 (0, 0)) :: Arg W :: [])) (by kernel_rfl) (by kernel_rfl) (by kernel_rfl) (by kernel_rfl) (HF.addEmp.addEmp)
        case step =>
          iterate 6 (refine ⟨eff_pl rfl (fun _ => by rfl) fun E val hn T ds w K H hk ho hK => ?_, ?_⟩; rotate_left)
          refine ⟨eff_mk rfl (fun _ => by rfl) fun E val hE0 hcl hn T ds w K H hk ho hK => ?_, ?_⟩; rotate_left
          iterate 2 (refine ⟨eff_pl rfl (fun _ => by rfl) fun E val hn T ds w K H hk ho hK => ?_, ?_⟩; rotate_left)
          refine ⟨eff_mk rfl (fun _ => by rfl) fun E val hE0 hcl hn T ds w K H hk ho hK => ?_, ?_⟩; rotate_left
          iterate 2 (refine ⟨eff_pl rfl (fun _ => by rfl) fun E val hn T ds w K H hk ho hK => ?_, ?_⟩; rotate_left)
          refine ⟨eff_mk rfl (fun _ => by rfl) fun E val hE0 hcl hn T ds w K H hk ho hK => ?_, ?_⟩; rotate_left
          refine ⟨eff_pl rfl (fun _ => by rfl) fun E val hn T ds w K H hk ho hK => ?_, ?_⟩; rotate_left
          exact trivial
          · have o2 := ho 2 (by kernel_rfl); clear ho; simp [know, dstAt, Region.binds] at hk o2; go_simp; exact hK _ H
          · clear ho; simp [know, dstAt, Region.binds] at hk
            (refine op_loadsT (T := 25) (n := 4) rfl hk a25 s25 H 2 rfl rfl rfl ?_; exact hK _ H)
          · have o2 := ho 2 (by kernel_rfl); clear ho; simp [know, dstAt, Region.binds] at hk o2; go_simp; exact hK _ H
          · clear ho; simp [know, dstAt, Region.binds] at hk
            (refine op_loadsT (T := 27) (n := 2) rfl hk a27 s27 H 2 rfl rfl rfl ?_; exact hK _ H)
          · have o2 := ho 2 (by kernel_rfl); clear ho; simp [know, dstAt, Region.binds] at hk o2; go_simp; exact hK _ H
          · clear ho; simp [know, dstAt, Region.binds] at hk
            (refine op_loadT rfl hk ?_ H 2 rfl rfl ?_; (kernel_rfl); exact hK _ H)
          · clear ho; simp [know, dstAt, Region.binds] at hk
            (have q9 : E 9 = false := (by cases h : E 9 with | false => rfl | true => (have h2 := hcl 9 (by decide) h 6 (by decide); rw [hE0] at h2; cases h2))); (simp only [hE0, q9, Bool.false_eq_true, if_false] at H); go_simp; refine (clB (Hmv.out.b.ext (H.ext 5 rfl)) (by rw [length_bv, Nat.mul_one]) (bv_one _) (by omega) (H.sel 6 [2, 3, 4, 5])).mono ?_; rintro e w' ⟨v', rfl, H⟩; have t9 : updE E 6 9 = false := q9; have t6 : updE E 6 6 = true := rfl; refine hK _ _ ?_; simp only [t9, t6, Bool.false_eq_true, if_false, if_true]; exact H.addEmp
          · clear ho; simp [know, dstAt, Region.binds] at hk
            first | (have e6 := hn 6 (by decide); have H2 := H; simp only [e6, if_true] at H2; have c6 := hold_cells (H2.pick 1 rfl); unfold Value.cells at c6; clear H2; go_simp; exact hK _ H) | (go_simp; exact hK _ H)
          · clear ho; simp [know, dstAt, Region.binds] at hk
            first | (have e6 := hn 6 (by decide); have H2 := H; simp only [e6, if_true] at H2; have c6 := hold_cells (H2.pick 1 rfl); unfold Value.cells at c6; clear H2; go_simp; exact hK _ H) | (go_simp; exact hK _ H)
          · clear ho; simp [know, dstAt, Region.binds] at hk
            (have e6 := hn 6 (by decide)); (simp only [hE0, e6, Bool.false_eq_true, if_false, if_true] at H); refine op_lit1T rfl (c := ((chB m).cells (val 6) nl nl).toArray) hk Try.underlying58 s87 z87 rfl rfl (by decide) (by decide) (H.sel 6 [1, 2, 3, 4, 5]) ?_; (intro x w' H; refine hK _ _ ?_; have t6 : updE E 9 6 = true := e6; have t9 : updE E 9 9 = true := rfl; simp only [t6, t9, if_true]; exact H)
          · clear ho; simp [know, dstAt, Region.binds] at hk; go_simp; exact hK _ H
          · clear ho; simp [know, dstAt, Region.binds] at hk
            first | (have e6 := hn 6 (by decide); have H2 := H; simp only [e6, if_true] at H2; have c6 := hold_cells (H2.pick 1 rfl); unfold Value.cells at c6; clear H2; go_simp; exact hK _ H) | (go_simp; exact hK _ H)
          · have o5 := ho 5 (by kernel_rfl); clear ho; simp [know, dstAt, Region.binds] at hk o5
            refine op_putT rfl o5 (by first | exact hk | exact hk.1) ?_ s39 H 4 rfl rfl rfl ?_; (simp [Value.oneCell']); (intro w' H; refine hK _ _ ?_; exact H)
          · clear ho; simp [know, dstAt, Region.binds] at hk; go_simp; exact hK _ H
        case ins =>
          iterate 6 (refine ⟨ins_pl rfl (fun _ _ _ => rfl), ?_⟩)
          refine ⟨ins_mk rfl (fun _ => rfl), ?_⟩
          iterate 2 (refine ⟨ins_pl rfl (fun val val' h => by first | rfl | ((have h6 := h 6 (by decide)); first | (simp only [h6]; done) | (simp only [h6]; rfl))), ?_⟩)
          refine ⟨ins_mk rfl (fun _ => rfl), ?_⟩
          refine ⟨ins_pl rfl (fun _ _ _ => rfl), ?_⟩
          refine ⟨ins_pl rfl (fun val val' h => by first | rfl | ((have h6 := h 6 (by decide)); (have h9 := h 9 (by decide)); first | (simp only [h6, h9]; done) | (simp only [h6, h9]; rfl))), ?_⟩
          refine ⟨ins_mk rfl (fun _ => rfl), ?_⟩
          refine ⟨ins_pl rfl (fun _ _ _ => rfl), ?_⟩
          exact trivial
        case jns =>
          iterate 6 (refine ⟨j_pl (fun _ _ _ => rfl), ?_⟩)
          refine ⟨j_mk rfl, ?_⟩
          iterate 2 (refine ⟨j_pl (fun _ _ _ => rfl), ?_⟩)
          refine ⟨j_mk rfl, ?_⟩
          iterate 2 (refine ⟨j_pl (fun _ _ _ => rfl), ?_⟩)
          refine ⟨j_mk rfl, ?_⟩
          refine ⟨j_pl (fun _ _ _ => rfl), ?_⟩
          exact trivial
        case fin =>
          intro E val w5 hE H
          have e6 := hE 6 (by decide)
          have e9 := hE 9 (by decide)
          simp only [e6, e9, if_true] at H
          clear HF hE e6 e9
          obtain ⟨g, hv9, HS⟩ := sl_ex H
          clear H
          have HO := own_mk (e := 87) (size := 24) (n := 1) (xs := (chB m).cells (val 6) nl nl) HS (Nat.le_refl _) (by simp [maxLen]) rfl rfl rfl
          have HF : At W (HoldC (val 9) [chB m] :: Blk gm (.cells #[.int .i64 m.kind, .bool m.fc, .int .i64 m.fi, .bool m.tc, .int .i64 m.ti, .int .i64 m.op, .int .i64 m.rd, .int .i64 m.kk, .int .i64 m.ka, .int .i64 m.kb, .int .i64 m.kc, .int .i64 m.sn, .int .i64 m.sc, .int .i64 m.hn, .int .i64 m.hc, vb, .int .i64 m.cmd.k, .int .i64 m.cmd.cl, .int .i64 m.cmd.op, .string m.cmd.nm, .int .i64 m.cmd.f1, .int .i64 m.cmd.f2, .int .i64 m.cmd.n1, .int .i64 m.cmd.n2, .int .i64 m.cmd.sz, .int .i64 m.upto, ve, vl, vc, .bool m.more] 39 (0, 0)) :: Blk gh (.cells #[.int .i64 h.sn, .int .i64 h.sc, vd, .int .i64 h.upto, ve2, vl2, vr] 49 (0, 0)) :: Blk g5 (.cells #[.int .i64 0, .bool false, .int .i64 0, .bool false, .int .i64 0, .int .i64 0, .int .i64 0, .int .i64 0, .int .i64 0, .int .i64 0, .int .i64 0, .int .i64 0, .int .i64 0, .int .i64 0, .int .i64 0, .slice none 0 0, .int .i64 0, .int .i64 0, .int .i64 0, .string ⟨#[]⟩, .int .i64 0, .int .i64 0, .int .i64 0, .int .i64 0, .int .i64 0, .int .i64 0, .slice none 0 0, .slice none 0 0, .slice none 0 0, .bool false] 39 (0, 0)) :: Arg W :: []) w5 := by
            rw [hv9]
            exact holdc_one (c := chB m) own_hold own_nil0 own_nil0 (fun r hr => by cases hr) (fun r hr => by cases hr) own_own (HO.addEmp.addEmp.sel 4 [2, 3, 0, 1])
          clear HO HS hv9
          generalize [chB m] = l7 at *
          simp [putAll, Act.put]
          go_wp2_with fail
          refine bodyPost_ret (results_three rfl rfl a39 s39 (HF.get 3 rfl) rfl rfl rfl) rfl ?_
          rw [hs.out]
          exact ⟨_, rfl, (show At W ([HoldC _ _] ++ [Arg W]) _ from HF.sel 5 [0, 4]).lift H0.out⟩
    · have hb2 : (m.kk == 1) = false := by simpa using h2
      by_cases h3 : m.kk = 2
      · have hb3 : (m.kk == 2) = true := by simpa using h3
        have hs := Lib.hid (show takeS m h = takeBS m h by unfold takeS; rw [if_neg (by simp [H1.out]), if_neg h2, if_pos h3])
        clear h2 h3
        generalize hX : takeBS m h = X at *
        have HX := Lib.hid hX
        clear hX
        obtain ⟨l, M, b⟩ := X
        go_enter Try.func18, Try.ntmps18
        go_wp2_with (first | ((with_reducible refine k_box (T := 39) ?_); refine st_box rfl _ _ rfl _ rfl HF ?_; (clear HF; intro gm w HF K hK; simp only [Value.cells, Act.eval, Value.cells, Array.getD_eq_getD_getElem?, List.getElem?_toArray, List.getElem?_cons_succ, List.getElem?_cons_zero, Option.getD_some] at HF; go_simp)) | ((with_reducible refine k_box (T := 49) ?_); refine st_box rfl _ _ rfl _ rfl HF ?_; (clear HF; intro gh w HF K hK; simp only [Value.cells, Act.eval, Value.cells, Array.getD_eq_getD_getElem?, List.getElem?_toArray, List.getElem?_cons_succ, List.getElem?_cons_zero, Option.getD_some] at HF; go_simp)) | ((with_reducible refine k_alloc (T := 39) ?_); refine st_alloc rfl _ rfl _ z39 _ rfl HF ?_; (clear HF; intro g5 w HF K hK; simp only [Value.cells] at HF; go_simp)) | ((with_reducible refine k_load (T := 39) ?_); (first | refine st_row rfl _ _ rfl _ rfl a39 30 s39 HF 1 rfl rfl ?_ | refine st_row rfl _ _ rfl _ rfl a39 30 s39 HF 2 rfl rfl ?_); (intro K hK; go_simp)) | ((with_reducible refine k_load (T := 39) ?_); (first | refine st_loads rfl _ _ rfl _ _ rfl a39 30 s39 HF 1 rfl ?_ ?_ | refine st_loads rfl _ _ rfl _ _ rfl a39 30 s39 HF 2 rfl ?_ ?_); (simp); (intro K hK; go_simp)) | ((with_reducible refine k_load (T := 49) ?_); (first | refine st_row rfl _ _ rfl _ rfl a49 7 s49 HF 1 rfl rfl ?_ | refine st_row rfl _ _ rfl _ rfl a49 7 s49 HF 2 rfl rfl ?_); (intro K hK; go_simp)) | ((with_reducible refine k_load (T := 49) ?_); (first | refine st_loads rfl _ _ rfl _ _ rfl a49 7 s49 HF 1 rfl ?_ ?_ | refine st_loads rfl _ _ rfl _ _ rfl a49 7 s49 HF 2 rfl ?_ ?_); (simp); (intro K hK; go_simp)) | ((with_reducible refine k_load ?_); (first | refine st_load rfl _ _ rfl _ _ rfl ?_ HF 1 rfl rfl ?_ | refine st_load rfl _ _ rfl _ _ rfl ?_ HF 2 rfl rfl ?_); (kernel_rfl); (intro K hK; go_simp)))
        replace HF : At W (Blk gm (.cells #[.int .i64 m.kind, .bool m.fc, .int .i64 m.fi, .bool m.tc, .int .i64 m.ti, .int .i64 m.op, .int .i64 m.rd, .int .i64 m.kk, .int .i64 m.ka, .int .i64 m.kb, .int .i64 m.kc, .int .i64 m.sn, .int .i64 m.sc, .int .i64 m.hn, .int .i64 m.hc, vb, .int .i64 m.cmd.k, .int .i64 m.cmd.cl, .int .i64 m.cmd.op, .string m.cmd.nm, .int .i64 m.cmd.f1, .int .i64 m.cmd.f2, .int .i64 m.cmd.n1, .int .i64 m.cmd.n2, .int .i64 m.cmd.sz, .int .i64 m.upto, ve, vl, vc, .bool m.more] 39 (0, 0)) :: Blk gh (.cells #[.int .i64 h.sn, .int .i64 h.sc, vd, .int .i64 h.upto, ve2, vl2, vr] 49 (0, 0)) :: Blk g5 (.cells #[.int .i64 0, .bool false, .int .i64 0, .bool false, .int .i64 0, .int .i64 0, .int .i64 0, .int .i64 0, .int .i64 0, .int .i64 0, .int .i64 0, .int .i64 0, .int .i64 0, .int .i64 0, .int .i64 0, .slice none 0 0, .int .i64 0, .int .i64 0, .int .i64 0, .string ⟨#[]⟩, .int .i64 0, .int .i64 0, .int .i64 0, .int .i64 0, .int .i64 0, .int .i64 0, .slice none 0 0, .slice none 0 0, .slice none 0 0, .bool false] 39 (0, 0)) :: Arg W :: []) _ := HF.sel 4 [2, 1, 0, 3]
        refine (takeB (Hmv.out.ext (HF.ext 3 rfl)) Hmo.out hcl be bl Hm.out Hok.out hsz (Hv.out.ext (HF.ext 3 rfl)) HF).mono ?_
        rw [HX.out]
        rintro e w3 ⟨v, rfl, HY⟩
        replace HF : At W (HoldC v l :: Blk gm (.cells #[.int .i64 m.kind, .bool m.fc, .int .i64 m.fi, .bool m.tc, .int .i64 m.ti, .int .i64 m.op, .int .i64 m.rd, .int .i64 m.kk, .int .i64 m.ka, .int .i64 m.kb, .int .i64 m.kc, .int .i64 m.sn, .int .i64 m.sc, .int .i64 m.hn, .int .i64 m.hc, vb, .int .i64 m.cmd.k, .int .i64 m.cmd.cl, .int .i64 m.cmd.op, .string m.cmd.nm, .int .i64 m.cmd.f1, .int .i64 m.cmd.f2, .int .i64 m.cmd.n1, .int .i64 m.cmd.n2, .int .i64 m.cmd.sz, .int .i64 m.upto, ve, vl, vc, .bool m.more] 39 (0, 0)) :: Blk gh (.cells #[.int .i64 h.sn, .int .i64 h.sc, vd, .int .i64 h.upto, ve2, vl2, vr] 49 (0, 0)) :: Blk g5 (.cells #[.int .i64 0, .bool false, .int .i64 0, .bool false, .int .i64 0, .int .i64 0, .int .i64 0, .int .i64 0, .int .i64 0, .int .i64 0, .int .i64 0, .int .i64 0, .int .i64 0, .int .i64 0, .int .i64 0, .slice none 0 0, .int .i64 0, .int .i64 0, .int .i64 0, .string ⟨#[]⟩, .int .i64 0, .int .i64 0, .int .i64 0, .int .i64 0, .int .i64 0, .int .i64 0, .slice none 0 0, .slice none 0 0, .slice none 0 0, .bool false] 39 (0, 0)) :: Arg W :: []) w3 := HY
        clear HY
        simp only [mgV]
        go_wp2_with (first | ((with_reducible refine k_store (T := 39) ?_); refine st_put rfl _ _ _ rfl _ rfl _ rfl ?_ s39 HF 3 rfl rfl ?_; (simp [Value.oneCell']); (clear HF; intro w HF K hK; simp only [List.set_cons_zero, List.set_cons_succ, Act.eval, Value.cells, Array.getD_eq_getD_getElem?, List.getElem?_toArray, List.getElem?_cons_succ, List.getElem?_cons_zero, Option.getD_some] at HF; go_simp)))
        refine bodyPost_ret (results_three rfl rfl a39 s39 (HF.get 3 rfl) rfl rfl rfl) rfl ?_
        rw [hs.out]
        exact ⟨_, rfl, (show At W ([HoldC _ _] ++ [Arg W]) _ from HF.sel 5 [0, 4]).lift H0.out⟩
      · have hb3 : (m.kk == 2) = false := by simpa using h3
        have hs := Lib.hid (show takeS m h = ([], mg0, false) by unfold takeS; rw [if_neg (by simp [H1.out]), if_neg h2, if_neg h3])
        clear h2 h3
        go_enter Try.func18, Try.ntmps18
        go_wp2_with (first | ((with_reducible refine k_box (T := 39) ?_); refine st_box rfl _ _ rfl _ rfl HF ?_; (clear HF; intro gm w HF K hK; simp only [Value.cells, Act.eval, Value.cells, Array.getD_eq_getD_getElem?, List.getElem?_toArray, List.getElem?_cons_succ, List.getElem?_cons_zero, Option.getD_some] at HF; go_simp)) | ((with_reducible refine k_box (T := 49) ?_); refine st_box rfl _ _ rfl _ rfl HF ?_; (clear HF; intro gh w HF K hK; simp only [Value.cells, Act.eval, Value.cells, Array.getD_eq_getD_getElem?, List.getElem?_toArray, List.getElem?_cons_succ, List.getElem?_cons_zero, Option.getD_some] at HF; go_simp)) | ((with_reducible refine k_alloc (T := 39) ?_); refine st_alloc rfl _ rfl _ z39 _ rfl HF ?_; (clear HF; intro g5 w HF K hK; simp only [Value.cells] at HF; go_simp)) | ((with_reducible refine k_load (T := 27) ?_); (first | refine st_row rfl _ _ rfl _ rfl a27 2 s27 HF 1 rfl rfl ?_ | refine st_row rfl _ _ rfl _ rfl a27 2 s27 HF 2 rfl rfl ?_); (intro K hK; go_simp)) | ((with_reducible refine k_load (T := 27) ?_); (first | refine st_loads rfl _ _ rfl _ _ rfl a27 2 s27 HF 1 rfl ?_ ?_ | refine st_loads rfl _ _ rfl _ _ rfl a27 2 s27 HF 2 rfl ?_ ?_); (simp); (intro K hK; go_simp)) | ((with_reducible refine k_store (T := 39) ?_); refine st_put rfl _ _ _ rfl _ rfl _ rfl ?_ s39 HF 0 rfl rfl ?_; (simp [Value.oneCell']); (clear HF; intro w HF K hK; simp only [List.set_cons_zero, List.set_cons_succ, Act.eval, Value.cells, Array.getD_eq_getD_getElem?, List.getElem?_toArray, List.getElem?_cons_succ, List.getElem?_cons_zero, Option.getD_some] at HF; go_simp)) | ((with_reducible refine k_load ?_); (first | refine st_load rfl _ _ rfl _ _ rfl ?_ HF 1 rfl rfl ?_ | refine st_load rfl _ _ rfl _ _ rfl ?_ HF 2 rfl rfl ?_); (kernel_rfl); (intro K hK; go_simp)))
        refine bodyPost_ret (results_three rfl rfl a39 s39 (HF.get 0 rfl) rfl rfl rfl) rfl ?_
        rw [hs.out]
        exact ⟨_, rfl, holdc_nil ((HF.sel 4 [3]).lift0 H0.out)⟩
  · have hb1 : (m.kind == 22) = false := by simpa using h1
    have hb1b : (m.kind != 22) = true := by simpa using h1
    have hs := Lib.hid (show takeS m h = ([], mg0, false) by unfold takeS; rw [if_pos h1])
    clear h1
    go_enter Try.func18, Try.ntmps18
    go_wp2_with (first | ((with_reducible refine k_box (T := 39) ?_); refine st_box rfl _ _ rfl _ rfl HF ?_; (clear HF; intro gm w HF K hK; simp only [Value.cells, Act.eval, Value.cells, Array.getD_eq_getD_getElem?, List.getElem?_toArray, List.getElem?_cons_succ, List.getElem?_cons_zero, Option.getD_some] at HF; go_simp)) | ((with_reducible refine k_box (T := 49) ?_); refine st_box rfl _ _ rfl _ rfl HF ?_; (clear HF; intro gh w HF K hK; simp only [Value.cells, Act.eval, Value.cells, Array.getD_eq_getD_getElem?, List.getElem?_toArray, List.getElem?_cons_succ, List.getElem?_cons_zero, Option.getD_some] at HF; go_simp)) | ((with_reducible refine k_alloc (T := 39) ?_); refine st_alloc rfl _ rfl _ z39 _ rfl HF ?_; (clear HF; intro g5 w HF K hK; simp only [Value.cells] at HF; go_simp)) | ((with_reducible refine k_load (T := 27) ?_); (first | refine st_row rfl _ _ rfl _ rfl a27 2 s27 HF 1 rfl rfl ?_ | refine st_row rfl _ _ rfl _ rfl a27 2 s27 HF 2 rfl rfl ?_); (intro K hK; go_simp)) | ((with_reducible refine k_load (T := 27) ?_); (first | refine st_loads rfl _ _ rfl _ _ rfl a27 2 s27 HF 1 rfl ?_ ?_ | refine st_loads rfl _ _ rfl _ _ rfl a27 2 s27 HF 2 rfl ?_ ?_); (simp); (intro K hK; go_simp)) | ((with_reducible refine k_store (T := 39) ?_); refine st_put rfl _ _ _ rfl _ rfl _ rfl ?_ s39 HF 0 rfl rfl ?_; (simp [Value.oneCell']); (clear HF; intro w HF K hK; simp only [List.set_cons_zero, List.set_cons_succ, Act.eval, Value.cells, Array.getD_eq_getD_getElem?, List.getElem?_toArray, List.getElem?_cons_succ, List.getElem?_cons_zero, Option.getD_some] at HF; go_simp)) | ((with_reducible refine k_load ?_); (first | refine st_load rfl _ _ rfl _ _ rfl ?_ HF 1 rfl rfl ?_ | refine st_load rfl _ _ rfl _ _ rfl ?_ HF 2 rfl rfl ?_); (kernel_rfl); (intro K hK; go_simp)))
    refine bodyPost_ret (results_three rfl rfl a39 s39 (HF.get 0 rfl) rfl rfl rfl) rfl ?_
    rw [hs.out]
    exact ⟨_, rfl, holdc_nil ((HF.sel 4 [3]).lift0 H0.out)⟩
end
end Md
end Go.Proofs.Ytjobojgmadjmfaa
