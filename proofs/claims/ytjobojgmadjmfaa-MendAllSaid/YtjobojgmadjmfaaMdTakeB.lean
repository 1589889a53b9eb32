/-
  mend.takeBucket.
-/
import Derived.Test.YtjobojgmadjmfaaMdTakeS
namespace Go.Proofs.Ytjobojgmadjmfaa
open Go.Hp Go.RowKit
set_option linter.unusedVariables false
set_option linter.unusedSimpArgs false
set_option maxRecDepth 100000
set_option maxHeartbeats 4000000
namespace Md

/-- A message's bucket, as one that is held. -/
def hd3 (m : Mg) : Hd := ⟨0, 0, [], m.upto, m.ents, m.lasts, []⟩

theorem cells_one (c : Cg) {va ve vl : Value} (h1 : va.oneCell' = true) (h2 : ve.oneCell' = true) (h3 : vl.oneCell' = true) : ∀ u ∈ c.cells va ve vl, u.oneCell' = true := by
  intro v hv
  simp only [Cg.cells, List.mem_cons, List.not_mem_nil, or_false] at hv
  rcases hv with rfl | rfl | rfl | rfl | rfl | rfl | rfl | rfl | rfl | rfl | rfl | rfl | rfl | rfl | rfl | rfl | rfl | rfl | rfl | rfl | rfl | rfl | rfl | rfl
  all_goals first | rfl | assumption

section
variable {w0 w : World} {L : List HProp}

theorem takeB {m : Mg} {vb ve vl vc : Value} (hmv : MgAt w m vb ve vl vc) (hmo : m.Ok) (hcl : m.cmds.length * 80 ≤ 140737488355328) (be : m.ents.length * 40 ≤ 140737488355328) (bl : m.lasts.length * 56 ≤ 140737488355328)
    {h : Hd} {vd ve2 vl2 vr : Value} (hm : May h) (hok : h.Ok) (hsz : h.row.length ≤ 140737488355328) (hv : HdAt w h vd ve2 vl2 vr) (H : At w0 L w) :
    Calls Try.prog 43 #[.agg (mgV m vb ve vl vc), .agg (hdV h vd ve2 vl2 vr)] w (TkPost w0 L (takeBS m h)) := by
  obtain ⟨W, rfl⟩ : ∃ W : World, W = w := ⟨_, rfl⟩
  have HF := At.of W
  have H0 := Lib.hid H
  have Hm := Lib.hid hm
  have Hv := Lib.hid hv
  obtain ⟨ac, cap, rfl, c1, c2, c3⟩ := hmv.c.value
  have Hmv := Lib.hid hmv
  have oe := row_one hmv.e.1
  have ol := row_one hmv.l.1
  have c3 := Lib.hid c3
  have Hok := Lib.hid hok
  have Hmo := Lib.hid hmo
  clear hm hv H hmv hok hmo
  simp only [mgV, hdV]
  go_enter Try.func43, Try.ntmps43
  go_wp2_with (first | ((with_reducible refine k_box (T := 39) ?_); refine st_box rfl _ _ rfl _ rfl HF ?_; (clear HF; intro gm w HF K hK; simp only [Value.cells, Act.eval, Value.cells, Array.getD_eq_getD_getElem?, List.getElem?_toArray, List.getElem?_cons_succ, List.getElem?_cons_zero, Option.getD_some] at HF; go_simp)) | ((with_reducible refine k_box (T := 49) ?_); refine st_box rfl _ _ rfl _ rfl HF ?_; (clear HF; intro gh w HF K hK; simp only [Value.cells, Act.eval, Value.cells, Array.getD_eq_getD_getElem?, List.getElem?_toArray, List.getElem?_cons_succ, List.getElem?_cons_zero, Option.getD_some] at HF; go_simp)) | ((with_reducible refine k_alloc (T := 39) ?_); refine st_alloc rfl _ rfl _ z39 _ rfl HF ?_; (clear HF; intro g5 w HF K hK; simp only [Value.cells] at HF; go_simp)))
  apply wp_region_eff [9, 10] (fun i => (#[[], [], [], [], [], [], [], [], [], [], [9], []] : Array (List Nat)).getD i []) (fun val i => ((_ :: _ :: _ :: _ :: _ :: _ :: _ :: _ :: _ :: val 9 :: val 10 :: _ :: []) : List Value).toArray.getD i undef) (fun E val => At W ((if E 9 = true then PtrBlk (val 9) (.cells (if E 10 = true then #[.int .i64 m.upto, ve, vl] else #[.int .i64 0, .slice none 0 0, .slice none 0 0]) 36 (0, 0)) else emp) :: Blk g5 (.cells #[.int .i64 0, .bool false, .int .i64 0, .bool false, .int .i64 0, .int .i64 0, .int .i64 0, .int .i64 0, .int .i64 0, .int .i64 0, .int .i64 0, .int .i64 0, .int .i64 0, .int .i64 0, .int .i64 0, .slice none 0 0, .int .i64 0, .int .i64 0, .int .i64 0, .string ⟨#[]⟩, .int .i64 0, .int .i64 0, .int .i64 0, .int .i64 0, .int .i64 0, .int .i64 0, .slice none 0 0, .slice none 0 0, .slice none 0 0, .bool false] 39 (0, 0)) :: Blk gh (.cells #[.int .i64 h.sn, .int .i64 h.sc, vd, .int .i64 h.upto, ve2, vl2, vr] 49 (0, 0)) :: Blk gm (.cells #[.int .i64 m.kind, .bool m.fc, .int .i64 m.fi, .bool m.tc, .int .i64 m.ti, .int .i64 m.op, .int .i64 m.rd, .int .i64 m.kk, .int .i64 m.ka, .int .i64 m.kb, .int .i64 m.kc, .int .i64 m.sn, .int .i64 m.sc, .int .i64 m.hn, .int .i64 m.hc, vb, .int .i64 m.cmd.k, .int .i64 m.cmd.cl, .int .i64 m.cmd.op, .string m.cmd.nm, .int .i64 m.cmd.f1, .int .i64 m.cmd.f2, .int .i64 m.cmd.n1, .int .i64 m.cmd.n2, .int .i64 m.cmd.sz, .int .i64 m.upto, ve, vl, .slice ac m.cmds.length cap, .bool m.more] 39 (0, 0)) :: Arg W :: [])) (by kernel_rfl) (by kernel_rfl) (by kernel_rfl) (by kernel_rfl) (HF.addEmp)
  case step =>
    iterate 9 (refine ⟨eff_pl rfl (fun _ => by rfl) fun E val hn T ds w K H hk ho hK => ?_, ?_⟩; rotate_left)
    iterate 2 (refine ⟨eff_mk rfl (fun _ => by rfl) fun E val hE0 hcl hn T ds w K H hk ho hK => ?_, ?_⟩; rotate_left)
    refine ⟨eff_pl rfl (fun _ => by rfl) fun E val hn T ds w K H hk ho hK => ?_, ?_⟩; rotate_left
    exact trivial
    · have o2 := ho 2 (by kernel_rfl); clear ho; simp [know, dstAt, Region.binds] at hk o2; go_simp; exact hK _ H
    · clear ho; simp [know, dstAt, Region.binds] at hk
      (refine op_loadsT (T := 36) (n := 3) rfl hk a36 s36 H 3 rfl rfl rfl ?_; exact hK _ H)
    · have o2 := ho 2 (by kernel_rfl); clear ho; simp [know, dstAt, Region.binds] at hk o2; go_simp; exact hK _ H
    · clear ho; simp [know, dstAt, Region.binds] at hk; go_simp; exact hK _ H
    · clear ho; simp [know, dstAt, Region.binds] at hk
      (refine op_loadT rfl hk ?_ H 3 rfl rfl ?_; (kernel_rfl); exact hK _ H)
    · have o2 := ho 2 (by kernel_rfl); clear ho; simp [know, dstAt, Region.binds] at hk o2; go_simp; exact hK _ H
    · clear ho; simp [know, dstAt, Region.binds] at hk
      (refine op_loadT rfl hk ?_ H 3 rfl rfl ?_; (kernel_rfl); exact hK _ H)
    · clear ho; simp [know, dstAt, Region.binds] at hk; go_simp; exact hK _ H
    · clear ho; simp [know, dstAt, Region.binds] at hk; go_simp; exact hK _ H
    · clear ho; simp [know, dstAt, Region.binds] at hk
      (have q10 : E 10 = false := (by cases h : E 10 with | false => rfl | true => (have h2 := hcl 10 (by decide) h 9 (by decide); rw [hE0] at h2; cases h2))); (simp only [hE0, Bool.false_eq_true, if_false] at H); refine op_allocT rfl z36 rfl (H.sel 5 [1, 2, 3, 4]) ?_; (intro x w' H; refine hK _ _ ?_; have t9 : updE E 9 9 = true := rfl; have t10 : updE E 9 10 = false := q10; simp only [t9, t10, Bool.false_eq_true, if_true, if_false]; exact H)
    · clear ho; simp [know, dstAt, Region.binds] at hk
      (have e9 := hn 9 (by decide)); (simp only [e9, hE0, Bool.false_eq_true, if_true, if_false] at H); (obtain ⟨g, hv9, H⟩ := ptr_ex H); refine op_putT rfl (hk.1.trans hv9) hk.2.1 ?_ s36 H 0 rfl rfl rfl ?_; (intro v hv; simp at hv; rcases hv with rfl | rfl | rfl; (rfl); (exact oe); (exact ol)); (intro w' H; refine hK _ _ ?_; have t9 : updE E 10 9 = true := e9; have t10 : updE E 10 10 = true := rfl; have tv : updV val 10 undef 9 = .pointer (some ⟨g, 0, none⟩) := hv9; simp only [t9, t10, if_true]; rw [tv]; exact ptr_mk H)
    · clear ho; simp [know, dstAt, Region.binds] at hk; go_simp; exact hK _ H
  case ins =>
    iterate 9 (refine ⟨ins_pl rfl (fun _ _ _ => rfl), ?_⟩)
    iterate 2 (refine ⟨ins_mk rfl (fun _ => rfl), ?_⟩)
    refine ⟨ins_pl rfl (fun _ _ _ => rfl), ?_⟩
    exact trivial
  case jns =>
    iterate 9 (refine ⟨j_pl (fun _ _ _ => rfl), ?_⟩)
    iterate 2 (refine ⟨j_mk rfl, ?_⟩)
    refine ⟨j_pl (fun _ _ _ => rfl), ?_⟩
    exact trivial
  case fin =>
    intro E val w2 hE H
    have e9 := hE 9 (by decide)
    have e10 := hE 10 (by decide)
    simp only [e9, e10, if_true] at H
    clear HF hE e9 e10
    obtain ⟨g8, hv8, HF⟩ := ptr_ex H
    clear H
    simp [putAll, Act.put, hv8]
    clear hv8
    replace HF : At W (Blk g8 _ :: Blk gm _ :: Blk gh _ :: Blk g5 _ :: Arg W :: []) w2 := HF.sel 5 [0, 3, 2, 1, 4]
    by_cases h1 : m.upto < 0
    ·
      have hs := Lib.hid (show takeBS m h = ([], mg0, false) by unfold takeBS; rw [if_pos (Or.inl h1)])
      go_wp2_with (first | ((with_reducible refine k_store (T := 39) ?_); refine st_put rfl _ _ _ rfl _ rfl _ rfl ?_ s39 HF 3 rfl rfl ?_; (simp [Value.oneCell']); (clear HF; intro w HF K hK; simp only [List.set_cons_zero, List.set_cons_succ, Act.eval, Value.cells, Array.getD_eq_getD_getElem?, List.getElem?_toArray, List.getElem?_cons_succ, List.getElem?_cons_zero, Option.getD_some] at HF; go_simp)) | ((with_reducible refine k_load ?_); (first | refine st_load rfl _ _ rfl _ _ rfl ?_ HF 0 rfl rfl ?_ | refine st_load rfl _ _ rfl _ _ rfl ?_ HF 1 rfl rfl ?_); (kernel_rfl); (intro K hK; go_simp)))
      refine bodyPost_ret (results_three rfl rfl a39 s39 (HF.get 3 rfl) rfl rfl rfl) rfl ?_
      rw [hs.out]
      exact ⟨_, rfl, holdc_nil ((HF.sel 5 [4]).lift0 H0.out)⟩
    by_cases h2 : 1048576 < m.upto
    ·
      have hs := Lib.hid (show takeBS m h = ([], mg0, false) by unfold takeBS; rw [if_pos (Or.inr (Or.inl h2))])
      go_wp2_with (first | ((with_reducible refine k_store (T := 39) ?_); refine st_put rfl _ _ _ rfl _ rfl _ rfl ?_ s39 HF 3 rfl rfl ?_; (simp [Value.oneCell']); (clear HF; intro w HF K hK; simp only [List.set_cons_zero, List.set_cons_succ, Act.eval, Value.cells, Array.getD_eq_getD_getElem?, List.getElem?_toArray, List.getElem?_cons_succ, List.getElem?_cons_zero, Option.getD_some] at HF; go_simp)) | ((with_reducible refine k_load ?_); (first | refine st_load rfl _ _ rfl _ _ rfl ?_ HF 0 rfl rfl ?_ | refine st_load rfl _ _ rfl _ _ rfl ?_ HF 1 rfl rfl ?_); (kernel_rfl); (intro K hK; go_simp)))
      refine bodyPost_ret (results_three rfl rfl a39 s39 (HF.get 3 rfl) rfl rfl rfl) rfl ?_
      rw [hs.out]
      exact ⟨_, rfl, holdc_nil ((HF.sel 5 [4]).lift0 H0.out)⟩
    by_cases h3 : m.upto = 0
    · have hb3 : (m.upto == 0) = true := by simpa using h3
      by_cases h4 : 1 ≤ m.sn ∧ m.sn ≤ 1048577
      · have hf := Lib.hid (show (decide (1 ≤ m.sn) && decide (m.sn ≤ 1048577)) = true by simp [h4.1, h4.2])
        have Hbad := Lib.hid (show ¬ (m.upto < 0 ∨ 1048576 < m.upto ∨ (m.upto = 0 ∧ ¬ (1 ≤ m.sn ∧ m.sn ≤ 1048577))) by omega)
        obtain ⟨h4a, h4b⟩ := h4
        have H3 := Lib.hid h3
        clear h3
        go_wp2_with (first | ((with_reducible refine k_load ?_); (first | refine st_load rfl _ _ rfl _ _ rfl ?_ HF 0 rfl rfl ?_ | refine st_load rfl _ _ rfl _ _ rfl ?_ HF 1 rfl rfl ?_); (kernel_rfl); (intro K hK; go_simp)))
        refine (isFrom HF m.sn).mono ?_
        rintro e w3 ⟨rfl, H1⟩
        replace HF := H1
        clear H1
        rw [hf.out]
        go_wp2_with (first | ((with_reducible refine k_load (T := 39) ?_); (first | refine st_row rfl _ _ rfl _ rfl a39 30 s39 HF 1 rfl rfl ?_ | refine st_row rfl _ _ rfl _ rfl a39 30 s39 HF 2 rfl rfl ?_); (intro K hK; go_simp)) | ((with_reducible refine k_load (T := 39) ?_); (first | refine st_loads rfl _ _ rfl _ _ rfl a39 30 s39 HF 1 rfl ?_ ?_ | refine st_loads rfl _ _ rfl _ _ rfl a39 30 s39 HF 2 rfl ?_ ?_); (simp); (intro K hK; go_simp)) | ((with_reducible refine k_load (T := 49) ?_); (first | refine st_row rfl _ _ rfl _ rfl a49 7 s49 HF 1 rfl rfl ?_ | refine st_row rfl _ _ rfl _ rfl a49 7 s49 HF 2 rfl rfl ?_); (intro K hK; go_simp)) | ((with_reducible refine k_load (T := 49) ?_); (first | refine st_loads rfl _ _ rfl _ _ rfl a49 7 s49 HF 1 rfl ?_ ?_ | refine st_loads rfl _ _ rfl _ _ rfl a49 7 s49 HF 2 rfl ?_ ?_); (simp); (intro K hK; go_simp)) | ((with_reducible refine k_load ?_); (first | refine st_load rfl _ _ rfl _ _ rfl ?_ HF 0 rfl rfl ?_ | refine st_load rfl _ _ rfl _ _ rfl ?_ HF 1 rfl rfl ?_); (kernel_rfl); (intro K hK; go_simp)))
        refine (learned (Hmv.out.c.ext (HF.ext 4 rfl)) Hmo.out.cmds hcl h4a h4b Hm.out Hok.out hsz (Hv.out.ext (HF.ext 4 rfl)) HF).mono ?_
        rintro e w4 ⟨v7, rfl, H1⟩
        replace HF : At W (HoldC v7 (newsS m h m.cmds.length) :: Blk g8 _ :: Blk gm _ :: Blk gh _ :: Blk g5 _ :: Arg W :: []) w4 := holdc_news H1
        clear H1
        generalize hl7 : newsS m h m.cmds.length = l7 at *
        have Hl7 := Lib.hid hl7
        clear hl7
        cases hmore : m.more with
        | false =>
          have hs := Lib.hid (show takeBS m h = (l7, mg0, false) by unfold takeBS; rw [if_neg Hbad.out, if_pos (Or.inl hmore), if_pos H3.out, Hl7.out])
          go_wp2_with (first | ((with_reducible refine k_store (T := 39) ?_); refine st_put rfl _ _ _ rfl _ rfl _ rfl ?_ s39 HF 4 rfl rfl ?_; (simp [Value.oneCell']); (clear HF; intro w HF K hK; simp only [List.set_cons_zero, List.set_cons_succ, Act.eval, Value.cells, Array.getD_eq_getD_getElem?, List.getElem?_toArray, List.getElem?_cons_succ, List.getElem?_cons_zero, Option.getD_some] at HF; go_simp)) | ((with_reducible refine k_load ?_); (first | refine st_load rfl _ _ rfl _ _ rfl ?_ HF 1 rfl rfl ?_ | refine st_load rfl _ _ rfl _ _ rfl ?_ HF 2 rfl rfl ?_); (kernel_rfl); (intro K hK; go_simp)))
          refine bodyPost_ret (results_three rfl rfl a39 s39 (HF.get 4 rfl) rfl rfl rfl) rfl ?_
          rw [hs.out]
          exact ⟨_, rfl, (show At W ([HoldC _ _] ++ [Arg W]) _ from HF.sel 6 [0, 5]).lift H0.out⟩
        | true =>
          by_cases h6 : m.cmds.length = 0
          · have hs := Lib.hid (show takeBS m h = (l7, mg0, false) by unfold takeBS; rw [if_neg Hbad.out, if_pos (Or.inr ⟨H3.out, h6⟩), if_pos H3.out, Hl7.out])
            have hb6 : ((m.cmds.length : Int) == 0) = true := by simpa using h6
            clear h6
            go_wp2_with (first | ((with_reducible refine k_store (T := 39) ?_); refine st_put rfl _ _ _ rfl _ rfl _ rfl ?_ s39 HF 4 rfl rfl ?_; (simp [Value.oneCell']); (clear HF; intro w HF K hK; simp only [List.set_cons_zero, List.set_cons_succ, Act.eval, Value.cells, Array.getD_eq_getD_getElem?, List.getElem?_toArray, List.getElem?_cons_succ, List.getElem?_cons_zero, Option.getD_some] at HF; go_simp)) | ((with_reducible refine k_load ?_); (first | refine st_load rfl _ _ rfl _ _ rfl ?_ HF 1 rfl rfl ?_ | refine st_load rfl _ _ rfl _ _ rfl ?_ HF 2 rfl rfl ?_); (kernel_rfl); (intro K hK; go_simp)))
            refine bodyPost_ret (results_three rfl rfl a39 s39 (HF.get 4 rfl) rfl rfl rfl) rfl ?_
            rw [hs.out]
            exact ⟨_, rfl, (show At W ([HoldC _ _] ++ [Arg W]) _ from HF.sel 6 [0, 5]).lift H0.out⟩
          · have hs := Lib.hid (show takeBS m h = (l7, onM m (m.sn + m.cmds.length), true) by unfold takeBS; rw [if_neg Hbad.out, if_neg (by simp [hmore, h6]), if_pos H3.out, if_pos H3.out, Hl7.out])
            have hb6 : ((m.cmds.length : Int) == 0) = false := by simpa using h6
            clear h6
            have hwr : IntKind.i64.wrap (m.sn + (m.cmds.length : Int)) = m.sn + m.cmds.length := IntWalk.i64_in _ (by omega)
            go_wp2_with (first | ((with_reducible refine k_load ?_); (first | refine st_load rfl _ _ rfl _ _ rfl ?_ HF 1 rfl rfl ?_ | refine st_load rfl _ _ rfl _ _ rfl ?_ HF 2 rfl rfl ?_); (kernel_rfl); (intro K hK; go_simp)))
            apply wp_region_eff [11] (fun i => (#[[], [], [], [], [], [], [], [], [], [], [], [], []] : Array (List Nat)).getD i []) (fun val i => ((_ :: _ :: _ :: _ :: _ :: _ :: _ :: _ :: _ :: _ :: _ :: val 11 :: _ :: []) : List Value).toArray.getD i undef) (fun E val => At W (HoldC v7 l7 :: Blk g8 (.cells #[.int .i64 m.upto, ve, vl] 36 (0, 0)) :: Blk gm (.cells #[.int .i64 m.kind, .bool m.fc, .int .i64 m.fi, .bool m.tc, .int .i64 m.ti, .int .i64 m.op, .int .i64 m.rd, .int .i64 m.kk, .int .i64 m.ka, .int .i64 m.kb, .int .i64 m.kc, .int .i64 m.sn, .int .i64 m.sc, .int .i64 m.hn, .int .i64 m.hc, vb, .int .i64 m.cmd.k, .int .i64 m.cmd.cl, .int .i64 m.cmd.op, .string m.cmd.nm, .int .i64 m.cmd.f1, .int .i64 m.cmd.f2, .int .i64 m.cmd.n1, .int .i64 m.cmd.n2, .int .i64 m.cmd.sz, .int .i64 m.upto, ve, vl, .slice ac m.cmds.length cap, .bool m.more] 39 (0, 0)) :: Blk gh (.cells #[.int .i64 h.sn, .int .i64 h.sc, vd, .int .i64 h.upto, ve2, vl2, vr] 49 (0, 0)) :: Blk g5 (.cells (if E 11 = true then #[.int .i64 21, .bool m.tc, .int .i64 m.ti, .bool m.fc, .int .i64 m.fi, .int .i64 0, .int .i64 0, .int .i64 m.kk, .int .i64 m.ka, .int .i64 m.kb, .int .i64 m.kc, .int .i64 (m.sn + m.cmds.length), .int .i64 0, .int .i64 0, .int .i64 0, .slice none 0 0, .int .i64 0, .int .i64 0, .int .i64 0, .string ⟨#[]⟩, .int .i64 0, .int .i64 0, .int .i64 0, .int .i64 0, .int .i64 0, .int .i64 0, .slice none 0 0, .slice none 0 0, .slice none 0 0, .bool false] else #[.int .i64 0, .bool false, .int .i64 0, .bool false, .int .i64 0, .int .i64 0, .int .i64 0, .int .i64 0, .int .i64 0, .int .i64 0, .int .i64 0, .int .i64 0, .int .i64 0, .int .i64 0, .int .i64 0, .slice none 0 0, .int .i64 0, .int .i64 0, .int .i64 0, .string ⟨#[]⟩, .int .i64 0, .int .i64 0, .int .i64 0, .int .i64 0, .int .i64 0, .int .i64 0, .slice none 0 0, .slice none 0 0, .slice none 0 0, .bool false]) 39 (0, 0)) :: Arg W :: [])) (by kernel_rfl) (by kernel_rfl) (by kernel_rfl) (by kernel_rfl) (HF)
            case step =>
              iterate 11 (refine ⟨eff_pl rfl (fun _ => by rfl) fun E val hn T ds w K H hk ho hK => ?_, ?_⟩; rotate_left)
              refine ⟨eff_mk rfl (fun _ => by rfl) fun E val hE0 hcl hn T ds w K H hk ho hK => ?_, ?_⟩; rotate_left
              refine ⟨eff_pl rfl (fun _ => by rfl) fun E val hn T ds w K H hk ho hK => ?_, ?_⟩; rotate_left
              exact trivial
              · have o7 := ho 7 (by kernel_rfl); clear ho; simp [know, dstAt, Region.binds] at hk o7; go_simp; exact hK _ H
              · have o2 := ho 2 (by kernel_rfl); clear ho; simp [know, dstAt, Region.binds] at hk o2; go_simp; exact hK _ H
              · clear ho; simp [know, dstAt, Region.binds] at hk
                (refine op_loadsT (T := 23) (n := 2) rfl hk a23 s23 H 2 rfl rfl rfl ?_; exact hK _ H)
              · have o2 := ho 2 (by kernel_rfl); clear ho; simp [know, dstAt, Region.binds] at hk o2; go_simp; exact hK _ H
              · clear ho; simp [know, dstAt, Region.binds] at hk
                (refine op_loadsT (T := 23) (n := 2) rfl hk a23 s23 H 2 rfl rfl rfl ?_; exact hK _ H)
              · have o2 := ho 2 (by kernel_rfl); clear ho; simp [know, dstAt, Region.binds] at hk o2; go_simp; exact hK _ H
              · clear ho; simp [know, dstAt, Region.binds] at hk
                (refine op_loadsT (T := 25) (n := 4) rfl hk a25 s25 H 2 rfl rfl rfl ?_; exact hK _ H)
              · have o9 := ho 9 (by kernel_rfl); clear ho; simp [know, dstAt, Region.binds] at hk o9; go_simp; exact hK _ H
              · clear ho; simp [know, dstAt, Region.binds] at hk; go_simp; exact hK _ H
              · clear ho; simp [know, dstAt, Region.binds] at hk; go_simp; exact hK _ H
              · clear ho; simp [know, dstAt, Region.binds] at hk; go_simp; exact hK _ H
              · have o5 := ho 5 (by kernel_rfl); clear ho; simp [know, dstAt, Region.binds] at hk o5
                (simp only [hE0, Bool.false_eq_true, if_false] at H); refine op_putT rfl o5 hk.1 ?_ s39 H 4 rfl rfl rfl ?_; (simp [Value.oneCell']); (intro w' H; refine hK _ _ ?_; exact H)
              · clear ho; simp [know, dstAt, Region.binds] at hk; go_simp; exact hK _ H
            case ins =>
              iterate 11 (refine ⟨ins_pl rfl (fun _ _ _ => rfl), ?_⟩)
              refine ⟨ins_mk rfl (fun _ => rfl), ?_⟩
              refine ⟨ins_pl rfl (fun _ _ _ => rfl), ?_⟩
              exact trivial
            case jns =>
              iterate 11 (refine ⟨j_pl (fun _ _ _ => rfl), ?_⟩)
              refine ⟨j_mk rfl, ?_⟩
              refine ⟨j_pl (fun _ _ _ => rfl), ?_⟩
              exact trivial
            case fin =>
              intro E val w9 hE H
              have e11 := hE 11 (by decide)
              simp only [e11, if_true] at H
              clear HF hE e11
              have HF := H
              clear H
              simp [putAll, Act.put]
              go_wp2_with fail
              refine bodyPost_ret (results_three rfl rfl a39 s39 (HF.get 4 rfl) rfl rfl rfl) rfl ?_
              rw [hs.out]
              exact ⟨_, rfl, (show At W ([HoldC _ _] ++ [Arg W]) _ from HF.sel 6 [0, 5]).lift H0.out⟩
      · have hf := Lib.hid (show (decide (1 ≤ m.sn) && decide (m.sn ≤ 1048577)) = false by
          cases hx : (decide (1 ≤ m.sn) && decide (m.sn ≤ 1048577)) with
          | false => rfl
          | true => exact absurd (by simpa using hx) h4)
        have hs := Lib.hid (show takeBS m h = ([], mg0, false) by unfold takeBS; rw [if_pos (Or.inr (Or.inr ⟨h3, h4⟩))])
        clear h4 h3
        go_wp2_with (first | ((with_reducible refine k_load ?_); (first | refine st_load rfl _ _ rfl _ _ rfl ?_ HF 0 rfl rfl ?_ | refine st_load rfl _ _ rfl _ _ rfl ?_ HF 1 rfl rfl ?_); (kernel_rfl); (intro K hK; go_simp)))
        refine (isFrom HF m.sn).mono ?_
        rintro e w3 ⟨rfl, H1⟩
        replace HF := H1
        clear H1
        rw [hf.out]
        go_wp2_with (first | ((with_reducible refine k_store (T := 39) ?_); refine st_put rfl _ _ _ rfl _ rfl _ rfl ?_ s39 HF 3 rfl rfl ?_; (simp [Value.oneCell']); (clear HF; intro w HF K hK; simp only [List.set_cons_zero, List.set_cons_succ, Act.eval, Value.cells, Array.getD_eq_getD_getElem?, List.getElem?_toArray, List.getElem?_cons_succ, List.getElem?_cons_zero, Option.getD_some] at HF; go_simp)) | ((with_reducible refine k_load ?_); (first | refine st_load rfl _ _ rfl _ _ rfl ?_ HF 0 rfl rfl ?_ | refine st_load rfl _ _ rfl _ _ rfl ?_ HF 1 rfl rfl ?_); (kernel_rfl); (intro K hK; go_simp)))
        refine bodyPost_ret (results_three rfl rfl a39 s39 (HF.get 3 rfl) rfl rfl rfl) rfl ?_
        rw [hs.out]
        exact ⟨_, rfl, holdc_nil ((HF.sel 5 [4]).lift0 H0.out)⟩
    · have hb3 : (m.upto == 0) = false := by simpa using h3
      have Hbad := Lib.hid (show ¬ (m.upto < 0 ∨ 1048576 < m.upto ∨ (m.upto = 0 ∧ ¬ (1 ≤ m.sn ∧ m.sn ≤ 1048577))) by omega)
      have H3 := Lib.hid h3
      clear h3
      go_wp2_with (first | ((with_reducible refine k_load ?_); (first | refine st_load rfl _ _ rfl _ _ rfl ?_ HF 0 rfl rfl ?_ | refine st_load rfl _ _ rfl _ _ rfl ?_ HF 1 rfl rfl ?_); (kernel_rfl); (intro K hK; go_simp)))
      apply wp_region_eff [] (fun i => (#[[], [], [], [], []] : Array (List Nat)).getD i []) (fun val i => ((_ :: _ :: _ :: _ :: _ :: []) : List Value).toArray.getD i undef) (fun E val => At W (Blk g8 (.cells #[.int .i64 m.upto, ve, vl] 36 (0, 0)) :: Blk gm (.cells #[.int .i64 m.kind, .bool m.fc, .int .i64 m.fi, .bool m.tc, .int .i64 m.ti, .int .i64 m.op, .int .i64 m.rd, .int .i64 m.kk, .int .i64 m.ka, .int .i64 m.kb, .int .i64 m.kc, .int .i64 m.sn, .int .i64 m.sc, .int .i64 m.hn, .int .i64 m.hc, vb, .int .i64 m.cmd.k, .int .i64 m.cmd.cl, .int .i64 m.cmd.op, .string m.cmd.nm, .int .i64 m.cmd.f1, .int .i64 m.cmd.f2, .int .i64 m.cmd.n1, .int .i64 m.cmd.n2, .int .i64 m.cmd.sz, .int .i64 m.upto, ve, vl, .slice ac m.cmds.length cap, .bool m.more] 39 (0, 0)) :: Blk gh (.cells #[.int .i64 h.sn, .int .i64 h.sc, vd, .int .i64 h.upto, ve2, vl2, vr] 49 (0, 0)) :: Blk g5 (.cells #[.int .i64 0, .bool false, .int .i64 0, .bool false, .int .i64 0, .int .i64 0, .int .i64 0, .int .i64 0, .int .i64 0, .int .i64 0, .int .i64 0, .int .i64 0, .int .i64 0, .int .i64 0, .int .i64 0, .slice none 0 0, .int .i64 0, .int .i64 0, .int .i64 0, .string ⟨#[]⟩, .int .i64 0, .int .i64 0, .int .i64 0, .int .i64 0, .int .i64 0, .int .i64 0, .slice none 0 0, .slice none 0 0, .slice none 0 0, .bool false] 39 (0, 0)) :: Arg W :: [])) (by kernel_rfl) (by kernel_rfl) (by kernel_rfl) (by kernel_rfl) (HF)
      case step =>
        iterate 5 (refine ⟨eff_pl rfl (fun _ => by rfl) fun E val hn T ds w K H hk ho hK => ?_, ?_⟩; rotate_left)
        exact trivial
        · have o8 := ho 8 (by kernel_rfl); clear ho; simp [know, dstAt, Region.binds] at hk o8; go_simp; exact hK _ H
        · clear ho; simp [know, dstAt, Region.binds] at hk
          (refine op_loadT rfl hk ?_ H 0 rfl rfl ?_; (kernel_rfl); exact hK _ H)
        · have o3 := ho 3 (by kernel_rfl); clear ho; simp [know, dstAt, Region.binds] at hk o3
          (refine op_rowT (T := 49) rfl o3 a49 s49 H 2 rfl rfl ?_; exact hK _ H)
        · clear ho; simp [know, dstAt, Region.binds] at hk
          (go_simp; refine (edge Hm.out Hok.out hsz (Hv.out.r.ext (H.ext 4 rfl)) H).mono ?_; rintro e w' ⟨rfl, _, H⟩; exact hK _ H)
        · clear ho; simp [know, dstAt, Region.binds] at hk; go_simp; exact hK _ H
      case ins =>
        iterate 5 (refine ⟨ins_pl rfl (fun _ _ _ => rfl), ?_⟩)
        exact trivial
      case jns =>
        iterate 5 (refine ⟨j_pl (fun _ _ _ => rfl), ?_⟩)
        exact trivial
      case fin =>
        intro E val w4 hE H
        clear HF hE
        have HF := H
        clear H
        simp [putAll, Act.put]
        by_cases h5 : edgeS h < m.upto
        · go_wp2_with fail
          apply wp_region_effN [0, 4, 6, 7] (fun i => (#[[], [], [], [], [], [4], [4], [0, 4, 6], [0, 4, 6, 7]] : Array (List Nat)).getD i []) (fun val i => ((val 0 :: _ :: _ :: _ :: val 4 :: _ :: val 6 :: val 7 :: _ :: []) : List Value).toArray.getD i undef) (fun E val => At W ((if E 7 = true then OwnRow 87 24 (val 7) (0 + 1) ([] ++ (chK m).cells nl (comp (val 4) 1) (comp (val 4) 2)) else emp) :: (if E 6 = true then SlBlk (val 6) ((chK m).cells nl (comp (val 4) 1) (comp (val 4) 2)).toArray 87 else emp) :: (if E 4 = true then TwH (hd3 m) (val 4) else emp) :: Blk g8 (.cells #[.int .i64 m.upto, ve, vl] 36 (0, 0)) :: Blk gm (.cells #[.int .i64 m.kind, .bool m.fc, .int .i64 m.fi, .bool m.tc, .int .i64 m.ti, .int .i64 m.op, .int .i64 m.rd, .int .i64 m.kk, .int .i64 m.ka, .int .i64 m.kb, .int .i64 m.kc, .int .i64 m.sn, .int .i64 m.sc, .int .i64 m.hn, .int .i64 m.hc, vb, .int .i64 m.cmd.k, .int .i64 m.cmd.cl, .int .i64 m.cmd.op, .string m.cmd.nm, .int .i64 m.cmd.f1, .int .i64 m.cmd.f2, .int .i64 m.cmd.n1, .int .i64 m.cmd.n2, .int .i64 m.cmd.sz, .int .i64 m.upto, ve, vl, .slice ac m.cmds.length cap, .bool m.more] 39 (0, 0)) :: Blk gh (.cells #[.int .i64 h.sn, .int .i64 h.sc, vd, .int .i64 h.upto, ve2, vl2, vr] 49 (0, 0)) :: Blk g5 (.cells #[.int .i64 0, .bool false, .int .i64 0, .bool false, .int .i64 0, .int .i64 0, .int .i64 0, .int .i64 0, .int .i64 0, .int .i64 0, .int .i64 0, .int .i64 0, .int .i64 0, .int .i64 0, .int .i64 0, .slice none 0 0, .int .i64 0, .int .i64 0, .int .i64 0, .string ⟨#[]⟩, .int .i64 0, .int .i64 0, .int .i64 0, .int .i64 0, .int .i64 0, .int .i64 0, .slice none 0 0, .slice none 0 0, .slice none 0 0, .bool false] 39 (0, 0)) :: Arg W :: (if E 0 = true then pur (val 0 = nl) else emp) :: [])) (by kernel_rfl) (by kernel_rfl) (by kernel_rfl) (by kernel_rfl) ((HF.addEmp.addEmp.addEmp.addEmp).sel 9 [0, 1, 2, 4, 5, 6, 7, 8, 3])
          case step =>
            refine ⟨eff_mkN rfl (fun _ => by rfl) fun E val hE0 hcl hn T ds w K H hk ho hK => ?_, ?_⟩; rotate_left
            iterate 3 (refine ⟨eff_plN rfl (fun _ => by rfl) fun E val hn T ds w K H hk ho hK => ?_, ?_⟩; rotate_left)
            refine ⟨eff_mkN rfl (fun _ => by rfl) fun E val hE0 hcl hn T ds w K H hk ho hK => ?_, ?_⟩; rotate_left
            refine ⟨eff_plN rfl (fun _ => by rfl) fun E val hn T ds w K H hk ho hK => ?_, ?_⟩; rotate_left
            iterate 2 (refine ⟨eff_mkN rfl (fun _ => by rfl) fun E val hE0 hcl hn T ds w K H hk ho hK => ?_, ?_⟩; rotate_left)
            refine ⟨eff_plN rfl (fun _ => by rfl) fun E val hn T ds w K H hk ho hK => ?_, ?_⟩; rotate_left
            exact trivial
            · have o7 := ho 7 (by kernel_rfl); clear ho; simp [know, dstAt, Region.binds] at hk o7
              go_simp; refine hK _ _ ?_; have t0 : updE E 0 0 = true := rfl; simp only [t0, if_true]; exact (At.pure (rfl : nl = nl) H).sel 10 [1, 2, 3, 4, 5, 6, 7, 8, 0]
            · have o2 := ho 2 (by kernel_rfl); clear ho; simp [know, dstAt, Region.binds] at hk o2; go_simp; exact hK _ H
            · clear ho; simp [know, dstAt, Region.binds] at hk
              (refine op_loadsT (T := 25) (n := 4) rfl hk a25 s25 H 4 rfl rfl rfl ?_; exact hK _ H)
            · have o8 := ho 8 (by kernel_rfl); clear ho; simp [know, dstAt, Region.binds] at hk o8
              (refine op_rowT (T := 36) rfl o8 a36 s36 H 3 rfl rfl ?_; exact hK _ H)
            · clear ho; simp [know, dstAt, Region.binds] at hk
              (have q6 : E 6 = false := (by cases h : E 6 with | false => rfl | true => (have h2 := hcl 6 (by decide) h 4 (by decide); rw [hE0] at h2; cases h2))); (have q7 : E 7 = false := (by cases h : E 7 with | false => rfl | true => (have h2 := hcl 7 (by decide) h 4 (by decide); rw [hE0] at h2; cases h2))); (simp only [hE0, q6, q7, Bool.false_eq_true, if_false] at H); go_simp; refine (twin (Hmv.out.e.ext (H.ext 7 rfl)) (Hmv.out.l.ext (H.ext 7 rfl)) Hmo.out.ents Hmo.out.lasts be bl (H.sel 8 [3, 4, 5, 6, 7])).mono ?_; rintro e w' ⟨ve', vl', rfl, H⟩; refine hK _ _ ?_; have t6 : updE E 4 6 = false := q6; have t7 : updE E 4 7 = false := q7; have t4 : updE E 4 4 = true := rfl; simp only [t4, t6, t7, Bool.false_eq_true, if_false, if_true]; exact ((At.imp (At.fold (M := [_, _]) H) fun _ hh => ⟨rfl, hh⟩ : At W (TwH (hd3 m) (.agg #[.int .i64 m.upto, ve', vl']) :: _) w')).addEmp.addEmp
            · clear ho; simp [know, dstAt, Region.binds] at hk
              first | (have e4 := hn 4 (by decide); simp only [e4, if_true] at H; (have hv4 := (At.and (H.pick 2 rfl)).1); have hk2 := hk.2.trans hv4; have hk1 := hk.1; clear hk hv4; go_simp; exact hK _ (by simp only [e4, if_true]; exact H)) | (go_simp; exact hK _ H)
            · clear ho; simp [know, dstAt, Region.binds] at hk
              (have q7 : E 7 = false := (by cases h : E 7 with | false => rfl | true => (have h2 := hcl 7 (by decide) h 6 (by decide); rw [hE0] at h2; cases h2))); (have e4 := hn 4 (by decide)); (simp only [hE0, e4, q7, Bool.false_eq_true, if_false, if_true] at H); refine op_lit1T rfl (c := ((chK m).cells nl (comp (val 4) 1) (comp (val 4) 2)).toArray) hk Try.underlying58 s87 z87 rfl rfl (by decide) (by decide) (H.sel 8 [2, 3, 4, 5, 6, 7]) ?_; (intro x w' H; refine hK _ _ ?_; have t4 : updE E 6 4 = true := e4; have t6 : updE E 6 6 = true := rfl; have t7 : updE E 6 7 = false := q7; simp only [t4, t6, t7, Bool.false_eq_true, if_false, if_true]; exact H.addEmp)
            · clear ho; simp [know, dstAt, Region.binds] at hk
              (have e4 := hn 4 (by decide)); (have e0 := hn 0 (by decide)); (have t00 : updE E 7 0 = true := e0); (have e6 := hn 6 (by decide)); (simp only [hE0, e0, e4, e6, Bool.false_eq_true, if_false, if_true] at H); (have hv0 := (At.unpure (H.pick 8 rfl)).1); (have HT := At.flat (At.and (H.pick 2 rfl)).2); (have o1 := row_one (hold_at HT)); (have o2 := row_one (hold_at (HT.pick 1 rfl))); clear HT; (obtain ⟨g, hv6, HS⟩ := sl_ex H.drop); (have HN := own_nil HS 87 24); refine op_appendT rfl Try.underlying58 s87 (bytes := 248) (by kernel_rfl) z87 rfl (hk.1.trans hv0) (hk.2.1.trans hv6) HN rfl (fun _ => ⟨_, rfl, cells_of (HN.get 1 rfl)⟩) (cells_one (chK m) rfl o1 o2) (by simp [maxLen]) (by decide) ?_; (intro v' w' H2; refine hK _ _ ?_; have t4 : updE E 7 4 = true := e4; have t6 : updE E 7 6 = true := e6; have t7 : updE E 7 7 = true := rfl; simp only [t00, t4, t6, t7, if_true]; exact (At.imp (H2.pick 1 rfl) fun _ hh => (⟨g, hv6, hh⟩ : SlBlk (val 6) _ _ _)).sel 8 [1, 0, 2, 3, 4, 5, 6, 7])
            · clear ho; simp [know, dstAt, Region.binds] at hk
              first | (have e4 := hn 4 (by decide); simp only [e4, if_true] at H; (have hv4 := (At.and (H.pick 2 rfl)).1); have hk2 := hk.2.trans hv4; have hk1 := hk.1; clear hk hv4; go_simp; exact hK _ (by simp only [e4, if_true]; exact H)) | (go_simp; exact hK _ H)
          case ins =>
            refine ⟨ins_mk rfl (fun _ => rfl), ?_⟩
            iterate 3 (refine ⟨ins_pl rfl (fun _ _ _ => rfl), ?_⟩)
            refine ⟨ins_mk rfl (fun _ => rfl), ?_⟩
            refine ⟨ins_pl rfl (fun val val' h => by first | rfl | ((have h4 := h 4 (by decide)); first | (simp only [h4]; done) | (simp only [h4]; rfl))), ?_⟩
            iterate 2 (refine ⟨ins_mk rfl (fun _ => rfl), ?_⟩)
            refine ⟨ins_pl rfl (fun val val' h => by first | rfl | ((have h0 := h 0 (by decide)); (have h4 := h 4 (by decide)); (have h6 := h 6 (by decide)); (have h7 := h 7 (by decide)); first | (simp only [h0, h4, h6, h7]; done) | (simp only [h0, h4, h6, h7]; rfl))), ?_⟩
            exact trivial
          case jns =>
            refine ⟨j_mk rfl, ?_⟩
            iterate 3 (refine ⟨j_pl (fun _ _ _ => rfl), ?_⟩)
            refine ⟨j_mk rfl, ?_⟩
            refine ⟨j_pl (fun _ _ _ => rfl), ?_⟩
            iterate 2 (refine ⟨j_mk rfl, ?_⟩)
            refine ⟨j_pl (fun _ _ _ => rfl), ?_⟩
            exact trivial
          case fin =>
            intro E val w5 hE H
            have e4 := hE 4 (by decide)
            have e0 := hE 0 (by decide)
            have e6 := hE 6 (by decide)
            have e7 := hE 7 (by decide)
            simp only [e0, e4, e6, e7, if_true] at H
            clear HF hE e0 e4 e6 e7
            have HT := At.flat (At.and (H.pick 2 rfl)).2
            clear H
            have HF : At W (HoldC (val 7) [chK m] :: Blk g8 (.cells #[.int .i64 m.upto, ve, vl] 36 (0, 0)) :: Blk gm (.cells #[.int .i64 m.kind, .bool m.fc, .int .i64 m.fi, .bool m.tc, .int .i64 m.ti, .int .i64 m.op, .int .i64 m.rd, .int .i64 m.kk, .int .i64 m.ka, .int .i64 m.kb, .int .i64 m.kc, .int .i64 m.sn, .int .i64 m.sc, .int .i64 m.hn, .int .i64 m.hc, vb, .int .i64 m.cmd.k, .int .i64 m.cmd.cl, .int .i64 m.cmd.op, .string m.cmd.nm, .int .i64 m.cmd.f1, .int .i64 m.cmd.f2, .int .i64 m.cmd.n1, .int .i64 m.cmd.n2, .int .i64 m.cmd.sz, .int .i64 m.upto, ve, vl, .slice ac m.cmds.length cap, .bool m.more] 39 (0, 0)) :: Blk gh (.cells #[.int .i64 h.sn, .int .i64 h.sc, vd, .int .i64 h.upto, ve2, vl2, vr] 49 (0, 0)) :: Blk g5 (.cells #[.int .i64 0, .bool false, .int .i64 0, .bool false, .int .i64 0, .int .i64 0, .int .i64 0, .int .i64 0, .int .i64 0, .int .i64 0, .int .i64 0, .int .i64 0, .int .i64 0, .int .i64 0, .int .i64 0, .slice none 0 0, .int .i64 0, .int .i64 0, .int .i64 0, .string ⟨#[]⟩, .int .i64 0, .int .i64 0, .int .i64 0, .int .i64 0, .int .i64 0, .int .i64 0, .slice none 0 0, .slice none 0 0, .slice none 0 0, .bool false] 39 (0, 0)) :: Arg W :: []) w5 := holdc_one (c := chK m) own_nil0 own_hold own_hold (fun r hr => (Hmo.out.ents r hr).len) (fun r hr => (Hmo.out.lasts r hr).len) own_own (HT.addEmp.sel 11 [3, 0, 1, 2, 5, 6, 7, 8, 9])
            clear HT
            simp [putAll, Act.put]
            generalize val 7 = v7 at *
            generalize hl7 : [chK m] = l7 at *
            have Hl7 := Lib.hid hl7
            clear hl7
            cases hmore : m.more with
            | false =>
              have hs := Lib.hid (show takeBS m h = (l7, mg0, false) by unfold takeBS; rw [if_neg Hbad.out, if_pos (Or.inl hmore), if_neg H3.out, if_pos h5, Hl7.out])
              go_wp2_with (first | ((with_reducible refine k_store (T := 39) ?_); refine st_put rfl _ _ _ rfl _ rfl _ rfl ?_ s39 HF 4 rfl rfl ?_; (simp [Value.oneCell']); (clear HF; intro w HF K hK; simp only [List.set_cons_zero, List.set_cons_succ, Act.eval, Value.cells, Array.getD_eq_getD_getElem?, List.getElem?_toArray, List.getElem?_cons_succ, List.getElem?_cons_zero, Option.getD_some] at HF; go_simp)) | ((with_reducible refine k_load ?_); (first | refine st_load rfl _ _ rfl _ _ rfl ?_ HF 1 rfl rfl ?_ | refine st_load rfl _ _ rfl _ _ rfl ?_ HF 2 rfl rfl ?_); (kernel_rfl); (intro K hK; go_simp)))
              refine bodyPost_ret (results_three rfl rfl a39 s39 (HF.get 4 rfl) rfl rfl rfl) rfl ?_
              rw [hs.out]
              exact ⟨_, rfl, (show At W ([HoldC _ _] ++ [Arg W]) _ from HF.sel 6 [0, 5]).lift H0.out⟩
            | true =>
              have hs := Lib.hid (show takeBS m h = (l7, onM m (m.upto + 1), true) by unfold takeBS; rw [if_neg Hbad.out, if_neg (by simp [hmore, H3.out]), if_neg H3.out, if_neg H3.out, if_pos h5, Hl7.out])
              go_wp2_with (first | ((with_reducible refine k_load ?_); (first | refine st_load rfl _ _ rfl _ _ rfl ?_ HF 1 rfl rfl ?_ | refine st_load rfl _ _ rfl _ _ rfl ?_ HF 2 rfl rfl ?_); (kernel_rfl); (intro K hK; go_simp)))
              apply wp_region_eff [11] (fun i => (#[[], [], [], [], [], [], [], [], [], [], [], [], []] : Array (List Nat)).getD i []) (fun val i => ((_ :: _ :: _ :: _ :: _ :: _ :: _ :: _ :: _ :: _ :: _ :: val 11 :: _ :: []) : List Value).toArray.getD i undef) (fun E val => At W (HoldC v7 l7 :: Blk g8 (.cells #[.int .i64 m.upto, ve, vl] 36 (0, 0)) :: Blk gm (.cells #[.int .i64 m.kind, .bool m.fc, .int .i64 m.fi, .bool m.tc, .int .i64 m.ti, .int .i64 m.op, .int .i64 m.rd, .int .i64 m.kk, .int .i64 m.ka, .int .i64 m.kb, .int .i64 m.kc, .int .i64 m.sn, .int .i64 m.sc, .int .i64 m.hn, .int .i64 m.hc, vb, .int .i64 m.cmd.k, .int .i64 m.cmd.cl, .int .i64 m.cmd.op, .string m.cmd.nm, .int .i64 m.cmd.f1, .int .i64 m.cmd.f2, .int .i64 m.cmd.n1, .int .i64 m.cmd.n2, .int .i64 m.cmd.sz, .int .i64 m.upto, ve, vl, .slice ac m.cmds.length cap, .bool m.more] 39 (0, 0)) :: Blk gh (.cells #[.int .i64 h.sn, .int .i64 h.sc, vd, .int .i64 h.upto, ve2, vl2, vr] 49 (0, 0)) :: Blk g5 (.cells (if E 11 = true then #[.int .i64 21, .bool m.tc, .int .i64 m.ti, .bool m.fc, .int .i64 m.fi, .int .i64 0, .int .i64 0, .int .i64 m.kk, .int .i64 m.ka, .int .i64 m.kb, .int .i64 m.kc, .int .i64 (m.upto + 1), .int .i64 0, .int .i64 0, .int .i64 0, .slice none 0 0, .int .i64 0, .int .i64 0, .int .i64 0, .string ⟨#[]⟩, .int .i64 0, .int .i64 0, .int .i64 0, .int .i64 0, .int .i64 0, .int .i64 0, .slice none 0 0, .slice none 0 0, .slice none 0 0, .bool false] else #[.int .i64 0, .bool false, .int .i64 0, .bool false, .int .i64 0, .int .i64 0, .int .i64 0, .int .i64 0, .int .i64 0, .int .i64 0, .int .i64 0, .int .i64 0, .int .i64 0, .int .i64 0, .int .i64 0, .slice none 0 0, .int .i64 0, .int .i64 0, .int .i64 0, .string ⟨#[]⟩, .int .i64 0, .int .i64 0, .int .i64 0, .int .i64 0, .int .i64 0, .int .i64 0, .slice none 0 0, .slice none 0 0, .slice none 0 0, .bool false]) 39 (0, 0)) :: Arg W :: [])) (by kernel_rfl) (by kernel_rfl) (by kernel_rfl) (by kernel_rfl) (HF)
              case step =>
                iterate 11 (refine ⟨eff_pl rfl (fun _ => by rfl) fun E val hn T ds w K H hk ho hK => ?_, ?_⟩; rotate_left)
                refine ⟨eff_mk rfl (fun _ => by rfl) fun E val hE0 hcl hn T ds w K H hk ho hK => ?_, ?_⟩; rotate_left
                refine ⟨eff_pl rfl (fun _ => by rfl) fun E val hn T ds w K H hk ho hK => ?_, ?_⟩; rotate_left
                exact trivial
                · have o7 := ho 7 (by kernel_rfl); clear ho; simp [know, dstAt, Region.binds] at hk o7; go_simp; exact hK _ H
                · have o2 := ho 2 (by kernel_rfl); clear ho; simp [know, dstAt, Region.binds] at hk o2; go_simp; exact hK _ H
                · clear ho; simp [know, dstAt, Region.binds] at hk
                  (refine op_loadsT (T := 23) (n := 2) rfl hk a23 s23 H 2 rfl rfl rfl ?_; exact hK _ H)
                · have o2 := ho 2 (by kernel_rfl); clear ho; simp [know, dstAt, Region.binds] at hk o2; go_simp; exact hK _ H
                · clear ho; simp [know, dstAt, Region.binds] at hk
                  (refine op_loadsT (T := 23) (n := 2) rfl hk a23 s23 H 2 rfl rfl rfl ?_; exact hK _ H)
                · have o2 := ho 2 (by kernel_rfl); clear ho; simp [know, dstAt, Region.binds] at hk o2; go_simp; exact hK _ H
                · clear ho; simp [know, dstAt, Region.binds] at hk
                  (refine op_loadsT (T := 25) (n := 4) rfl hk a25 s25 H 2 rfl rfl rfl ?_; exact hK _ H)
                · have o9 := ho 9 (by kernel_rfl); clear ho; simp [know, dstAt, Region.binds] at hk o9; go_simp; exact hK _ H
                · clear ho; simp [know, dstAt, Region.binds] at hk; go_simp; exact hK _ H
                · clear ho; simp [know, dstAt, Region.binds] at hk; go_simp; exact hK _ H
                · clear ho; simp [know, dstAt, Region.binds] at hk; go_simp; exact hK _ H
                · have o5 := ho 5 (by kernel_rfl); clear ho; simp [know, dstAt, Region.binds] at hk o5
                  (simp only [hE0, Bool.false_eq_true, if_false] at H); refine op_putT rfl o5 hk.1 ?_ s39 H 4 rfl rfl rfl ?_; (simp [Value.oneCell']); (intro w' H; refine hK _ _ ?_; exact H)
                · clear ho; simp [know, dstAt, Region.binds] at hk; go_simp; exact hK _ H
              case ins =>
                iterate 11 (refine ⟨ins_pl rfl (fun _ _ _ => rfl), ?_⟩)
                refine ⟨ins_mk rfl (fun _ => rfl), ?_⟩
                refine ⟨ins_pl rfl (fun _ _ _ => rfl), ?_⟩
                exact trivial
              case jns =>
                iterate 11 (refine ⟨j_pl (fun _ _ _ => rfl), ?_⟩)
                refine ⟨j_mk rfl, ?_⟩
                refine ⟨j_pl (fun _ _ _ => rfl), ?_⟩
                exact trivial
              case fin =>
                intro E val w9 hE H
                have e11 := hE 11 (by decide)
                simp only [e11, if_true] at H
                clear HF hE e11
                have HF := H
                clear H
                simp [putAll, Act.put]
                go_wp2_with fail
                refine bodyPost_ret (results_three rfl rfl a39 s39 (HF.get 4 rfl) rfl rfl rfl) rfl ?_
                rw [hs.out]
                exact ⟨_, rfl, (show At W ([HoldC _ _] ++ [Arg W]) _ from HF.sel 6 [0, 5]).lift H0.out⟩
        · have HX : At W (HoldC nl [] :: Blk g8 (.cells #[.int .i64 m.upto, ve, vl] 36 (0, 0)) :: Blk gm (.cells #[.int .i64 m.kind, .bool m.fc, .int .i64 m.fi, .bool m.tc, .int .i64 m.ti, .int .i64 m.op, .int .i64 m.rd, .int .i64 m.kk, .int .i64 m.ka, .int .i64 m.kb, .int .i64 m.kc, .int .i64 m.sn, .int .i64 m.sc, .int .i64 m.hn, .int .i64 m.hc, vb, .int .i64 m.cmd.k, .int .i64 m.cmd.cl, .int .i64 m.cmd.op, .string m.cmd.nm, .int .i64 m.cmd.f1, .int .i64 m.cmd.f2, .int .i64 m.cmd.n1, .int .i64 m.cmd.n2, .int .i64 m.cmd.sz, .int .i64 m.upto, ve, vl, .slice ac m.cmds.length cap, .bool m.more] 39 (0, 0)) :: Blk gh (.cells #[.int .i64 h.sn, .int .i64 h.sc, vd, .int .i64 h.upto, ve2, vl2, vr] 49 (0, 0)) :: Blk g5 (.cells #[.int .i64 0, .bool false, .int .i64 0, .bool false, .int .i64 0, .int .i64 0, .int .i64 0, .int .i64 0, .int .i64 0, .int .i64 0, .int .i64 0, .int .i64 0, .int .i64 0, .int .i64 0, .int .i64 0, .slice none 0 0, .int .i64 0, .int .i64 0, .int .i64 0, .string ⟨#[]⟩, .int .i64 0, .int .i64 0, .int .i64 0, .int .i64 0, .int .i64 0, .int .i64 0, .slice none 0 0, .slice none 0 0, .slice none 0 0, .bool false] 39 (0, 0)) :: Arg W :: []) w4 := holdc_nil HF
          clear HF
          have HF := HX
          clear HX
          have hnl := Lib.hid (rfl : nl = nl)
          generalize hl7 : ([] : List Cg) = l7 at *
          have Hl7 := Lib.hid hl7
          clear hl7
          cases hmore : m.more with
          | false =>
            have hs := Lib.hid (show takeBS m h = (l7, mg0, false) by unfold takeBS; rw [if_neg Hbad.out, if_pos (Or.inl hmore), if_neg H3.out, if_neg h5, Hl7.out])
            go_wp2_with (first | ((with_reducible refine k_store (T := 39) ?_); refine st_put rfl _ _ _ rfl _ rfl _ rfl ?_ s39 HF 4 rfl rfl ?_; (simp [Value.oneCell']); (clear HF; intro w HF K hK; simp only [List.set_cons_zero, List.set_cons_succ, Act.eval, Value.cells, Array.getD_eq_getD_getElem?, List.getElem?_toArray, List.getElem?_cons_succ, List.getElem?_cons_zero, Option.getD_some] at HF; go_simp)) | ((with_reducible refine k_load ?_); (first | refine st_load rfl _ _ rfl _ _ rfl ?_ HF 1 rfl rfl ?_ | refine st_load rfl _ _ rfl _ _ rfl ?_ HF 2 rfl rfl ?_); (kernel_rfl); (intro K hK; go_simp)))
            refine bodyPost_ret (results_three rfl rfl a39 s39 (HF.get 4 rfl) rfl rfl rfl) rfl ?_
            rw [hs.out]
            exact ⟨_, rfl, (show At W ([HoldC _ _] ++ [Arg W]) _ from HF.sel 6 [0, 5]).lift H0.out⟩
          | true =>
            have hs := Lib.hid (show takeBS m h = (l7, onM m (m.upto + 1), true) by unfold takeBS; rw [if_neg Hbad.out, if_neg (by simp [hmore, H3.out]), if_neg H3.out, if_neg H3.out, if_neg h5, Hl7.out])
            go_wp2_with (first | ((with_reducible refine k_load ?_); (first | refine st_load rfl _ _ rfl _ _ rfl ?_ HF 1 rfl rfl ?_ | refine st_load rfl _ _ rfl _ _ rfl ?_ HF 2 rfl rfl ?_); (kernel_rfl); (intro K hK; go_simp)))
            apply wp_region_eff [11] (fun i => (#[[], [], [], [], [], [], [], [], [], [], [], [], []] : Array (List Nat)).getD i []) (fun val i => ((_ :: _ :: _ :: _ :: _ :: _ :: _ :: _ :: _ :: _ :: _ :: val 11 :: _ :: []) : List Value).toArray.getD i undef) (fun E val => At W (HoldC nl l7 :: Blk g8 (.cells #[.int .i64 m.upto, ve, vl] 36 (0, 0)) :: Blk gm (.cells #[.int .i64 m.kind, .bool m.fc, .int .i64 m.fi, .bool m.tc, .int .i64 m.ti, .int .i64 m.op, .int .i64 m.rd, .int .i64 m.kk, .int .i64 m.ka, .int .i64 m.kb, .int .i64 m.kc, .int .i64 m.sn, .int .i64 m.sc, .int .i64 m.hn, .int .i64 m.hc, vb, .int .i64 m.cmd.k, .int .i64 m.cmd.cl, .int .i64 m.cmd.op, .string m.cmd.nm, .int .i64 m.cmd.f1, .int .i64 m.cmd.f2, .int .i64 m.cmd.n1, .int .i64 m.cmd.n2, .int .i64 m.cmd.sz, .int .i64 m.upto, ve, vl, .slice ac m.cmds.length cap, .bool m.more] 39 (0, 0)) :: Blk gh (.cells #[.int .i64 h.sn, .int .i64 h.sc, vd, .int .i64 h.upto, ve2, vl2, vr] 49 (0, 0)) :: Blk g5 (.cells (if E 11 = true then #[.int .i64 21, .bool m.tc, .int .i64 m.ti, .bool m.fc, .int .i64 m.fi, .int .i64 0, .int .i64 0, .int .i64 m.kk, .int .i64 m.ka, .int .i64 m.kb, .int .i64 m.kc, .int .i64 (m.upto + 1), .int .i64 0, .int .i64 0, .int .i64 0, .slice none 0 0, .int .i64 0, .int .i64 0, .int .i64 0, .string ⟨#[]⟩, .int .i64 0, .int .i64 0, .int .i64 0, .int .i64 0, .int .i64 0, .int .i64 0, .slice none 0 0, .slice none 0 0, .slice none 0 0, .bool false] else #[.int .i64 0, .bool false, .int .i64 0, .bool false, .int .i64 0, .int .i64 0, .int .i64 0, .int .i64 0, .int .i64 0, .int .i64 0, .int .i64 0, .int .i64 0, .int .i64 0, .int .i64 0, .int .i64 0, .slice none 0 0, .int .i64 0, .int .i64 0, .int .i64 0, .string ⟨#[]⟩, .int .i64 0, .int .i64 0, .int .i64 0, .int .i64 0, .int .i64 0, .int .i64 0, .slice none 0 0, .slice none 0 0, .slice none 0 0, .bool false]) 39 (0, 0)) :: Arg W :: [])) (by kernel_rfl) (by kernel_rfl) (by kernel_rfl) (by kernel_rfl) (HF)
            case step =>
              iterate 11 (refine ⟨eff_pl rfl (fun _ => by rfl) fun E val hn T ds w K H hk ho hK => ?_, ?_⟩; rotate_left)
              refine ⟨eff_mk rfl (fun _ => by rfl) fun E val hE0 hcl hn T ds w K H hk ho hK => ?_, ?_⟩; rotate_left
              refine ⟨eff_pl rfl (fun _ => by rfl) fun E val hn T ds w K H hk ho hK => ?_, ?_⟩; rotate_left
              exact trivial
              · have o7 := ho 7 (by kernel_rfl); clear ho; simp [know, dstAt, Region.binds] at hk o7; go_simp; exact hK _ H
              · have o2 := ho 2 (by kernel_rfl); clear ho; simp [know, dstAt, Region.binds] at hk o2; go_simp; exact hK _ H
              · clear ho; simp [know, dstAt, Region.binds] at hk
                (refine op_loadsT (T := 23) (n := 2) rfl hk a23 s23 H 2 rfl rfl rfl ?_; exact hK _ H)
              · have o2 := ho 2 (by kernel_rfl); clear ho; simp [know, dstAt, Region.binds] at hk o2; go_simp; exact hK _ H
              · clear ho; simp [know, dstAt, Region.binds] at hk
                (refine op_loadsT (T := 23) (n := 2) rfl hk a23 s23 H 2 rfl rfl rfl ?_; exact hK _ H)
              · have o2 := ho 2 (by kernel_rfl); clear ho; simp [know, dstAt, Region.binds] at hk o2; go_simp; exact hK _ H
              · clear ho; simp [know, dstAt, Region.binds] at hk
                (refine op_loadsT (T := 25) (n := 4) rfl hk a25 s25 H 2 rfl rfl rfl ?_; exact hK _ H)
              · have o9 := ho 9 (by kernel_rfl); clear ho; simp [know, dstAt, Region.binds] at hk o9; go_simp; exact hK _ H
              · clear ho; simp [know, dstAt, Region.binds] at hk; go_simp; exact hK _ H
              · clear ho; simp [know, dstAt, Region.binds] at hk; go_simp; exact hK _ H
              · clear ho; simp [know, dstAt, Region.binds] at hk; go_simp; exact hK _ H
              · have o5 := ho 5 (by kernel_rfl); clear ho; simp [know, dstAt, Region.binds] at hk o5
                (simp only [hE0, Bool.false_eq_true, if_false] at H); refine op_putT rfl o5 hk.1 ?_ s39 H 4 rfl rfl rfl ?_; (simp [Value.oneCell']); (intro w' H; refine hK _ _ ?_; exact H)
              · clear ho; simp [know, dstAt, Region.binds] at hk; go_simp; exact hK _ H
            case ins =>
              iterate 11 (refine ⟨ins_pl rfl (fun _ _ _ => rfl), ?_⟩)
              refine ⟨ins_mk rfl (fun _ => rfl), ?_⟩
              refine ⟨ins_pl rfl (fun _ _ _ => rfl), ?_⟩
              exact trivial
            case jns =>
              iterate 11 (refine ⟨j_pl (fun _ _ _ => rfl), ?_⟩)
              refine ⟨j_mk rfl, ?_⟩
              refine ⟨j_pl (fun _ _ _ => rfl), ?_⟩
              exact trivial
            case fin =>
              intro E val w9 hE H
              have e11 := hE 11 (by decide)
              simp only [e11, if_true] at H
              clear HF hE e11
              have HF := H
              clear H
              simp [putAll, Act.put]
              go_wp2_with fail
              refine bodyPost_ret (results_three rfl rfl a39 s39 (HF.get 4 rfl) rfl rfl rfl) rfl ?_
              rw [hs.out]
              exact ⟨_, rfl, (show At W ([HoldC _ _] ++ [Arg W]) _ from HF.sel 6 [0, 5]).lift H0.out⟩
end
end Md
end Go.Proofs.Ytjobojgmadjmfaa
