/-
  MendHaves.
-/
import Derived.Test.YtjobojgmadjmfaaMdSaid
import Derived.ProofKit
namespace Go.Proofs.Ytjobojgmadjmfaa
open Go.Hp Go.RowKit Go.ChangeShapes Go.WideShapes
set_option linter.unusedVariables false
set_option linter.unusedSimpArgs false
set_option maxRecDepth 100000
namespace mendHaves
open Md
namespace Lw
abbrev arg_Msg := @Md.arg_Msg
abbrev arg_RHeld := @Md.arg_RHeld
end Lw
section
variable {W : World}

set_option maxHeartbeats 4000000 in
theorem walk {va vh : Value} {x : Mg × Value × Value × Value × Value} (ha : MsgArg W va x.1 x.2.1 x.2.2.1 x.2.2.2.1 x.2.2.2.2) {y : Hd × Value × Value × Value × Value} (hh : HeldArg W vh y.1 y.2.1 y.2.2.1 y.2.2.2.1 y.2.2.2.2) :
    Calls Try.prog 3 #[va, vh] W fun e w => e = .returned (.bool true) ∧ Below W.heap.size W w := by
  obtain ⟨m, vb, ve, vl, vc⟩ := x
  obtain ⟨h, vd, ve2, vl2, vr⟩ := y
  obtain ⟨rfl, ml, mo, bb, be, bl, bc⟩ := ha
  obtain ⟨rfl, hl, ho, bd, be2, bl2, br⟩ := hh
  dsimp only at ml mo bb be bl bc hl ho bd be2 bl2 br ⊢
  have hsz : h.row.length ≤ 140737488355328 := by omega
  have ML := Lib.hid ml
  have MO := Lib.hid mo
  have HL := Lib.hid hl
  have HO := Lib.hid ho
  have BM := Lib.hid (And.intro bb (And.intro be (And.intro bl bc)))
  have BH := Lib.hid (And.intro bd (And.intro be2 (And.intro bl2 br)))
  have Hsz := Lib.hid hsz
  clear ml mo hl ho bb be bl bc bd be2 bl2 br hsz
  have HF := At.of W
  have o1 := row_one ML.out.b
  have o2 := row_one ML.out.e.1
  have o3 := row_one ML.out.l.1
  have o4 := row_one ML.out.c.1
  have o5 := row_one HL.out.d
  have o6 := row_one HL.out.e.1
  have o7 := row_one HL.out.l.1
  have o8 := row_one HL.out.r.1
  simp only [mgV, hdV]
  go_enter Try.func3, Try.ntmps3
  go_wp2_with (first | ((with_reducible refine k_box (T := 39) ?_); refine st_box rfl _ _ rfl _ rfl HF ?_; (clear HF; intro gm w HF K hK; simp only [Value.cells, Act.eval, Value.cells, Array.getD_eq_getD_getElem?, List.getElem?_toArray, List.getElem?_cons_succ, List.getElem?_cons_zero, Option.getD_some] at HF; go_simp)) | ((with_reducible refine k_box (T := 44) ?_); refine st_box rfl _ _ rfl _ rfl HF ?_; (clear HF; intro gh w HF K hK; simp only [Value.cells, Act.eval, Value.cells, Array.getD_eq_getD_getElem?, List.getElem?_toArray, List.getElem?_cons_succ, List.getElem?_cons_zero, Option.getD_some] at HF; go_simp)))
  refine (known HF).mono ?_
  rintro e w1 ⟨rfl, H1⟩
  replace HF := H1
  clear H1
  go_wp2_with (first | ((with_reducible refine k_load (T := 44) ?_); refine st_row rfl _ _ rfl _ rfl a44 7 s44 HF 0 rfl rfl ?_; (intro K hK; go_simp)) | ((with_reducible refine k_load (T := 44) ?_); refine st_loads rfl _ _ rfl _ _ rfl a44 7 s44 HF 0 rfl ?_ ?_; (simp); (intro K hK; go_simp)))
  refine (may HO.out Hsz.out (HL.out.ext (HF.ext 2 rfl)) BH.out.2.1 BH.out.2.2.1 HF).mono ?_
  rintro e w2 ⟨b, rfl, hb, H1⟩
  replace HF := H1
  clear H1
  cases b with
  | false =>
    clear hb
    go_wp2_with fail
    refine (known HF).mono ?_
    rintro e w3 ⟨rfl, H1⟩
    replace HF := H1
    clear H1
    go_wp2_with fail
    go_ret
    exact ⟨rfl, HF.below 2 rfl⟩
  | true =>
    have Hm := Lib.hid (hb rfl)
    clear hb
    go_wp2_with (first | ((with_reducible refine k_load (T := 44) ?_); refine st_row rfl _ _ rfl _ rfl a44 7 s44 HF 0 rfl rfl ?_; (intro K hK; go_simp)) | ((with_reducible refine k_load (T := 44) ?_); refine st_loads rfl _ _ rfl _ _ rfl a44 7 s44 HF 0 rfl ?_ ?_; (simp); (intro K hK; go_simp)))
    refine (lendH HO.out BH.out.2.2.2 (HL.out.ext (HF.ext 2 rfl)) BH.out.1 BH.out.2.1 BH.out.2.2.1 HF).mono ?_
    rintro e w3 ⟨gd, ge, gl, gr, rfl, H1⟩
    replace HF := H1
    clear H1
    simp only [hdV]
    generalize hlB : lentB h.data = LB at *
    generalize hlE : lentE h.ents = LE at *
    generalize hlL : lentL h.lasts = LL at *
    generalize hlP : lentP (h.row.map Pl.cells) = LP at *
    have HlB := Lib.hid hlB
    have HlE := Lib.hid hlE
    have HlL := Lib.hid hlL
    have HlP := Lib.hid hlP
    clear hlB hlE hlL hlP
    go_wp2_with (first | ((with_reducible refine k_alloc (T := 49) ?_); refine st_alloc rfl _ rfl _ z49 _ rfl HF ?_; (clear HF; intro g5 w HF K hK; simp only [Value.cells] at HF; go_simp)) | ((with_reducible refine k_store (T := 49) ?_); refine st_put rfl _ _ _ rfl _ rfl _ rfl ?_ s49 HF 0 rfl rfl ?_; (simp [Value.oneCell']); (clear HF; intro w HF K hK; simp only [List.set_cons_zero, List.set_cons_succ, Act.eval, Value.cells, Array.getD_eq_getD_getElem?, List.getElem?_toArray, List.getElem?_cons_succ, List.getElem?_cons_zero, Option.getD_some] at HF; go_simp)) | ((with_reducible refine k_load (T := 39) ?_); refine st_row rfl _ _ rfl _ rfl a39 30 s39 HF 6 rfl rfl ?_; (intro K hK; go_simp)) | ((with_reducible refine k_load (T := 39) ?_); refine st_loads rfl _ _ rfl _ _ rfl a39 30 s39 HF 6 rfl ?_ ?_; (simp); (intro K hK; go_simp)))
    refine (lendM (ML.out.ext (HF.ext 7 rfl)) MO.out.ents MO.out.lasts MO.out.cmds BM.out.1 BM.out.2.1 BM.out.2.2.1 BM.out.2.2.2 HF).mono ?_
    rintro e w4 ⟨gb2, ge2, gl2, gc2, rfl, H1⟩
    replace HF := H1
    clear H1
    simp only [mgV]
    generalize hmB : lentB m.blk = MB at *
    generalize hmE : lentE m.ents = ME at *
    generalize hmL : lentL m.lasts = ML2 at *
    generalize hmC : lentC m.cmds = MC at *
    have HmB := Lib.hid hmB
    have HmE := Lib.hid hmE
    have HmL := Lib.hid hmL
    have HmC := Lib.hid hmC
    clear hmB hmE hmL hmC
    go_wp2_with (first | ((with_reducible refine k_alloc (T := 39) ?_); refine st_alloc rfl _ rfl _ z39 _ rfl HF ?_; (clear HF; intro g6 w HF K hK; simp only [Value.cells] at HF; go_simp)) | ((with_reducible refine k_store (T := 39) ?_); refine st_put rfl _ _ _ rfl _ rfl _ rfl ?_ s39 HF 0 rfl rfl ?_; (simp [Value.oneCell']); (clear HF; intro w HF K hK; simp only [List.set_cons_zero, List.set_cons_succ, Act.eval, Value.cells, Array.getD_eq_getD_getElem?, List.getElem?_toArray, List.getElem?_cons_succ, List.getElem?_cons_zero, Option.getD_some] at HF; go_simp)) | ((with_reducible refine k_load (T := 39) ?_); refine st_row rfl _ _ rfl _ rfl a39 30 s39 HF 0 rfl rfl ?_; (intro K hK; go_simp)) | ((with_reducible refine k_load (T := 39) ?_); refine st_row rfl _ _ rfl _ rfl a39 30 s39 HF 5 rfl rfl ?_; (intro K hK; go_simp)) | ((with_reducible refine k_load (T := 39) ?_); refine st_loads rfl _ _ rfl _ _ rfl a39 30 s39 HF 0 rfl ?_ ?_; (simp); (intro K hK; go_simp)) | ((with_reducible refine k_load (T := 39) ?_); refine st_loads rfl _ _ rfl _ _ rfl a39 30 s39 HF 5 rfl ?_ ?_; (simp); (intro K hK; go_simp)) | ((with_reducible refine k_load (T := 49) ?_); refine st_row rfl _ _ rfl _ rfl a49 7 s49 HF 0 rfl rfl ?_; (intro K hK; go_simp)) | ((with_reducible refine k_load (T := 49) ?_); refine st_row rfl _ _ rfl _ rfl a49 7 s49 HF 5 rfl rfl ?_; (intro K hK; go_simp)) | ((with_reducible refine k_load (T := 49) ?_); refine st_loads rfl _ _ rfl _ _ rfl a49 7 s49 HF 0 rfl ?_ ?_; (simp); (intro K hK; go_simp)) | ((with_reducible refine k_load (T := 49) ?_); refine st_loads rfl _ _ rfl _ _ rfl a49 7 s49 HF 5 rfl ?_ ?_; (simp); (intro K hK; go_simp)))
    have HX := HF.sel 10 [6, 7, 8, 9, 0, 1, 2, 3, 4, 5]
    rw [← HlB.out, ← HlE.out, ← HlL.out, ← HlP.out] at HX
    have HdL := Lib.hid (heldL HO.out BH.out.1 BH.out.2.1 BH.out.2.2.1 BH.out.2.2.2 HX)
    clear HX
    refine (have_ (a := m) (h := h) Hm.out HO.out Hsz.out HdL.out BH.out.2.1 BH.out.2.2.1 BH.out.1 HF).mono ?_
    rintro e w5 ⟨vb', ve', vl', vc', rfl, H1⟩
    generalize hM : haveS m h = M at *
    have HM := Lib.hid hM
    have MF := Lib.hid (show M.Fit by rw [← HM.out]; exact have_fit HO.out BH.out.2.1 BH.out.2.2.1)
    clear hM HdL
    replace HF : At W (Hold vb' M.blk.length (bv M.blk) :: Hold ve' M.ents.length M.ents.flatten :: Hold vl' M.lasts.length M.lasts.flatten :: Hold vc' M.cmds.length M.cmds.flatten :: Blk g6 _ :: Blk gb2 _ :: Blk ge2 _ :: Blk gl2 _ :: Blk gc2 _ :: Blk g5 _ :: Blk gd _ :: Blk ge _ :: Blk gl _ :: Blk gr _ :: Blk gh _ :: Blk gm _ :: Arg W :: []) w5 := H1
    clear H1
    have p1 := row_one (hold_at HF)
    have p2 := row_one (hold_at (HF.pick 1 rfl))
    have p3 := row_one (hold_at (HF.pick 2 rfl))
    have p4 := row_one (hold_at (HF.pick 3 rfl))
    simp only [mgV]
    go_wp2_with (first | ((with_reducible refine k_alloc (T := 39) ?_); refine st_alloc rfl _ rfl _ z39 _ rfl HF ?_; (clear HF; intro g7 w HF K hK; simp only [Value.cells] at HF; go_simp)) | ((with_reducible refine k_store (T := 39) ?_); refine st_put rfl _ _ _ rfl _ rfl _ rfl ?_ s39 HF 0 rfl rfl ?_; (repeat' (first | exact List.forall_mem_nil _ | refine List.forall_mem_cons.2 ⟨(by first | rfl | assumption), ?_⟩)); (clear HF; intro w HF K hK; simp only [List.set_cons_zero, List.set_cons_succ, Act.eval, Value.cells, Array.getD_eq_getD_getElem?, List.getElem?_toArray, List.getElem?_cons_succ, List.getElem?_cons_zero, Option.getD_some] at HF; go_simp)) | ((with_reducible refine k_load (T := 39) ?_); refine st_row rfl _ _ rfl _ rfl a39 30 s39 HF 5 rfl rfl ?_; (intro K hK; go_simp)) | ((with_reducible refine k_load (T := 39) ?_); refine st_row rfl _ _ rfl _ rfl a39 30 s39 HF 16 rfl rfl ?_; (intro K hK; go_simp)) | ((with_reducible refine k_load (T := 39) ?_); refine st_loads rfl _ _ rfl _ _ rfl a39 30 s39 HF 5 rfl ?_ ?_; (simp); (intro K hK; go_simp)) | ((with_reducible refine k_load (T := 39) ?_); refine st_loads rfl _ _ rfl _ _ rfl a39 30 s39 HF 16 rfl ?_ ?_; (simp); (intro K hK; go_simp)))
    have HX := HF.sel 10 [6, 7, 8, 9]
    rw [← HmB.out, ← HmE.out, ← HmL.out, ← HmC.out] at HX
    obtain ⟨q1, q2, q3, q4⟩ := msgL MO.out BM.out.1 BM.out.2.1 BM.out.2.2.1 BM.out.2.2.2 HX
    clear HX
    refine (backM q1 q2 q3 q4 (ML.out.ext (HF.ext 17 rfl)) MO.out.ents MO.out.lasts MO.out.cmds BM.out.1 BM.out.2.1 BM.out.2.2.1 BM.out.2.2.2 HF).mono ?_
    rintro e w6 ⟨rfl, H1⟩
    replace HF := H1
    clear H1 q1 q2 q3 q4
    go_wp2_with (first | ((with_reducible refine k_load (T := 49) ?_); refine st_row rfl _ _ rfl _ rfl a49 7 s49 HF 10 rfl rfl ?_; (intro K hK; go_simp)) | ((with_reducible refine k_load (T := 49) ?_); refine st_row rfl _ _ rfl _ rfl a49 7 s49 HF 15 rfl rfl ?_; (intro K hK; go_simp)) | ((with_reducible refine k_load (T := 49) ?_); refine st_loads rfl _ _ rfl _ _ rfl a49 7 s49 HF 10 rfl ?_ ?_; (simp); (intro K hK; go_simp)) | ((with_reducible refine k_load (T := 49) ?_); refine st_loads rfl _ _ rfl _ _ rfl a49 7 s49 HF 15 rfl ?_ ?_; (simp); (intro K hK; go_simp)) | ((with_reducible refine k_load (T := 44) ?_); refine st_row rfl _ _ rfl _ rfl a44 7 s44 HF 10 rfl rfl ?_; (intro K hK; go_simp)) | ((with_reducible refine k_load (T := 44) ?_); refine st_row rfl _ _ rfl _ rfl a44 7 s44 HF 15 rfl rfl ?_; (intro K hK; go_simp)) | ((with_reducible refine k_load (T := 44) ?_); refine st_loads rfl _ _ rfl _ _ rfl a44 7 s44 HF 10 rfl ?_ ?_; (simp); (intro K hK; go_simp)) | ((with_reducible refine k_load (T := 44) ?_); refine st_loads rfl _ _ rfl _ _ rfl a44 7 s44 HF 15 rfl ?_ ?_; (simp); (intro K hK; go_simp)))
    have HX := HF.sel 15 [11, 12, 13, 14, 0, 1, 2, 3, 4, 5, 6, 7, 8, 9, 10]
    rw [← HlB.out, ← HlE.out, ← HlL.out, ← HlP.out] at HX
    refine (backH HO.out BH.out.2.2.2 (HL.out.ext (HF.ext 17 rfl)) BH.out.1 BH.out.2.1 BH.out.2.2.1 HX).mono ?_
    rintro e w7 ⟨rfl, H1⟩
    clear HX HF
    have HF := H1
    clear H1
    go_wp2_with (first | ((with_reducible refine k_load (T := 39) ?_); refine st_row rfl _ _ rfl _ rfl a39 30 s39 HF 5 rfl rfl ?_; (intro K hK; go_simp)) | ((with_reducible refine k_load (T := 39) ?_); refine st_loads rfl _ _ rfl _ _ rfl a39 30 s39 HF 5 rfl ?_ ?_; (simp); (intro K hK; go_simp)))
    have HX := HF.sel 10 [6, 7, 8, 9, 0, 1, 2, 3, 4, 5]
    rw [← HmB.out, ← HmE.out, ← HmL.out, ← HmC.out] at HX
    unfold lentB lentE lentL lentC at HX
    have HlE2 := fillR_len (k := 67) (m := 67) (mk := fun k => mkE ((m.ents.length : Int) + (k : Int))) (z := zE) (flat_len (fun r hr => (MO.out.ents r hr).len)) (fun i => rfl) rfl (Nat.le_refl _)
    have HlL2 := fillR_len (k := 67) (m := 67) (mk := fun k => mkL ((m.lasts.length : Int) + (k : Int))) (z := zL) (flat_len (fun r hr => (MO.out.lasts r hr).len)) (fun i => rfl) rfl (Nat.le_refl _)
    have HlC2 := fillR_len (k := 67) (m := 67) (mk := fun k => mkC ((m.cmds.length : Int) + (k : Int))) (z := zc) (flat_len (fun r hr => (MO.out.cmds r hr).len)) (fun i => rfl) rfl (Nat.le_refl _)
    refine (spoil (m := m) (lentB_len m.blk) (fun j hj => lentB_get hj) HlE2 HlL2 HlC2 BM.out.1 (by have := BM.out.2.1; omega) (by have := BM.out.2.2.1; omega) (by have := BM.out.2.2.2; omega) HX).mono ?_
    rintro e w8 ⟨rfl, H1⟩
    clear HX HF HlE2 HlL2 HlC2
    have HF := H1.sel 9 [0, 1, 2, 3, 4, 7, 8]
    clear H1
    go_wp2_with fail
    apply wp_region_eff [3, 4] (fun i => (#[[], [], [], [], [3], [3, 4]] : Array (List Nat)).getD i []) (fun val i => ((_ :: _ :: _ :: val 3 :: val 4 :: _ :: []) : List Value).toArray.getD i undef) (fun E val => fun w => At W (Blk g7 (.cells #[.int .i64 M.kind, .bool M.fc, .int .i64 M.fi, .bool M.tc, .int .i64 M.ti, .int .i64 M.op, .int .i64 M.rd, .int .i64 M.kk, .int .i64 M.ka, .int .i64 M.kb, .int .i64 M.kc, .int .i64 M.sn, .int .i64 M.sc, .int .i64 M.hn, .int .i64 M.hc, vb', .int .i64 M.cmd.k, .int .i64 M.cmd.cl, .int .i64 M.cmd.op, .string M.cmd.nm, .int .i64 M.cmd.f1, .int .i64 M.cmd.f2, .int .i64 M.cmd.n1, .int .i64 M.cmd.n2, .int .i64 M.cmd.sz, .int .i64 M.upto, ve', vl', vc', .bool M.more] 39 (0, 0)) :: Hold vb' M.blk.length (bv M.blk) :: Hold ve' M.ents.length M.ents.flatten :: Hold vl' M.lasts.length M.lasts.flatten :: Hold vc' M.cmds.length M.cmds.flatten :: Blk gh (.cells #[.int .i64 h.sn, .int .i64 h.sc, vd, .int .i64 h.upto, ve2, vl2, vr] 44 (0, 0)) :: Blk gm (.cells #[.int .i64 m.kind, .bool m.fc, .int .i64 m.fi, .bool m.tc, .int .i64 m.ti, .int .i64 m.op, .int .i64 m.rd, .int .i64 m.kk, .int .i64 m.ka, .int .i64 m.kb, .int .i64 m.kc, .int .i64 m.sn, .int .i64 m.sc, .int .i64 m.hn, .int .i64 m.hc, vb, .int .i64 m.cmd.k, .int .i64 m.cmd.cl, .int .i64 m.cmd.op, .string m.cmd.nm, .int .i64 m.cmd.f1, .int .i64 m.cmd.f2, .int .i64 m.cmd.n1, .int .i64 m.cmd.n2, .int .i64 m.cmd.sz, .int .i64 m.upto, ve, vl, vc, .bool m.more] 39 (0, 0)) :: Arg W :: []) w ∧ (E 3 = true → E 4 = false → ∃ vb3 ve3 vl3 vc3, val 3 = .agg (mgV M vb3 ve3 vl3 vc3) ∧ MgAt w M vb3 ve3 vl3 vc3) ∧ (E 4 = true → val 4 = .bool true)) (by kernel_rfl) (by kernel_rfl) (by kernel_rfl) (by kernel_rfl) (⟨HF, fun h => Bool.noConfusion h, fun h => Bool.noConfusion h⟩)
    case step =>
      refine ⟨eff_pl (i := 0) rfl (fun _ => by rfl) ?_, eff_pl (i := 1) rfl (fun _ => by rfl) ?_, eff_pl (i := 2) rfl (fun _ => by rfl) ?_, eff_mk (i := 3) rfl (fun _ => by rfl) ?_, eff_mk (i := 4) rfl (fun _ => by rfl) ?_, eff_pl (i := 5) rfl (fun _ => by rfl) ?_, trivial⟩
      · (intro E val hn T ds w K H hk ho hK); ((have o7 := ho 7 (by kernel_rfl))); (clear ho; simp [know, dstAt, Region.binds] at hk o7)
        (refine op_rowT (T := 39) rfl o7 a39 s39 H.1 0 rfl rfl ?_; exact hK _ H)
      · (intro E val hn T ds w K H hk ho hK); ((have o2 := ho 2 (by kernel_rfl))); (clear ho; simp [know, dstAt, Region.binds] at hk o2)
        (refine op_rowT (T := 39) rfl o2 a39 s39 H.1 6 rfl rfl ?_; exact hK _ H)
      · (intro E val hn T ds w K H hk ho hK); ((have o3 := ho 3 (by kernel_rfl))); (clear ho; simp [know, dstAt, Region.binds] at hk o3)
        (refine op_rowT (T := 44) rfl o3 a44 s44 H.1 5 rfl rfl ?_; exact hK _ H)
      · (intro E val hE0 hcl hn T ds w K H hk ho hK); (skip); (clear ho; simp [know, dstAt, Region.binds] at hk)
        (have q4 : E 4 = false := (by cases h : E 4 with | false => rfl | true => (have h2 := hcl 4 (by decide) h 3 (by decide); rw [hE0] at h2; cases h2))); go_simp; refine (rhave (a := m) (h := h) Hm.out HO.out Hsz.out (HL.out.ext (H.1.ext 7 rfl)) H.1).mono ?_; rintro e w' ⟨vb3, ve3, vl3, vc3, rfl, hm3, H3⟩; rw [HM.out] at hm3 ⊢; exact hK _ _ ⟨H3, fun _ _ => ⟨_, _, _, _, rfl, hm3⟩, fun h4 => absurd ((show updE E 3 4 = E 4 from rfl).symm.trans h4) (by rw [q4]; exact Bool.false_ne_true)⟩
      · (intro E val hE0 hcl hn T ds w K H hk ho hK); (skip); (clear ho; simp [know, dstAt, Region.binds] at hk)
        (have e3 := hn 3 (by decide)); obtain ⟨vb3, ve3, vl3, vc3, hv3, hm3⟩ := H.2.1 e3 hE0; have p1 := hk.1; have p2 := hk.2.trans hv3; clear hk hv3; go_simp; refine (sameM (m := M) (msgR_at MF.out (H.1.sel 5 [1, 2, 3, 4])) hm3 MF.out.fe MF.out.fl MF.out.fc MF.out.be MF.out.bl MF.out.bc H.1).mono ?_; rintro e w' ⟨rfl, H3⟩; exact hK _ _ ⟨H3, fun _ h4 => Bool.noConfusion h4, fun _ => rfl⟩
      · (intro E val hn T ds w K H hk ho hK); (skip); (clear ho; simp [know, dstAt, Region.binds] at hk)
        (go_simp; exact hK _ H)
    case ins =>
      exact ⟨ins_pl (i := 0) rfl (fun val val' h => rfl), ins_pl (i := 1) rfl (fun val val' h => rfl), ins_pl (i := 2) rfl (fun val val' h => rfl), ins_mk (i := 3) rfl (fun _ => rfl), ins_mk (i := 4) rfl (fun _ => rfl), ins_pl (i := 5) rfl (fun val val' h => by first | rfl | ((have h3 := h 3 (by decide)); (have h4 := h 4 (by decide)); first | (simp only [h3, h4]; done) | (simp only [h3, h4]; rfl))), trivial⟩
    case jns =>
      exact ⟨j_pl (i := 0) (fun _ _ _ => rfl), j_pl (i := 1) (fun _ _ _ => rfl), j_pl (i := 2) (fun _ _ _ => rfl), j_mk (i := 3) rfl, j_mk (i := 4) rfl, j_pl (i := 5) (fun _ _ _ => rfl), trivial⟩
    case fin =>
      intro E val w9 hE H
      have hv4 := H.2.2 (hE 4 (by decide))
      have HFF := H.1
      clear hE H HF
      simp [putAll, Act.put, hv4]
      go_wp2_with fail
      go_ret
      exact ⟨rfl, HFF.below 7 rfl⟩
end

theorem own : ownKnob Try.prog.godebug = none := by kernel_rfl

theorem lifted (os : Os) (started : os.Started) (H : Type) (enc : TypeId × Value → H) :
    ReturnsInHanded {} Try.checked os 3 .any (Rows.mendHavesSpec.pre6 enc Try.prog Try.f3 Rows.mendHavesRow.domain false) (Rows.mendHavesSpec.post enc Try.prog Try.f3 false true false false) := by
  refine frame_true (C := Try.checked) started own (by kernel_rfl) Try.func3
    (ChangeSpec.witness6 (enc := enc) (C := Try.checked) false ⟨#[], #[.agg #[.int .i64 0, .bool false, .int .i64 0, .bool false, .int .i64 0, .int .i64 0, .int .i64 0, .int .i64 0, .int .i64 0, .int .i64 0, .int .i64 0, .int .i64 0, .int .i64 0, .int .i64 0, .int .i64 0, .slice none 0 0, .int .i64 0, .int .i64 0, .int .i64 0, .string ⟨#[]⟩, .int .i64 0, .int .i64 0, .int .i64 0, .int .i64 0, .int .i64 0, .int .i64 0, .slice none 0 0, .slice none 0 0, .slice none 0 0, .bool false], .agg #[.int .i64 0, .int .i64 0, .slice none 0 0, .int .i64 0, .slice none 0 0, .slice none 0 0, .slice none 0 0]], []⟩ 8 (by kernel_rfl) (by kernel_rfl) (by kernel_rfl) (by kernel_rfl)) rfl ?_ (by kernel_rfl) (by kernel_rfl) (by kernel_rfl) Try.underlying4 ?_
  · intro ds hds
    match ds, hds with
    | [_, _], _ => rfl
  · rintro W args ds p ⟨base, hval⟩ hA hwt
    have hp : Try.f3.params.toList = [39, 44] := by rw [Try.params3]
    rw [hp] at hA hwt
    obtain ⟨v0, r0, d0, e0, p0, q0, ha, rfl, rfl, h0, hA⟩ := trodAll_cons hA
    obtain ⟨v1, r1, d1, e1, p1, q1, rfl, rfl, rfl, h1, hA⟩ := trodAll_cons hA
    obtain ⟨rfl, rfl, rfl⟩ := trodAll_nil hA
    have ha2 : args = #[v0, v1] := by cases args; simp_all
    subst ha2
    simp only [DataW.weightsEach, List.all_append, Bool.and_eq_true] at hwt
    obtain ⟨a0, b0⟩ := Lw.arg_Msg (hval 0 _ _ (by rw [Try.params3]; rfl) rfl) h0 hwt.1
    obtain ⟨a1, b1⟩ := Lw.arg_RHeld (hval 1 _ _ (by rw [Try.params3]; rfl) rfl) h1 hwt.2.1
    exact walk b0 b1

theorem over : Rows.mendHavesRow.holds Try.pinned (OpenSpec.ofChange Rows.mendHavesSpec) :=
  OpenClaim.holds_of_wide 3 Try.f3 rfl rfl rfl rfl rfl rfl rfl ⟨rfl, rfl, rfl, rfl, rfl⟩ rfl rfl rfl rfl rfl (by kernel_rfl) Try.func3 (by kernel_rfl)
    (of_decide_eq_true (by kernel_rfl)) (by unfold Func.isWrapper; first | (rw [if_pos (by decide +kernel)]; kernel_rfl) | (rw [if_neg (by decide +kernel)]; exact ⟨rfl, rfl⟩))
    (fun os started H enc _ => lifted os started H enc)

theorem proved : Rows.MendHavesSaid := over
#print axioms proved
end mendHaves
end Go.Proofs.Ytjobojgmadjmfaa
