/-
  MendTakes.
-/
import Derived.Test.YtjobojgmadjmfaaMdSaidT
import Derived.ProofKit
namespace Go.Proofs.Ytjobojgmadjmfaa
open Go.Hp Go.RowKit Go.ChangeShapes Go.WideShapes
set_option linter.unusedVariables false
set_option linter.unusedSimpArgs false
set_option maxRecDepth 100000
namespace mendTakes
open Md
namespace Lw
abbrev arg_Msg := @Md.arg_Msg
abbrev arg_RHeld := @Md.arg_RHeld
end Lw
section
variable {W : World}

set_option maxHeartbeats 4000000 in
theorem walk {va vh : Value} {x : Mg × Value × Value × Value × Value} (ha : MsgArg W va x.1 x.2.1 x.2.2.1 x.2.2.2.1 x.2.2.2.2) {y : Hd × Value × Value × Value × Value} (hh : HeldArg W vh y.1 y.2.1 y.2.2.1 y.2.2.2.1 y.2.2.2.2) :
    Calls Try.prog 4 #[va, vh] W fun e w => e = .returned (.bool true) ∧ Below W.heap.size W w := by
  obtain ⟨m, vb, ve, vl, vc⟩ := x
  obtain ⟨h, vd, ve2, vl2, vr⟩ := y
  obtain ⟨rfl, ml, mo, bb, be, bl, bc⟩ := ha
  obtain ⟨rfl, hl, ho, bd, be2, bl2, br⟩ := hh
  dsimp only at ml mo bb be bl bc hl ho bd be2 bl2 br ⊢
  have hsz : h.row.length ≤ 140737488355328 := by omega
  have ML := Lib.hid ml
  have MO := Lib.hid mo
  have HL := Lib.hid hl
  have HO := Lib.hid ho
  have BM := Lib.hid (And.intro bb (And.intro be (And.intro bl bc)))
  have BH := Lib.hid (And.intro bd (And.intro be2 (And.intro bl2 br)))
  have Hsz := Lib.hid hsz
  clear ml mo hl ho bb be bl bc bd be2 bl2 br hsz
  have HF := At.of W
  have o1 := row_one ML.out.b
  have o2 := row_one ML.out.e.1
  have o3 := row_one ML.out.l.1
  have o4 := row_one ML.out.c.1
  have o5 := row_one HL.out.d
  have o6 := row_one HL.out.e.1
  have o7 := row_one HL.out.l.1
  have o8 := row_one HL.out.r.1
  simp only [mgV, hdV]
  go_enter Try.func4, Try.ntmps4
  go_wp2_with (first | ((with_reducible refine k_box (T := 39) ?_); refine st_box rfl _ _ rfl _ rfl HF ?_; (clear HF; intro gm w HF K hK; simp only [Value.cells, Act.eval, Value.cells, Array.getD_eq_getD_getElem?, List.getElem?_toArray, List.getElem?_cons_succ, List.getElem?_cons_zero, Option.getD_some] at HF; go_simp)) | ((with_reducible refine k_box (T := 44) ?_); refine st_box rfl _ _ rfl _ rfl HF ?_; (clear HF; intro gh w HF K hK; simp only [Value.cells, Act.eval, Value.cells, Array.getD_eq_getD_getElem?, List.getElem?_toArray, List.getElem?_cons_succ, List.getElem?_cons_zero, Option.getD_some] at HF; go_simp)))
  refine (known HF).mono ?_
  rintro e w1 ⟨rfl, H1⟩
  replace HF := H1
  clear H1
  go_wp2_with (first | ((with_reducible refine k_load (T := 44) ?_); refine st_row rfl _ _ rfl _ rfl a44 7 s44 HF 0 rfl rfl ?_; (intro K hK; go_simp)) | ((with_reducible refine k_load (T := 44) ?_); refine st_loads rfl _ _ rfl _ _ rfl a44 7 s44 HF 0 rfl ?_ ?_; (simp); (intro K hK; go_simp)))
  refine (may HO.out Hsz.out (HL.out.ext (HF.ext 2 rfl)) BH.out.2.1 BH.out.2.2.1 HF).mono ?_
  rintro e w2 ⟨b, rfl, hb, H1⟩
  replace HF := H1
  clear H1
  cases b with
  | false =>
    clear hb
    go_wp2_with fail
    refine (known HF).mono ?_
    rintro e w3 ⟨rfl, H1⟩
    replace HF := H1
    clear H1
    go_wp2_with fail
    go_ret
    exact ⟨rfl, HF.below 2 rfl⟩
  | true =>
    have Hm := Lib.hid (hb rfl)
    clear hb
    go_wp2_with (first | ((with_reducible refine k_load (T := 44) ?_); refine st_row rfl _ _ rfl _ rfl a44 7 s44 HF 0 rfl rfl ?_; (intro K hK; go_simp)) | ((with_reducible refine k_load (T := 44) ?_); refine st_loads rfl _ _ rfl _ _ rfl a44 7 s44 HF 0 rfl ?_ ?_; (simp); (intro K hK; go_simp)))
    refine (lendH HO.out BH.out.2.2.2 (HL.out.ext (HF.ext 2 rfl)) BH.out.1 BH.out.2.1 BH.out.2.2.1 HF).mono ?_
    rintro e w3 ⟨gd, ge, gl, gr, rfl, H1⟩
    replace HF := H1
    clear H1
    simp only [hdV]
    generalize hlB : lentB h.data = LB at *
    generalize hlE : lentE h.ents = LE at *
    generalize hlL : lentL h.lasts = LL at *
    generalize hlP : lentP (h.row.map Pl.cells) = LP at *
    have HlB := Lib.hid hlB
    have HlE := Lib.hid hlE
    have HlL := Lib.hid hlL
    have HlP := Lib.hid hlP
    clear hlB hlE hlL hlP
    go_wp2_with (first | ((with_reducible refine k_alloc (T := 49) ?_); refine st_alloc rfl _ rfl _ z49 _ rfl HF ?_; (clear HF; intro g5 w HF K hK; simp only [Value.cells] at HF; go_simp)) | ((with_reducible refine k_store (T := 49) ?_); refine st_put rfl _ _ _ rfl _ rfl _ rfl ?_ s49 HF 0 rfl rfl ?_; (simp [Value.oneCell']); (clear HF; intro w HF K hK; simp only [List.set_cons_zero, List.set_cons_succ, Act.eval, Value.cells, Array.getD_eq_getD_getElem?, List.getElem?_toArray, List.getElem?_cons_succ, List.getElem?_cons_zero, Option.getD_some] at HF; go_simp)) | ((with_reducible refine k_load (T := 39) ?_); refine st_row rfl _ _ rfl _ rfl a39 30 s39 HF 6 rfl rfl ?_; (intro K hK; go_simp)) | ((with_reducible refine k_load (T := 39) ?_); refine st_loads rfl _ _ rfl _ _ rfl a39 30 s39 HF 6 rfl ?_ ?_; (simp); (intro K hK; go_simp)))
    refine (lendM (ML.out.ext (HF.ext 7 rfl)) MO.out.ents MO.out.lasts MO.out.cmds BM.out.1 BM.out.2.1 BM.out.2.2.1 BM.out.2.2.2 HF).mono ?_
    rintro e w4 ⟨gb2, ge2, gl2, gc2, rfl, H1⟩
    replace HF := H1
    clear H1
    simp only [mgV]
    generalize hmB : lentB m.blk = MB at *
    generalize hmE : lentE m.ents = ME at *
    generalize hmL : lentL m.lasts = ML2 at *
    generalize hmC : lentC m.cmds = MC at *
    have HmB := Lib.hid hmB
    have HmE := Lib.hid hmE
    have HmL := Lib.hid hmL
    have HmC := Lib.hid hmC
    clear hmB hmE hmL hmC
    go_wp2_with (first | ((with_reducible refine k_alloc (T := 39) ?_); refine st_alloc rfl _ rfl _ z39 _ rfl HF ?_; (clear HF; intro g6 w HF K hK; simp only [Value.cells] at HF; go_simp)) | ((with_reducible refine k_store (T := 39) ?_); refine st_put rfl _ _ _ rfl _ rfl _ rfl ?_ s39 HF 0 rfl rfl ?_; (simp [Value.oneCell']); (clear HF; intro w HF K hK; simp only [List.set_cons_zero, List.set_cons_succ, Act.eval, Value.cells, Array.getD_eq_getD_getElem?, List.getElem?_toArray, List.getElem?_cons_succ, List.getElem?_cons_zero, Option.getD_some] at HF; go_simp)) | ((with_reducible refine k_load (T := 39) ?_); refine st_row rfl _ _ rfl _ rfl a39 30 s39 HF 0 rfl rfl ?_; (intro K hK; go_simp)) | ((with_reducible refine k_load (T := 39) ?_); refine st_row rfl _ _ rfl _ rfl a39 30 s39 HF 5 rfl rfl ?_; (intro K hK; go_simp)) | ((with_reducible refine k_load (T := 39) ?_); refine st_loads rfl _ _ rfl _ _ rfl a39 30 s39 HF 0 rfl ?_ ?_; (simp); (intro K hK; go_simp)) | ((with_reducible refine k_load (T := 39) ?_); refine st_loads rfl _ _ rfl _ _ rfl a39 30 s39 HF 5 rfl ?_ ?_; (simp); (intro K hK; go_simp)) | ((with_reducible refine k_load (T := 49) ?_); refine st_row rfl _ _ rfl _ rfl a49 7 s49 HF 0 rfl rfl ?_; (intro K hK; go_simp)) | ((with_reducible refine k_load (T := 49) ?_); refine st_row rfl _ _ rfl _ rfl a49 7 s49 HF 5 rfl rfl ?_; (intro K hK; go_simp)) | ((with_reducible refine k_load (T := 49) ?_); refine st_loads rfl _ _ rfl _ _ rfl a49 7 s49 HF 0 rfl ?_ ?_; (simp); (intro K hK; go_simp)) | ((with_reducible refine k_load (T := 49) ?_); refine st_loads rfl _ _ rfl _ _ rfl a49 7 s49 HF 5 rfl ?_ ?_; (simp); (intro K hK; go_simp)))
    have HX := HF.sel 10 [6, 7, 8, 9, 0, 1, 2, 3, 4, 5]
    rw [← HlB.out, ← HlE.out, ← HlL.out, ← HlP.out] at HX
    have HdL := Lib.hid (heldL HO.out BH.out.1 BH.out.2.1 BH.out.2.2.1 BH.out.2.2.2 HX)
    clear HX
    have HX := HF.sel 5 [1, 2, 3, 4]
    rw [← HmB.out, ← HmE.out, ← HmL.out, ← HmC.out] at HX
    obtain ⟨q1, q2, q3, q4⟩ := msgL MO.out BM.out.1 BM.out.2.1 BM.out.2.2.1 BM.out.2.2.2 HX
    have MA : MgAt _ m _ _ _ _ := ⟨q1.1, q2.1, q3.1, q4.1⟩
    clear HX q1 q2 q3 q4
    refine (take (m := m) (h := h) MA MO.out BM.out.2.2.2 BM.out.2.1 BM.out.2.2.1 BM.out.1 Hm.out HO.out Hsz.out HdL.out HF).mono ?_
    clear MA
    rintro e w5 ⟨v1, rfl, H1⟩
    generalize hX : takeS m h = X at *
    have HXS := Lib.hid hX
    have XB := Lib.hid (show Base X.2.1 by rw [← HXS.out]; exact take_base m h)
    have XO := Lib.hid (show ∀ c ∈ X.1, c.Ok by rw [← HXS.out]; exact take_ok MO.out BM.out.2.1 BM.out.2.2.1)
    have XL := Lib.hid (show X.1.length ≤ 140737488355328 by rw [← HXS.out]; exact take_len BM.out.2.2.2)
    clear hX HdL
    replace HF : At W (HoldC v1 X.1 :: Blk g6 _ :: Blk gb2 _ :: Blk ge2 _ :: Blk gl2 _ :: Blk gc2 _ :: Blk g5 _ :: Blk gd _ :: Blk ge _ :: Blk gl _ :: Blk gr _ :: Blk gh _ :: Blk gm _ :: Arg W :: []) w5 := H1
    clear H1
    simp only [mgV]
    go_wp2_with (first | ((with_reducible refine k_alloc (T := 39) ?_); refine st_alloc rfl _ rfl _ z39 _ rfl HF ?_; (clear HF; intro g8 w HF K hK; simp only [Value.cells] at HF; go_simp)) | ((with_reducible refine k_store (T := 39) ?_); refine st_put rfl _ _ _ rfl _ rfl _ rfl ?_ s39 HF 0 rfl rfl ?_; (simp [Value.oneCell']); (clear HF; intro w HF K hK; simp only [List.set_cons_zero, List.set_cons_succ, Act.eval, Value.cells, Array.getD_eq_getD_getElem?, List.getElem?_toArray, List.getElem?_cons_succ, List.getElem?_cons_zero, Option.getD_some] at HF; go_simp)) | ((with_reducible refine k_load (T := 39) ?_); refine st_row rfl _ _ rfl _ rfl a39 30 s39 HF 2 rfl rfl ?_; (intro K hK; go_simp)) | ((with_reducible refine k_load (T := 39) ?_); refine st_row rfl _ _ rfl _ rfl a39 30 s39 HF 13 rfl rfl ?_; (intro K hK; go_simp)) | ((with_reducible refine k_load (T := 39) ?_); refine st_loads rfl _ _ rfl _ _ rfl a39 30 s39 HF 2 rfl ?_ ?_; (simp); (intro K hK; go_simp)) | ((with_reducible refine k_load (T := 39) ?_); refine st_loads rfl _ _ rfl _ _ rfl a39 30 s39 HF 13 rfl ?_ ?_; (simp); (intro K hK; go_simp)))
    have HX := HF.sel 7 [3, 4, 5, 6]
    rw [← HmB.out, ← HmE.out, ← HmL.out, ← HmC.out] at HX
    obtain ⟨q1, q2, q3, q4⟩ := msgL MO.out BM.out.1 BM.out.2.1 BM.out.2.2.1 BM.out.2.2.2 HX
    clear HX
    refine (backM q1 q2 q3 q4 (ML.out.ext (HF.ext 14 rfl)) MO.out.ents MO.out.lasts MO.out.cmds BM.out.1 BM.out.2.1 BM.out.2.2.1 BM.out.2.2.2 HF).mono ?_
    rintro e w6 ⟨rfl, H1⟩
    replace HF := H1
    clear H1 q1 q2 q3 q4
    go_wp2_with (first | ((with_reducible refine k_load (T := 49) ?_); refine st_row rfl _ _ rfl _ rfl a49 7 s49 HF 7 rfl rfl ?_; (intro K hK; go_simp)) | ((with_reducible refine k_load (T := 49) ?_); refine st_row rfl _ _ rfl _ rfl a49 7 s49 HF 12 rfl rfl ?_; (intro K hK; go_simp)) | ((with_reducible refine k_load (T := 49) ?_); refine st_loads rfl _ _ rfl _ _ rfl a49 7 s49 HF 7 rfl ?_ ?_; (simp); (intro K hK; go_simp)) | ((with_reducible refine k_load (T := 49) ?_); refine st_loads rfl _ _ rfl _ _ rfl a49 7 s49 HF 12 rfl ?_ ?_; (simp); (intro K hK; go_simp)) | ((with_reducible refine k_load (T := 44) ?_); refine st_row rfl _ _ rfl _ rfl a44 7 s44 HF 7 rfl rfl ?_; (intro K hK; go_simp)) | ((with_reducible refine k_load (T := 44) ?_); refine st_row rfl _ _ rfl _ rfl a44 7 s44 HF 12 rfl rfl ?_; (intro K hK; go_simp)) | ((with_reducible refine k_load (T := 44) ?_); refine st_loads rfl _ _ rfl _ _ rfl a44 7 s44 HF 7 rfl ?_ ?_; (simp); (intro K hK; go_simp)) | ((with_reducible refine k_load (T := 44) ?_); refine st_loads rfl _ _ rfl _ _ rfl a44 7 s44 HF 12 rfl ?_ ?_; (simp); (intro K hK; go_simp)))
    have HX := HF.sel 12 [8, 9, 10, 11, 0, 1, 2, 3, 4, 5, 6, 7]
    rw [← HlB.out, ← HlE.out, ← HlL.out, ← HlP.out] at HX
    refine (backH HO.out BH.out.2.2.2 (HL.out.ext (HF.ext 14 rfl)) BH.out.1 BH.out.2.1 BH.out.2.2.1 HX).mono ?_
    rintro e w7 ⟨rfl, H1⟩
    clear HX HF
    have HF := H1
    clear H1
    go_wp2_with (first | ((with_reducible refine k_load (T := 39) ?_); refine st_row rfl _ _ rfl _ rfl a39 30 s39 HF 2 rfl rfl ?_; (intro K hK; go_simp)) | ((with_reducible refine k_load (T := 39) ?_); refine st_loads rfl _ _ rfl _ _ rfl a39 30 s39 HF 2 rfl ?_ ?_; (simp); (intro K hK; go_simp)))
    have HX := HF.sel 7 [3, 4, 5, 6, 0, 1, 2]
    rw [← HmB.out, ← HmE.out, ← HmL.out, ← HmC.out] at HX
    unfold lentB lentE lentL lentC at HX
    have HlE2 := fillR_len (k := 67) (m := 67) (mk := fun k => mkE ((m.ents.length : Int) + (k : Int))) (z := zE) (flat_len (fun r hr => (MO.out.ents r hr).len)) (fun i => rfl) rfl (Nat.le_refl _)
    have HlL2 := fillR_len (k := 67) (m := 67) (mk := fun k => mkL ((m.lasts.length : Int) + (k : Int))) (z := zL) (flat_len (fun r hr => (MO.out.lasts r hr).len)) (fun i => rfl) rfl (Nat.le_refl _)
    have HlC2 := fillR_len (k := 67) (m := 67) (mk := fun k => mkC ((m.cmds.length : Int) + (k : Int))) (z := zc) (flat_len (fun r hr => (MO.out.cmds r hr).len)) (fun i => rfl) rfl (Nat.le_refl _)
    refine (spoil (m := m) (lentB_len m.blk) (fun j hj => lentB_get hj) HlE2 HlL2 HlC2 BM.out.1 (by have := BM.out.2.1; omega) (by have := BM.out.2.2.1; omega) (by have := BM.out.2.2.2; omega) HX).mono ?_
    rintro e w8 ⟨rfl, H1⟩
    clear HX HF HlE2 HlL2 HlC2
    have HF := H1.sel 4 [0, 1]
    clear H1
    go_wp2_with (first | ((with_reducible refine k_load (T := 39) ?_); refine st_row rfl _ _ rfl _ rfl a39 30 s39 HF 2 rfl rfl ?_; (intro K hK; go_simp)) | ((with_reducible refine k_load (T := 39) ?_); refine st_row rfl _ _ rfl _ rfl a39 30 s39 HF 3 rfl rfl ?_; (intro K hK; go_simp)) | ((with_reducible refine k_load (T := 39) ?_); refine st_loads rfl _ _ rfl _ _ rfl a39 30 s39 HF 2 rfl ?_ ?_; (simp); (intro K hK; go_simp)) | ((with_reducible refine k_load (T := 39) ?_); refine st_loads rfl _ _ rfl _ _ rfl a39 30 s39 HF 3 rfl ?_ ?_; (simp); (intro K hK; go_simp)) | ((with_reducible refine k_load (T := 44) ?_); refine st_row rfl _ _ rfl _ rfl a44 7 s44 HF 2 rfl rfl ?_; (intro K hK; go_simp)) | ((with_reducible refine k_load (T := 44) ?_); refine st_row rfl _ _ rfl _ rfl a44 7 s44 HF 3 rfl rfl ?_; (intro K hK; go_simp)) | ((with_reducible refine k_load (T := 44) ?_); refine st_loads rfl _ _ rfl _ _ rfl a44 7 s44 HF 2 rfl ?_ ?_; (simp); (intro K hK; go_simp)) | ((with_reducible refine k_load (T := 44) ?_); refine st_loads rfl _ _ rfl _ _ rfl a44 7 s44 HF 3 rfl ?_ ?_; (simp); (intro K hK; go_simp)))
    refine (rtake (m := m) (h := h) (ML.out.ext (HF.ext 4 rfl)) MO.out BM.out.2.2.2 Hm.out HO.out Hsz.out (HL.out.ext (HF.ext 4 rfl)) HF).mono ?_
    rintro e w9 ⟨v2, rfl, hc2, H9⟩
    rw [HXS.out] at hc2 ⊢
    clear HF
    obtain ⟨W9, rfl⟩ : ∃ W9 : World, W9 = w9 := ⟨_, rfl⟩
    have C1 := Lib.hid (holdc_at (H9.pick 1 rfl))
    have C2 := Lib.hid hc2
    have F8 := Lib.hid (cells_of (c := [.int .i64 X.2.1.kind, .bool X.2.1.fc, .int .i64 X.2.1.fi, .bool X.2.1.tc, .int .i64 X.2.1.ti, .int .i64 X.2.1.op, .int .i64 X.2.1.rd, .int .i64 X.2.1.kk, .int .i64 X.2.1.ka, .int .i64 X.2.1.kb, .int .i64 X.2.1.kc, .int .i64 X.2.1.sn, .int .i64 X.2.1.sc, .int .i64 X.2.1.hn, .int .i64 X.2.1.hc, nl, .int .i64 X.2.1.cmd.k, .int .i64 X.2.1.cmd.cl, .int .i64 X.2.1.cmd.op, .string X.2.1.cmd.nm, .int .i64 X.2.1.cmd.f1, .int .i64 X.2.1.cmd.f2, .int .i64 X.2.1.cmd.n1, .int .i64 X.2.1.cmd.n2, .int .i64 X.2.1.cmd.sz, .int .i64 X.2.1.upto, nl, nl, nl, .bool X.2.1.more]) (H9.get 0 rfl))
    have HH9 := Lib.hid H9
    clear hc2 H9
    have HF := At.of W9
    have hbb : (X.2.2 == X.2.2) = true := by simp
    simp only [mgV]
    go_wp2_with (first | ((with_reducible refine k_alloc (T := 39) ?_); refine st_alloc rfl _ rfl _ z39 _ rfl HF ?_; (clear HF; intro g11 w HF K hK; simp only [Value.cells] at HF; go_simp)) | ((with_reducible refine k_store (T := 39) ?_); refine st_put rfl _ _ _ rfl _ rfl _ rfl ?_ s39 HF 0 rfl rfl ?_; (simp [Value.oneCell']); (clear HF; intro w HF K hK; simp only [List.set_cons_zero, List.set_cons_succ, Act.eval, Value.cells, Array.getD_eq_getD_getElem?, List.getElem?_toArray, List.getElem?_cons_succ, List.getElem?_cons_zero, Option.getD_some] at HF; go_simp)))
    refine (sameC (C1.out.ext (HF.ext 1 rfl)) (C2.out.ext (HF.ext 1 rfl)) XO.out XL.out HF).mono ?_
    rintro e w10 ⟨rfl, H1⟩
    replace HF := H1
    clear H1
    go_wp2_with (first | ((with_reducible refine k_load (T := 39) ?_); refine st_row rfl _ _ rfl _ rfl a39 30 s39 HF 0 rfl rfl ?_; (intro K hK; go_simp)) | ((with_reducible refine k_load (T := 39) ?_); refine st_loads rfl _ _ rfl _ _ rfl a39 30 s39 HF 0 rfl ?_ ?_; (simp); (intro K hK; go_simp)) | ((with_reducible refine k_load (T := 39) ?_); refine st_loadCells rfl _ _ rfl _ rfl a39 [.int .i64 X.2.1.kind, .bool X.2.1.fc, .int .i64 X.2.1.fi, .bool X.2.1.tc, .int .i64 X.2.1.ti, .int .i64 X.2.1.op, .int .i64 X.2.1.rd, .int .i64 X.2.1.kk, .int .i64 X.2.1.ka, .int .i64 X.2.1.kb, .int .i64 X.2.1.kc, .int .i64 X.2.1.sn, .int .i64 X.2.1.sc, .int .i64 X.2.1.hn, .int .i64 X.2.1.hc, nl, .int .i64 X.2.1.cmd.k, .int .i64 X.2.1.cmd.cl, .int .i64 X.2.1.cmd.op, .string X.2.1.cmd.nm, .int .i64 X.2.1.cmd.f1, .int .i64 X.2.1.cmd.f2, .int .i64 X.2.1.cmd.n1, .int .i64 X.2.1.cmd.n2, .int .i64 X.2.1.cmd.sz, .int .i64 X.2.1.upto, nl, nl, nl, .bool X.2.1.more] s39 (fun j u hj => (HF.ext 1 rfl).cell (F8.out j u hj)) ?_; (intro K hK; go_simp)))
    have fb := fit_base XB.out
    refine (sameM (m := X.2.1) (at_base XB.out) (at_base XB.out) fb.fe fb.fl fb.fc fb.be fb.bl fb.bc HF).mono ?_
    rintro e w11 ⟨rfl, H1⟩
    replace HF := H1
    clear H1
    go_wp2_with fail
    go_ret
    exact ⟨rfl, ((HF.sel 2 [1]).lift0 HH9.out).below 4 rfl⟩
end

theorem own : ownKnob Try.prog.godebug = none := by kernel_rfl

theorem lifted (os : Os) (started : os.Started) (H : Type) (enc : TypeId × Value → H) :
    ReturnsInHanded {} Try.checked os 4 .any (Rows.mendTakesSpec.pre6 enc Try.prog Try.f4 Rows.mendTakesRow.domain false) (Rows.mendTakesSpec.post enc Try.prog Try.f4 false true false false) := by
  refine frame_true (C := Try.checked) started own (by kernel_rfl) Try.func4
    (ChangeSpec.witness6 (enc := enc) (C := Try.checked) false ⟨#[], #[.agg #[.int .i64 0, .bool false, .int .i64 0, .bool false, .int .i64 0, .int .i64 0, .int .i64 0, .int .i64 0, .int .i64 0, .int .i64 0, .int .i64 0, .int .i64 0, .int .i64 0, .int .i64 0, .int .i64 0, .slice none 0 0, .int .i64 0, .int .i64 0, .int .i64 0, .string ⟨#[]⟩, .int .i64 0, .int .i64 0, .int .i64 0, .int .i64 0, .int .i64 0, .int .i64 0, .slice none 0 0, .slice none 0 0, .slice none 0 0, .bool false], .agg #[.int .i64 0, .int .i64 0, .slice none 0 0, .int .i64 0, .slice none 0 0, .slice none 0 0, .slice none 0 0]], []⟩ 8 (by kernel_rfl) (by kernel_rfl) (by kernel_rfl) (by kernel_rfl)) rfl ?_ (by kernel_rfl) (by kernel_rfl) (by kernel_rfl) Try.underlying4 ?_
  · intro ds hds
    match ds, hds with
    | [_, _], _ => rfl
  · rintro W args ds p ⟨base, hval⟩ hA hwt
    have hp : Try.f4.params.toList = [39, 44] := by rw [Try.params4]
    rw [hp] at hA hwt
    obtain ⟨v0, r0, d0, e0, p0, q0, ha, rfl, rfl, h0, hA⟩ := trodAll_cons hA
    obtain ⟨v1, r1, d1, e1, p1, q1, rfl, rfl, rfl, h1, hA⟩ := trodAll_cons hA
    obtain ⟨rfl, rfl, rfl⟩ := trodAll_nil hA
    have ha2 : args = #[v0, v1] := by cases args; simp_all
    subst ha2
    simp only [DataW.weightsEach, List.all_append, Bool.and_eq_true] at hwt
    obtain ⟨a0, b0⟩ := Lw.arg_Msg (hval 0 _ _ (by rw [Try.params4]; rfl) rfl) h0 hwt.1
    obtain ⟨a1, b1⟩ := Lw.arg_RHeld (hval 1 _ _ (by rw [Try.params4]; rfl) rfl) h1 hwt.2.1
    exact walk b0 b1

theorem over : Rows.mendTakesRow.holds Try.pinned (OpenSpec.ofChange Rows.mendTakesSpec) :=
  OpenClaim.holds_of_wide 4 Try.f4 rfl rfl rfl rfl rfl rfl rfl ⟨rfl, rfl, rfl, rfl, rfl⟩ rfl rfl rfl rfl rfl (by kernel_rfl) Try.func4 (by kernel_rfl)
    (of_decide_eq_true (by kernel_rfl)) (by unfold Func.isWrapper; first | (rw [if_pos (by decide +kernel)]; kernel_rfl) | (rw [if_neg (by decide +kernel)]; exact ⟨rfl, rfl⟩))
    (fun os started H enc _ => lifted os started H enc)

theorem proved : Rows.MendTakesSaid := over
#print axioms proved
end mendTakes
end Go.Proofs.Ytjobojgmadjmfaa
