/-
  MendRow.
-/
import Derived.Test.YtjobojgmadjmfaaMdRowL
import Derived.ProofKit
namespace Go.Proofs.Ytjobojgmadjmfaa
open Go.Hp Go.RowKit Go.ChangeShapes Go.WideShapes
set_option linter.unusedVariables false
set_option linter.unusedSimpArgs false
set_option maxRecDepth 100000
namespace mendRow
open Md
namespace Lw
abbrev arg_Key := @Md.arg_Key
abbrev arg_RHeld := @Md.arg_RHeld
end Lw
abbrev hB (v : Value) (M : Mg) := Hold v M.blk.length (bv M.blk)
abbrev hE (v : Value) (M : Mg) := Hold v M.ents.length M.ents.flatten
abbrev hL (v : Value) (M : Mg) := Hold v M.lasts.length M.lasts.flatten
abbrev hC (v : Value) (M : Mg) := Hold v M.cmds.length M.cmds.flatten
abbrev bM (g : Nat) (M : Mg) (a b c d : Value) := Blk g (.cells (mgV M a b c d) 39 (0, 0))
abbrev bH (g : Nat) (M : Hd) (a b c d : Value) := Blk g (.cells (hdV M a b c d) 44 (0, 0))
abbrev z30 : Array Value := #[.int .i64 0, .bool false, .int .i64 0, .bool false, .int .i64 0, .int .i64 0, .int .i64 0, .int .i64 0, .int .i64 0, .int .i64 0, .int .i64 0, .int .i64 0, .int .i64 0, .int .i64 0, .int .i64 0, .slice none 0 0, .int .i64 0, .int .i64 0, .int .i64 0, .string ⟨#[]⟩, .int .i64 0, .int .i64 0, .int .i64 0, .int .i64 0, .int .i64 0, .int .i64 0, .slice none 0 0, .slice none 0 0, .slice none 0 0, .bool false]
section
variable {W : World}

set_option maxHeartbeats 8000000 in
theorem walk {vk va vb : Value} {x : Int × Int × Int × Int} (hk : vk = .agg #[.int .i64 x.1, .int .i64 x.2.1, .int .i64 x.2.2.1, .int .i64 x.2.2.2] ∧ In64 x.1 ∧ In64 x.2.1 ∧ In64 x.2.2.1 ∧ In64 x.2.2.2) {y : Hd × Value × Value × Value × Value} (ha : HeldArg W va y.1 y.2.1 y.2.2.1 y.2.2.2.1 y.2.2.2.2) {z : Hd × Value × Value × Value × Value} (hb : HeldArg W vb z.1 z.2.1 z.2.2.1 z.2.2.2.1 z.2.2.2.2) :
    Calls Try.prog 5 #[vk, va, vb] W fun e w => e = .returned (.bool true) ∧ Below W.heap.size W w := by
  obtain ⟨kk, ka, kb, kc⟩ := x
  obtain ⟨a, vd, ve, vl, vr⟩ := y
  obtain ⟨b, vd2, ve2, vl2, vr2⟩ := z
  obtain ⟨rfl, k1, k2, k3, k4⟩ := hk
  have HK := Lib.hid (And.intro k1 (And.intro k2 (And.intro k3 k4)))
  clear k1 k2 k3 k4
  obtain ⟨rfl, al, ao, ad1, ad2, ad3, ad4⟩ := ha
  obtain ⟨rfl, bl, bo, bd1, bd2, bd3, bd4⟩ := hb
  dsimp only at al ao ad1 ad2 ad3 ad4 bl bo bd1 bd2 bd3 bd4 ⊢
  have AL := Lib.hid al
  have AO := Lib.hid ao
  have AS := Lib.hid (⟨ad1, ad2, ad3, ad4⟩ : a.Sz)
  have BL := Lib.hid bl
  have BO := Lib.hid bo
  have BS := Lib.hid (⟨bd1, bd2, bd3, bd4⟩ : b.Sz)
  have An := Lib.hid (show a.row.length ≤ 140737488355328 by omega)
  have Bn := Lib.hid (show b.row.length ≤ 140737488355328 by omega)
  clear al ao bl bo ad1 ad2 ad3 ad4 bd1 bd2 bd3 bd4
  have HF := At.of W
  simp only [hdV]
  have tok : True := trivial
  go_enter Try.func5, Try.ntmps5
  go_wp2_with (first | ((with_reducible refine k_box (T := 25) ?_); refine st_box rfl _ _ rfl _ rfl HF ?_; (clear HF; intro g3 w HF K hK; simp only [Value.cells, Act.eval, Value.cells, Array.getD_eq_getD_getElem?, List.getElem?_toArray, List.getElem?_cons_succ, List.getElem?_cons_zero, Option.getD_some] at HF; go_simp)) | ((with_reducible refine k_box (T := 44) ?_); (have _t := tok); refine st_box rfl _ _ rfl _ rfl HF ?_; (clear HF tok _t; intro g4 w HF K hK; simp only [Value.cells, Act.eval, Value.cells, Array.getD_eq_getD_getElem?, List.getElem?_toArray, List.getElem?_cons_succ, List.getElem?_cons_zero, Option.getD_some] at HF; go_simp)) | ((with_reducible refine k_box (T := 44) ?_); refine st_box rfl _ _ rfl _ rfl HF ?_; (clear HF; intro g5 w HF K hK; simp only [Value.cells, Act.eval, Value.cells, Array.getD_eq_getD_getElem?, List.getElem?_toArray, List.getElem?_cons_succ, List.getElem?_cons_zero, Option.getD_some] at HF; go_simp)))
  refine (known HF).mono ?_
  rintro e w1 ⟨rfl, H1⟩
  replace HF := H1
  clear H1
  go_wp2_with (first | ((with_reducible refine k_load (T := 44) ?_); refine st_row rfl _ _ rfl _ rfl a44 7 s44 HF 1 rfl rfl ?_; (intro K hK; go_simp)) | ((with_reducible refine k_load (T := 44) ?_); refine st_loads rfl _ _ rfl _ _ rfl a44 7 s44 HF 1 rfl ?_ ?_; (simp); (intro K hK; go_simp)))
  refine (may AO.out An.out (AL.out.ext (HF.ext 3 rfl)) AS.out.be AS.out.bl HF).mono ?_
  rintro e w2 ⟨b1, rfl, hb1, H1⟩
  replace HF := H1
  clear H1
  cases b1 with
  | false =>
    clear hb1
    go_wp2_with fail
    refine (known HF).mono ?_
    rintro e w9 ⟨rfl, H1⟩
    replace HF := H1
    clear H1
    go_wp2_with fail
    go_ret
    exact ⟨rfl, HF.below 3 rfl⟩
  | true =>
    have Am := Lib.hid (hb1 rfl)
    clear hb1
    go_wp2_with (first | ((with_reducible refine k_load (T := 44) ?_); refine st_row rfl _ _ rfl _ rfl a44 7 s44 HF 0 rfl rfl ?_; (intro K hK; go_simp)) | ((with_reducible refine k_load (T := 44) ?_); refine st_loads rfl _ _ rfl _ _ rfl a44 7 s44 HF 0 rfl ?_ ?_; (simp); (intro K hK; go_simp)))
    refine (may BO.out Bn.out (BL.out.ext (HF.ext 3 rfl)) BS.out.be BS.out.bl HF).mono ?_
    rintro e w3 ⟨b2, rfl, hb2, H1⟩
    replace HF := H1
    clear H1
    cases b2 with
    | false =>
      clear hb2
      go_wp2_with fail
      refine (known HF).mono ?_
      rintro e w9 ⟨rfl, H1⟩
      replace HF := H1
      clear H1
      go_wp2_with fail
      go_ret
      exact ⟨rfl, HF.below 3 rfl⟩
    | true =>
      have Bm := Lib.hid (hb2 rfl)
      clear hb2
      generalize hA : askS 1 2 kk ka kb kc a = A at *
      have HA := Lib.hid hA
      have RA := Lib.hid (show RndAsk b 0 A by rw [← HA.out]; exact rnd_ask kk ka kb kc)
      have OA := Lib.hid (show A.Ok by rw [← HA.out]; exact ask_okM Am.out HK.out.1 HK.out.2.1 HK.out.2.2.1 HK.out.2.2.2)
      clear hA
      go_wp2_with fail
      apply wp_region_eff [2, 4, 5] (fun i => (#[[], [], [], [2], [], [2, 4]] : Array (List Nat)).getD i []) (fun val i => ((_ :: _ :: val 2 :: _ :: val 4 :: val 5 :: []) : List Value).toArray.getD i undef) (fun E val => At W ((if E 2 = true then LhR a (val 2) else emp) :: (if E 4 = true then PtrBlk (val 4) (.cells (if E 5 = true then mgV A nl nl nl nl else z30) 39 (0, 0)) else emp) :: bH g5 b vd2 ve2 vl2 vr2 :: bH g4 a vd ve vl vr :: Blk g3 (.cells #[.int .i64 kk, .int .i64 ka, .int .i64 kb, .int .i64 kc] 25 (0, 0)) :: Arg W :: [])) (by kernel_rfl) (by kernel_rfl) (by kernel_rfl) (by kernel_rfl) (HF.addEmp.addEmp)
      case step =>
        iterate 2 (refine ⟨eff_pl rfl (fun _ => by rfl) fun E val hn T ds w K H hk ho hK => ?_, ?_⟩; rotate_left)
        refine ⟨eff_mk rfl (fun _ => by rfl) fun E val hE0 hcl hn T ds w K H hk ho hK => ?_, ?_⟩; rotate_left
        refine ⟨eff_pl rfl (fun _ => by rfl) fun E val hn T ds w K H hk ho hK => ?_, ?_⟩; rotate_left
        iterate 2 (refine ⟨eff_mk rfl (fun _ => by rfl) fun E val hE0 hcl hn T ds w K H hk ho hK => ?_, ?_⟩; rotate_left)
        exact trivial
        · have o3 := ho 3 (by kernel_rfl); clear ho; simp [know, dstAt, Region.binds] at hk o3
          (refine op_rowT (T := 25) rfl o3 a25 s25 H 4 rfl rfl ?_; exact hK _ H)
        · have o4 := ho 4 (by kernel_rfl); clear ho; simp [know, dstAt, Region.binds] at hk o4
          (refine op_rowT (T := 44) rfl o4 a44 s44 H 3 rfl rfl ?_; exact hK _ H)
        · clear ho; simp [know, dstAt, Region.binds] at hk
          (simp only [hE0, Bool.false_eq_true, if_false] at H); go_simp; refine (lendH AO.out AS.out.br (AL.out.ext (H.ext 5 rfl)) AS.out.bd AS.out.be AS.out.bl H.drop).mono ?_; rintro e w' ⟨gd, ge, gl, gr, rfl, H⟩; refine hK _ _ ?_; have t2 : updE E 2 2 = true := rfl; simp only [t2, if_true]; exact lhr_mk H
        · clear ho; simp [know, dstAt, Region.binds] at hk
          (have e2 := hn 2 (by decide); simp only [e2, if_true] at H; obtain ⟨vd', ve', vl', vr', hv2, hd2⟩ := lhr_open AO.out AS.out H; have p1 := hk.1; have p2 := hk.2.trans hv2; clear hk hv2; go_simp; refine (Md.ask Am.out AO.out An.out hd2.r 1 2 kk ka kb kc H).mono ?_; rintro e w' ⟨rfl, _, H⟩; rw [HA.out]; exact hK _ (by simp only [e2, if_true]; exact H))
        · clear ho; simp [know, dstAt, Region.binds] at hk
          (have q5 : E 5 = false := (by cases h : E 5 with | false => rfl | true => (have h2 := hcl 5 (by decide) h 4 (by decide); rw [hE0] at h2; cases h2))); (simp only [hE0, Bool.false_eq_true, if_false] at H); refine op_allocT rfl z39 rfl (H.sel 2 [0]) ?_; (intro x w' H; refine hK _ _ ?_; have t4 : updE E 4 4 = true := rfl; have t5 : updE E 4 5 = false := q5; simp only [t4, t5, Bool.false_eq_true, if_true, if_false]; exact H.sel 2 [1, 0])
        · clear ho; simp [know, dstAt, Region.binds] at hk
          (have e4 := hn 4 (by decide)); (simp only [hE0, e4, Bool.false_eq_true, if_true, if_false] at H); (obtain ⟨g, hv4, HS⟩ := ptr_ex (H.pick 1 rfl)); refine op_putT rfl (hk.1.trans hv4) hk.2.1 ?_ s39 HS 0 rfl rfl rfl ?_; (simp [mgV, nl, Value.oneCell']); (intro w' H; refine hK _ _ ?_; have t4 : updE E 5 4 = true := e4; have t5 : updE E 5 5 = true := rfl; simp only [t4, t5, if_true]; exact (At.imp H fun _ hh => (⟨g, hv4, hh⟩ : PtrBlk (val 4) _ _)).sel 2 [1, 0])
      case ins =>
        iterate 2 (refine ⟨ins_pl rfl (fun _ _ _ => rfl), ?_⟩)
        refine ⟨ins_mk rfl (fun _ => rfl), ?_⟩
        refine ⟨ins_pl rfl (fun val val' h => by first | rfl | ((have h2 := h 2 (by decide)); first | (simp only [h2]; done) | (simp only [h2]; rfl))), ?_⟩
        iterate 2 (refine ⟨ins_mk rfl (fun _ => rfl), ?_⟩)
        exact trivial
      case jns =>
        iterate 2 (refine ⟨j_pl (fun _ _ _ => rfl), ?_⟩)
        refine ⟨j_mk rfl, ?_⟩
        refine ⟨j_pl (fun _ _ _ => rfl), ?_⟩
        iterate 2 (refine ⟨j_mk rfl, ?_⟩)
        exact trivial
      case fin =>
        intro E val w5 hE H
        have e2 := hE 2 (by decide)
        have e4 := hE 4 (by decide)
        have e5 := hE 5 (by decide)
        simp only [e2, e4, e5, if_true] at H
        clear hE e2 e4 e5 HF
        obtain ⟨g7, hv4, HX⟩ := ptr_ex (H.pick 1 rfl)
        have HF : At W (bM g7 A nl nl nl nl :: bH g5 b vd2 ve2 vl2 vr2 :: bH g4 a vd ve vl vr :: Blk g3 (.cells #[.int .i64 kk, .int .i64 ka, .int .i64 kb, .int .i64 kc] 25 (0, 0)) :: Arg W :: []) w5 := HX.sel 2 [0]
        clear HX H
        simp [putAll, Act.put, hv4]
        clear hv4
        go_wp2_with fail
        have FA := fit_base RA.out.1
        apply wp_region_eff [] (fun i => (#[[], [], [], [], [], []] : Array (List Nat)).getD i []) (fun val i => ((_ :: _ :: _ :: _ :: _ :: _ :: []) : List Value).toArray.getD i undef) (fun E val => At W (bM g7 A nl nl nl nl :: bH g5 b vd2 ve2 vl2 vr2 :: bH g4 a vd ve vl vr :: Blk g3 (.cells #[.int .i64 kk, .int .i64 ka, .int .i64 kb, .int .i64 kc] 25 (0, 0)) :: Arg W :: [])) (by kernel_rfl) (by kernel_rfl) (by kernel_rfl) (by kernel_rfl) (HF)
        case step =>
          iterate 6 (refine ⟨eff_pl rfl (fun _ => by rfl) fun E val hn T ds w K H hk ho hK => ?_, ?_⟩; rotate_left)
          exact trivial
          · have o7 := ho 7 (by kernel_rfl); clear ho; simp [know, dstAt, Region.binds] at hk o7
            (refine op_rowT (T := 39) rfl o7 a39 s39 H 0 rfl rfl ?_; exact hK _ H)
          · have o3 := ho 3 (by kernel_rfl); clear ho; simp [know, dstAt, Region.binds] at hk o3
            (refine op_rowT (T := 25) rfl o3 a25 s25 H 3 rfl rfl ?_; exact hK _ H)
          · have o4 := ho 4 (by kernel_rfl); clear ho; simp [know, dstAt, Region.binds] at hk o4
            (refine op_rowT (T := 44) rfl o4 a44 s44 H 2 rfl rfl ?_; exact hK _ H)
          · clear ho; simp [know, dstAt, Region.binds] at hk
            first | (go_simp; refine (rask Am.out AO.out An.out (AL.out.r.ext (H.ext 4 rfl)) 1 2 kk ka kb kc H).mono ?_; rintro e w' ⟨rfl, H⟩; rw [HA.out]; exact hK _ H) | (go_simp; refine (sameM (m := A) (at_base RA.out.1) (at_base RA.out.1) FA.fe FA.fl FA.fc FA.be FA.bl FA.bc H).mono ?_; rintro e w' ⟨rfl, H⟩; exact hK _ H) | (go_simp; exact hK _ H)
          · clear ho; simp [know, dstAt, Region.binds] at hk
            first | (go_simp; refine (rask Am.out AO.out An.out (AL.out.r.ext (H.ext 4 rfl)) 1 2 kk ka kb kc H).mono ?_; rintro e w' ⟨rfl, H⟩; rw [HA.out]; exact hK _ H) | (go_simp; refine (sameM (m := A) (at_base RA.out.1) (at_base RA.out.1) FA.fe FA.fl FA.fc FA.be FA.bl FA.bc H).mono ?_; rintro e w' ⟨rfl, H⟩; exact hK _ H) | (go_simp; exact hK _ H)
          · clear ho; simp [know, dstAt, Region.binds] at hk; go_simp; exact hK _ H
        case ins =>
          iterate 6 (refine ⟨ins_pl rfl (fun _ _ _ => rfl), ?_⟩)
          exact trivial
        case jns =>
          iterate 6 (refine ⟨j_pl (fun _ _ _ => rfl), ?_⟩)
          exact trivial
        case fin =>
          intro E val w6 hE H
          clear HF hE
          have HF := H
          clear H
          simp [putAll, Act.put]
          go_wp2_with fail
          go_loopw [8] (fun x wr => ∃ (r : Nat) (a : Hd) (vd ve vl vr : Value) (A : Mg) (P : HProp), r ≤ 17000 ∧ x = .int .i64 r ∧ May a ∧ a.Ok ∧ a.Sz ∧ RndAsk b r A ∧ A.Ok ∧ Pool W a vd ve vl vr b vd2 ve2 vl2 vr2 P ∧ At W (bM g7 A nl nl nl nl :: bH g5 b vd2 ve2 vl2 vr2 :: bH g4 a vd ve vl vr :: Blk g3 (.cells #[.int .i64 kk, .int .i64 ka, .int .i64 kb, .int .i64 kc] 25 (0, 0)) :: P :: []) wr) (fun x _ => 17000 - (intOf x).toNat)
          case atStart => exact ⟨0, a, vd, ve, vl, vr, A, Arg W, by decide, rfl, Am.out, AO.out, AS.out, RA.out, OA.out, fun w0 w L H => ⟨AL.out.ext (H.ext 0 rfl), BL.out.ext (H.ext 0 rfl), H⟩, HF⟩
          case round =>
            clear HF FA RA HA OA Am An AS AO AL
            obtain ⟨r, a, vd, ve, vl, vr, A, P, hr, rfl, hm, ho, hs, hra, hoa, hP, HF⟩ := hrel
            have Am := Lib.hid hm
            have AO := Lib.hid ho
            have AS := Lib.hid hs
            have RA := Lib.hid hra
            have PP := Lib.hid hP
            have OA := Lib.hid hoa
            have An := Lib.hid (show a.row.length ≤ 140737488355328 by have := hs.br; omega)
            clear hm ho hs hra hoa hP
            by_cases hlt : r < 17000
            case neg =>
              have e : r = 17000 := by omega
              subst e
              exact absurd RA.out rnd_last
            have g1x : (r : Int) < 17000 := by omega
            generalize hM : haveS A b = M at *
            have HM := Lib.hid hM
            have MO := Lib.hid (show M.Ok by rw [← HM.out]; exact have_okM OA.out BO.out)
            have MB := Lib.hid (show M.blk.length ≤ 140737488355328 by rw [← HM.out]; exact have_blk BS.out.bd)
            have MF := Lib.hid (show M.Fit by rw [← HM.out]; exact have_fit BO.out BS.out.be BS.out.bl)
            clear hM
            go_wp2_with fail
            apply wp_region_eff [2, 3, 4, 5] (fun i => (#[[], [], [], [2], [], [2, 3, 4]] : Array (List Nat)).getD i []) (fun val i => ((_ :: _ :: val 2 :: val 3 :: val 4 :: val 5 :: []) : List Value).toArray.getD i undef) (fun E val => At W ((if E 2 = true then LhR b (val 2) else emp) :: (if E 3 = true then MsR M (val 3) else emp) :: (if E 4 = true then PtrBlk (val 4) (.cells (if E 5 = true then mgV M (comp (val 3) 15) (comp (val 3) 26) (comp (val 3) 27) (comp (val 3) 28) else z30) 39 (0, 0)) else emp) :: bM g7 A nl nl nl nl :: bH g5 b vd2 ve2 vl2 vr2 :: bH g4 a vd ve vl vr :: Blk g3 (.cells #[.int .i64 kk, .int .i64 ka, .int .i64 kb, .int .i64 kc] 25 (0, 0)) :: P :: [])) (by kernel_rfl) (by kernel_rfl) (by kernel_rfl) (by kernel_rfl) (HF.addEmp.addEmp.addEmp)
            case step =>
              iterate 2 (refine ⟨eff_pl rfl (fun _ => by rfl) fun E val hn T ds w K H hk ho hK => ?_, ?_⟩; rotate_left)
              iterate 4 (refine ⟨eff_mk rfl (fun _ => by rfl) fun E val hE0 hcl hn T ds w K H hk ho hK => ?_, ?_⟩; rotate_left)
              exact trivial
              · have o7 := ho 7 (by kernel_rfl); clear ho; simp [know, dstAt, Region.binds] at hk o7
                (refine op_rowT (T := 39) rfl o7 a39 s39 H 3 rfl rfl ?_; exact hK _ H)
              · have o5 := ho 5 (by kernel_rfl); clear ho; simp [know, dstAt, Region.binds] at hk o5
                (refine op_rowT (T := 44) rfl o5 a44 s44 H 4 rfl rfl ?_; exact hK _ H)
              · clear ho; simp [know, dstAt, Region.binds] at hk
                (simp only [hE0, Bool.false_eq_true, if_false] at H); go_simp; refine (lendH BO.out BS.out.br (PP.out _ _ _ (H.pick 7 rfl)).2.1 BS.out.bd BS.out.be BS.out.bl H.drop).mono ?_; rintro e w' ⟨gd, ge, gl, gr, rfl, H⟩; refine hK _ _ ?_; have t2 : updE E 2 2 = true := rfl; simp only [t2, if_true]; exact lhr_mk H
              · clear ho; simp [know, dstAt, Region.binds] at hk
                (have q5 : E 5 = false := (by cases h : E 5 with | false => rfl | true => (have h2 := hcl 5 (by decide) h 3 (by decide); rw [hE0] at h2; cases h2))); (have e2 := hn 2 (by decide)); (simp only [e2, hE0, q5, Bool.false_eq_true, if_false, if_true] at H); obtain ⟨vd', ve', vl', vr', hv2, hd2⟩ := lhr_open BO.out BS.out H; have p1 := hk.1; have p2 := hk.2.trans hv2; clear hk hv2; go_simp; refine (have_ (a := A) (h := b) Bm.out BO.out Bn.out hd2 BS.out.be BS.out.bl BS.out.bd (H.sel 2 [0])).mono ?_; rintro e w' ⟨vb', ve'', vl'', vc', rfl, H⟩; refine hK _ _ ?_; have t2 : updE E 3 2 = true := e2; have t3 : updE E 3 3 = true := rfl; have t5 : updE E 3 5 = false := q5; simp only [t2, t3, t5, Bool.false_eq_true, if_false, if_true]; rw [HM.out] at H ⊢; exact ((At.imp (At.fold (M := msgR _ _ _ _ _) H) fun _ hh => ⟨rfl, hh⟩ : At W (MsR M (.agg (mgV M vb' ve'' vl'' vc')) :: _) w')).sel 2 [1, 0]
              · clear ho; simp [know, dstAt, Region.binds] at hk
                (have q5 : E 5 = false := (by cases h : E 5 with | false => rfl | true => (have h2 := hcl 5 (by decide) h 4 (by decide); rw [hE0] at h2; cases h2))); (simp only [hE0, Bool.false_eq_true, if_false] at H); refine op_allocT rfl z39 rfl (H.sel 3 [0, 1]) ?_; (intro x w' H; refine hK _ _ ?_; have t4 : updE E 4 4 = true := rfl; have t5 : updE E 4 5 = false := q5; simp only [t4, t5, Bool.false_eq_true, if_true, if_false]; exact H.sel 3 [1, 2, 0])
              · clear ho; simp [know, dstAt, Region.binds] at hk
                (have e3 := hn 3 (by decide)); (have e4 := hn 4 (by decide)); (simp only [hE0, e3, e4, Bool.false_eq_true, if_true, if_false] at H); (have hv3 := (At.and (H.pick 1 rfl)).1); (have HT : At W (Hold _ _ _ :: Hold _ _ _ :: Hold _ _ _ :: Hold _ _ _ :: _) w := At.flat (At.and (H.pick 1 rfl)).2); (have p1 := row_one (hold_at HT)); (have p2 := row_one (hold_at (HT.pick 1 rfl))); (have p3 := row_one (hold_at (HT.pick 2 rfl))); (have p4 := row_one (hold_at (HT.pick 3 rfl))); clear HT; (obtain ⟨g, hv4, HS⟩ := ptr_ex (H.pick 2 rfl)); refine op_putT rfl (hk.1.trans hv4) (hk.2.1.trans hv3) ?_ s39 HS 0 rfl rfl rfl ?_; (unfold mgV; repeat' (first | exact List.forall_mem_nil _ | refine List.forall_mem_cons.2 ⟨(by first | rfl | assumption), ?_⟩)); (intro w' H; refine hK _ _ ?_; have t3 : updE E 5 3 = true := e3; have t4 : updE E 5 4 = true := e4; have t5 : updE E 5 5 = true := rfl; simp only [t3, t4, t5, if_true]; exact (At.imp H fun _ hh => (⟨g, hv4, hh⟩ : PtrBlk (val 4) _ _)).sel 3 [1, 2, 0])
            case ins =>
              iterate 2 (refine ⟨ins_pl rfl (fun _ _ _ => rfl), ?_⟩)
              iterate 4 (refine ⟨ins_mk rfl (fun _ => rfl), ?_⟩)
              exact trivial
            case jns =>
              iterate 2 (refine ⟨j_pl (fun _ _ _ => rfl), ?_⟩)
              iterate 4 (refine ⟨j_mk rfl, ?_⟩)
              exact trivial
            case fin =>
              intro E val w7 hE H
              have e2 := hE 2 (by decide)
              have e3 := hE 3 (by decide)
              have e4 := hE 4 (by decide)
              have e5 := hE 5 (by decide)
              simp only [e2, e3, e4, e5, if_true] at H
              clear hE e2 e3 e4 e5 HF
              obtain ⟨g9, hv4, HX⟩ := ptr_ex (H.pick 2 rfl)
              clear H
              have HT := At.flat (At.and (HX.pick 2 rfl)).2
              clear HX
              generalize comp (val 3) 15 = vb' at *
              generalize comp (val 3) 26 = ve' at *
              generalize comp (val 3) 27 = vl' at *
              generalize comp (val 3) 28 = vc' at *
              have HF : At W (bM g9 M vb' ve' vl' vc' :: hB vb' M :: hE ve' M :: hL vl' M :: hC vc' M :: bM g7 A nl nl nl nl :: bH g5 b vd2 ve2 vl2 vr2 :: bH g4 a vd ve vl vr :: Blk g3 (.cells #[.int .i64 kk, .int .i64 ka, .int .i64 kb, .int .i64 kc] 25 (0, 0)) :: P :: []) w7 := HT.sel 6 [4, 0, 1, 2, 3]
              clear HT
              simp [putAll, Act.put, hv4]
              clear hv4
              go_wp2_with fail
              apply wp_region_eff [3, 4] (fun i => (#[[], [], [], [], [3], [3, 4]] : Array (List Nat)).getD i []) (fun val i => ((_ :: _ :: _ :: val 3 :: val 4 :: _ :: []) : List Value).toArray.getD i undef) (fun E val => fun w => At W (bM g9 M vb' ve' vl' vc' :: hB vb' M :: hE ve' M :: hL vl' M :: hC vc' M :: bM g7 A nl nl nl nl :: bH g5 b vd2 ve2 vl2 vr2 :: bH g4 a vd ve vl vr :: Blk g3 (.cells #[.int .i64 kk, .int .i64 ka, .int .i64 kb, .int .i64 kc] 25 (0, 0)) :: P :: []) w ∧ (E 3 = true → E 4 = false → ∃ vb3 ve3 vl3 vc3, val 3 = .agg (mgV M vb3 ve3 vl3 vc3) ∧ MgAt w M vb3 ve3 vl3 vc3) ∧ (E 4 = true → val 4 = .bool true)) (by kernel_rfl) (by kernel_rfl) (by kernel_rfl) (by kernel_rfl) (⟨HF, fun h => Bool.noConfusion h, fun h => Bool.noConfusion h⟩)
              case step =>
                iterate 3 (refine ⟨eff_pl rfl (fun _ => by rfl) fun E val hn T ds w K H hk ho hK => ?_, ?_⟩; rotate_left)
                iterate 2 (refine ⟨eff_mk rfl (fun _ => by rfl) fun E val hE0 hcl hn T ds w K H hk ho hK => ?_, ?_⟩; rotate_left)
                refine ⟨eff_pl rfl (fun _ => by rfl) fun E val hn T ds w K H hk ho hK => ?_, ?_⟩; rotate_left
                exact trivial
                · have o9 := ho 9 (by kernel_rfl); clear ho; simp [know, dstAt, Region.binds] at hk o9
                  (refine op_rowT (T := 39) rfl o9 a39 s39 H.1 0 rfl rfl ?_; exact hK _ H)
                · have o7 := ho 7 (by kernel_rfl); clear ho; simp [know, dstAt, Region.binds] at hk o7
                  (refine op_rowT (T := 39) rfl o7 a39 s39 H.1 5 rfl rfl ?_; exact hK _ H)
                · have o5 := ho 5 (by kernel_rfl); clear ho; simp [know, dstAt, Region.binds] at hk o5
                  (refine op_rowT (T := 44) rfl o5 a44 s44 H.1 6 rfl rfl ?_; exact hK _ H)
                · clear ho; simp [know, dstAt, Region.binds] at hk
                  (have q4 : E 4 = false := (by cases h : E 4 with | false => rfl | true => (have h2 := hcl 4 (by decide) h 3 (by decide); rw [hE0] at h2; cases h2))); go_simp; refine (rhave (a := A) (h := b) Bm.out BO.out Bn.out (PP.out _ _ _ (H.1.pick 9 rfl)).2.1 H.1).mono ?_; rintro e w' ⟨vb3, ve3, vl3, vc3, rfl, hm3, H3⟩; rw [HM.out] at hm3 ⊢; exact hK _ _ ⟨H3, fun _ _ => ⟨_, _, _, _, rfl, hm3⟩, fun h4 => absurd ((show updE E 3 4 = E 4 from rfl).symm.trans h4) (by rw [q4]; exact Bool.false_ne_true)⟩
                · clear ho; simp [know, dstAt, Region.binds] at hk
                  (have e3 := hn 3 (by decide)); obtain ⟨vb3, ve3, vl3, vc3, hv3, hm3⟩ := H.2.1 e3 hE0; have p1 := hk.1; have p2 := hk.2.trans hv3; clear hk hv3; go_simp; refine (sameM (m := M) (msgR_at MF.out (H.1.sel 5 [1, 2, 3, 4])) hm3 MF.out.fe MF.out.fl MF.out.fc MF.out.be MF.out.bl MF.out.bc H.1).mono ?_; rintro e w' ⟨rfl, H3⟩; exact hK _ _ ⟨H3, fun _ h4 => Bool.noConfusion h4, fun _ => rfl⟩
                · clear ho; simp [know, dstAt, Region.binds] at hk
                  first | (go_simp; exact hK _ H) | (have e4 := hn 4 (by decide); have hv4 := H.2.2 e4; have p1 := hk.trans hv4; clear hk hv4; go_simp; exact hK _ H)
              case ins =>
                iterate 3 (refine ⟨ins_pl rfl (fun _ _ _ => rfl), ?_⟩)
                iterate 2 (refine ⟨ins_mk rfl (fun _ => rfl), ?_⟩)
                refine ⟨ins_pl rfl (fun val val' h => by first | rfl | ((have h3 := h 3 (by decide)); (have h4 := h 4 (by decide)); first | (simp only [h3, h4]; done) | (simp only [h3, h4]; rfl))), ?_⟩
                exact trivial
              case jns =>
                iterate 3 (refine ⟨j_pl (fun _ _ _ => rfl), ?_⟩)
                iterate 2 (refine ⟨j_mk rfl, ?_⟩)
                refine ⟨j_pl (fun _ _ _ => rfl), ?_⟩
                exact trivial
              case fin =>
                intro E val w9 hE H
                have hv4 := H.2.2 (hE 4 (by decide))
                clear HF
                have HF := H.1
                clear hE H
                simp [putAll, Act.put, hv4]
                clear hv4
                go_wp2_with fail
                generalize hX : takeS M a = X at *
                have HXS := Lib.hid hX
                have XB := Lib.hid (show Base X.2.1 by rw [← HXS.out]; exact take_base M a)
                have XK := Lib.hid (show ∀ c ∈ X.1, c.Ok by rw [← HXS.out]; exact take_ok MO.out MF.out.be MF.out.bl)
                have XL := Lib.hid (show X.1.length ≤ 140737488355328 by rw [← HXS.out]; exact take_len MF.out.bc)
                clear hX
                apply wp_region_eff [2, 3, 8, 10] (fun i => (#[[], [], [], [2], [2, 3], [2, 3], [2, 3], [2, 3], [], [2, 3], [2, 3, 8], [2, 3]] : Array (List Nat)).getD i []) (fun val i => ((_ :: _ :: val 2 :: val 3 :: _ :: _ :: _ :: _ :: val 8 :: _ :: val 10 :: _ :: []) : List Value).toArray.getD i undef) (fun E val => At W ((if E 2 = true then LhR a (val 2) else emp) :: (if E 3 = true then TkR X (val 3) else emp) :: (if E 8 = true then PtrBlk (val 8) (.cells (if E 10 = true then mgV X.2.1 nl nl nl nl else z30) 39 (0, 0)) else emp) :: bM g9 M vb' ve' vl' vc' :: hB vb' M :: hE ve' M :: hL vl' M :: hC vc' M :: bM g7 A nl nl nl nl :: bH g5 b vd2 ve2 vl2 vr2 :: bH g4 a vd ve vl vr :: Blk g3 (.cells #[.int .i64 kk, .int .i64 ka, .int .i64 kb, .int .i64 kc] 25 (0, 0)) :: P :: [])) (by kernel_rfl) (by kernel_rfl) (by kernel_rfl) (by kernel_rfl) (HF.addEmp.addEmp.addEmp)
                case step =>
                  iterate 2 (refine ⟨eff_pl rfl (fun _ => by rfl) fun E val hn T ds w K H hk ho hK => ?_, ?_⟩; rotate_left)
                  iterate 2 (refine ⟨eff_mk rfl (fun _ => by rfl) fun E val hE0 hcl hn T ds w K H hk ho hK => ?_, ?_⟩; rotate_left)
                  iterate 4 (refine ⟨eff_pl rfl (fun _ => by rfl) fun E val hn T ds w K H hk ho hK => ?_, ?_⟩; rotate_left)
                  refine ⟨eff_mk rfl (fun _ => by rfl) fun E val hE0 hcl hn T ds w K H hk ho hK => ?_, ?_⟩; rotate_left
                  refine ⟨eff_pl rfl (fun _ => by rfl) fun E val hn T ds w K H hk ho hK => ?_, ?_⟩; rotate_left
                  refine ⟨eff_mk rfl (fun _ => by rfl) fun E val hE0 hcl hn T ds w K H hk ho hK => ?_, ?_⟩; rotate_left
                  refine ⟨eff_pl rfl (fun _ => by rfl) fun E val hn T ds w K H hk ho hK => ?_, ?_⟩; rotate_left
                  exact trivial
                  · have o9 := ho 9 (by kernel_rfl); clear ho; simp [know, dstAt, Region.binds] at hk o9
                    (refine op_rowT (T := 39) rfl o9 a39 s39 H 3 rfl rfl ?_; exact hK _ H)
                  · have o4 := ho 4 (by kernel_rfl); clear ho; simp [know, dstAt, Region.binds] at hk o4
                    (refine op_rowT (T := 44) rfl o4 a44 s44 H 10 rfl rfl ?_; exact hK _ H)
                  · clear ho; simp [know, dstAt, Region.binds] at hk
                    (simp only [hE0, Bool.false_eq_true, if_false] at H); go_simp; refine (lendH AO.out AS.out.br (PP.out _ _ _ (H.pick 12 rfl)).1 AS.out.bd AS.out.be AS.out.bl H.drop).mono ?_; rintro e w' ⟨gd, ge, gl, gr, rfl, H⟩; refine hK _ _ ?_; have t2 : updE E 2 2 = true := rfl; simp only [t2, if_true]; exact lhr_mk H
                  · clear ho; simp [know, dstAt, Region.binds] at hk
                    (have e2 := hn 2 (by decide)); (simp only [e2, hE0, Bool.false_eq_true, if_false, if_true] at H); obtain ⟨vd', ve4, vl4, vr', hv2, hd2⟩ := lhr_open AO.out AS.out H; have hM4 := msgR_at MF.out (H.sel 8 [4, 5, 6, 7]); have p1 := hk.1; have p2 := hk.2.trans hv2; clear hk hv2; go_simp; refine (take (m := M) (h := a) hM4 MO.out MF.out.bc MF.out.be MF.out.bl MB.out Am.out AO.out An.out hd2 (H.sel 2 [0])).mono ?_; rintro e w' ⟨v', rfl, H⟩; refine hK _ _ ?_; have t2 : updE E 3 2 = true := e2; have t3 : updE E 3 3 = true := rfl; simp only [t2, t3, if_true]; rw [HXS.out] at H ⊢; exact (At.imp H fun _ hh => tkr_mk hh).sel 2 [1, 0]
                  · clear ho; simp [know, dstAt, Region.binds] at hk
                    first | (go_simp; exact hK _ H) | (have e3 := hn 3 (by decide); simp only [e3, if_true] at H; have hv3 := (At.and (H.pick 1 rfl)).1; have hk2 := hk.trans hv3; clear hk hv3; go_simp; exact hK _ (by simp only [e3, if_true]; exact H))
                  · clear ho; simp [know, dstAt, Region.binds] at hk
                    first | (have e3 := hn 3 (by decide); simp only [e3, if_true] at H; have hv3 := (At.and (H.pick 1 rfl)).1; have hk2 := hk.trans hv3; clear hk hv3; go_simp; exact hK _ (by simp only [e3, if_true]; exact H)) | (go_simp; exact hK _ H)
                  · clear ho; simp [know, dstAt, Region.binds] at hk
                    first | (have e3 := hn 3 (by decide); simp only [e3, if_true] at H; have hv3 := (At.and (H.pick 1 rfl)).1; have hk2 := hk.trans hv3; clear hk hv3; go_simp; exact hK _ (by simp only [e3, if_true]; exact H)) | (go_simp; exact hK _ H)
                  · clear ho; simp [know, dstAt, Region.binds] at hk
                    first | (have e3 := hn 3 (by decide); simp only [e3, if_true] at H; have hv3 := (At.and (H.pick 1 rfl)).1; have hk2 := hk.trans hv3; clear hk hv3; go_simp; exact hK _ (by simp only [e3, if_true]; exact H)) | (go_simp; exact hK _ H)
                  · clear ho; simp [know, dstAt, Region.binds] at hk
                    (have q10 : E 10 = false := (by cases h : E 10 with | false => rfl | true => (have h2 := hcl 10 (by decide) h 8 (by decide); rw [hE0] at h2; cases h2))); (simp only [hE0, Bool.false_eq_true, if_false] at H); refine op_allocT rfl z39 rfl (H.sel 3 [0, 1]) ?_; (intro x w' H; refine hK _ _ ?_; have t8 : updE E 8 8 = true := rfl; have t10 : updE E 8 10 = false := q10; simp only [t8, t10, Bool.false_eq_true, if_true, if_false]; exact H.sel 3 [1, 2, 0])
                  · clear ho; simp [know, dstAt, Region.binds] at hk
                    first | (have e3 := hn 3 (by decide); simp only [e3, if_true] at H; have hv3 := (At.and (H.pick 1 rfl)).1; have hk2 := hk.trans hv3; clear hk hv3; go_simp; exact hK _ (by simp only [e3, if_true]; exact H)) | (go_simp; exact hK _ H)
                  · clear ho; simp [know, dstAt, Region.binds] at hk
                    (have e8 := hn 8 (by decide)); (simp only [hE0, e8, Bool.false_eq_true, if_true, if_false] at H); (obtain ⟨g, hv8, HS⟩ := ptr_ex (H.pick 2 rfl)); refine op_putT rfl (hk.1.trans hv8) hk.2.1 ?_ s39 HS 0 rfl rfl rfl ?_; (simp [mgV, nl, Value.oneCell']); (intro w' H; refine hK _ _ ?_; have t8 : updE E 10 8 = true := e8; have t10 : updE E 10 10 = true := rfl; simp only [t8, t10, if_true]; exact (At.imp H fun _ hh => (⟨g, hv8, hh⟩ : PtrBlk (val 8) _ _)).sel 3 [1, 2, 0])
                  · clear ho; simp [know, dstAt, Region.binds] at hk
                    first | (have e3 := hn 3 (by decide); simp only [e3, if_true] at H; have hv3 := (At.and (H.pick 1 rfl)).1; have hk2 := hk.trans hv3; clear hk hv3; go_simp; exact hK _ (by simp only [e3, if_true]; exact H)) | (go_simp; exact hK _ H)
                case ins =>
                  iterate 2 (refine ⟨ins_pl rfl (fun _ _ _ => rfl), ?_⟩)
                  iterate 2 (refine ⟨ins_mk rfl (fun _ => rfl), ?_⟩)
                  iterate 4 (refine ⟨ins_pl rfl (fun val val' h => by first | rfl | ((have h2 := h 2 (by decide)); (have h3 := h 3 (by decide)); first | (simp only [h2, h3]; done) | (simp only [h2, h3]; rfl))), ?_⟩)
                  refine ⟨ins_mk rfl (fun _ => rfl), ?_⟩
                  refine ⟨ins_pl rfl (fun val val' h => by first | rfl | ((have h2 := h 2 (by decide)); (have h3 := h 3 (by decide)); first | (simp only [h2, h3]; done) | (simp only [h2, h3]; rfl))), ?_⟩
                  refine ⟨ins_mk rfl (fun _ => rfl), ?_⟩
                  refine ⟨ins_pl rfl (fun val val' h => by first | rfl | ((have h2 := h 2 (by decide)); (have h3 := h 3 (by decide)); first | (simp only [h2, h3]; done) | (simp only [h2, h3]; rfl))), ?_⟩
                  exact trivial
                case jns =>
                  iterate 2 (refine ⟨j_pl (fun _ _ _ => rfl), ?_⟩)
                  iterate 2 (refine ⟨j_mk rfl, ?_⟩)
                  iterate 4 (refine ⟨j_pl (fun _ _ _ => rfl), ?_⟩)
                  refine ⟨j_mk rfl, ?_⟩
                  refine ⟨j_pl (fun _ _ _ => rfl), ?_⟩
                  refine ⟨j_mk rfl, ?_⟩
                  refine ⟨j_pl (fun _ _ _ => rfl), ?_⟩
                  exact trivial
                case fin =>
                  intro E val w10 hE H
                  have e2 := hE 2 (by decide)
                  have e3 := hE 3 (by decide)
                  have e8 := hE 8 (by decide)
                  have e10 := hE 10 (by decide)
                  simp only [e2, e3, e8, e10, if_true] at H
                  clear hE e2 e3 e8 e10 HF
                  obtain ⟨g11, hv8, HX⟩ := ptr_ex (H.pick 2 rfl)
                  clear H
                  obtain ⟨hv3, HT⟩ := At.and (HX.pick 2 rfl)
                  clear HX hv3
                  generalize hv1 : tupc (val 3) = v1 at *
                  have HF : At W (HoldC v1 X.1 :: bM g11 X.2.1 nl nl nl nl :: bM g9 M vb' ve' vl' vc' :: hB vb' M :: hE ve' M :: hL vl' M :: hC vc' M :: bM g7 A nl nl nl nl :: bH g5 b vd2 ve2 vl2 vr2 :: bH g4 a vd ve vl vr :: Blk g3 (.cells #[.int .i64 kk, .int .i64 ka, .int .i64 kb, .int .i64 kc] 25 (0, 0)) :: P :: []) w10 := HT.sel 3 [0, 1]
                  clear HT hv1
                  simp [putAll, Act.put, hv8]
                  clear hv8
                  go_wp2_with (first | ((with_reducible refine k_load (T := 44) ?_); refine st_row rfl _ _ rfl _ rfl a44 7 s44 HF 9 rfl rfl ?_; (intro K hK; go_simp)) | ((with_reducible refine k_load (T := 44) ?_); refine st_loads rfl _ _ rfl _ _ rfl a44 7 s44 HF 9 rfl ?_ ?_; (simp); (intro K hK; go_simp)) | ((with_reducible refine k_load (T := 39) ?_); refine st_row rfl _ _ rfl _ rfl a39 30 s39 HF 2 rfl rfl ?_; (intro K hK; go_simp)) | ((with_reducible refine k_load (T := 39) ?_); refine st_loads rfl _ _ rfl _ _ rfl a39 30 s39 HF 2 rfl ?_ ?_; (simp); (intro K hK; go_simp)))
                  have XF := Lib.hid (show ∀ c ∈ X.1, c.From M by rw [← HXS.out]; exact take_from M a)
                  have hM4 := msgR_at MF.out (HF.sel 7 [3, 4, 5, 6])
                  refine (rtakeH (m := M) (h := a) hM4 MO.out MF.out.bc Am.out AO.out An.out (PP.out _ _ _ (HF.pick 11 rfl)).1 HF).mono ?_
                  clear hM4
                  rintro e w11 ⟨v2, rfl, H1⟩
                  rw [HXS.out] at H1 ⊢
                  replace HF : At W (Hold v2 X.1.length (chRows vb' ve' vl' X.1).flatten :: HoldC v1 X.1 :: bM g11 X.2.1 nl nl nl nl :: bM g9 M vb' ve' vl' vc' :: hB vb' M :: hE ve' M :: hL vl' M :: hC vc' M :: bM g7 A nl nl nl nl :: bH g5 b vd2 ve2 vl2 vr2 :: bH g4 a vd ve vl vr :: Blk g3 (.cells #[.int .i64 kk, .int .i64 ka, .int .i64 kb, .int .i64 kc] 25 (0, 0)) :: P :: []) w11 := H1
                  clear H1
                  have hbb : (X.2.2 != X.2.2) = false := by simp
                  go_wp2_with (first | ((with_reducible refine k_alloc (T := 39) ?_); refine st_alloc rfl _ rfl _ z39 _ rfl HF ?_; (clear HF; intro g14 w HF K hK; simp only [Value.cells] at HF; go_simp)) | ((with_reducible refine k_store (T := 39) ?_); refine st_put rfl _ _ _ rfl _ rfl _ rfl ?_ s39 HF 0 rfl rfl ?_; (simp [mgV, nl, Value.oneCell']); (clear HF; intro w HF K hK; simp only [List.set_cons_zero, List.set_cons_succ, Act.eval, Value.cells, Array.getD_eq_getD_getElem?, List.getElem?_toArray, List.getElem?_cons_succ, List.getElem?_cons_zero, Option.getD_some] at HF; go_simp)))
                  have hM5 := msgR_at MF.out (HF.sel 9 [5, 6, 7, 8])
                  refine (sameC (holdc_at (HF.pick 2 rfl)) (chs_of hM5 XF.out (hold_at (HF.pick 1 rfl))) XK.out XL.out HF).mono ?_
                  clear hM5
                  rintro e w12 ⟨rfl, H1⟩
                  replace HF := H1
                  clear H1
                  go_wp2_with (first | ((with_reducible refine k_load (T := 39) ?_); (first | refine st_row rfl _ _ rfl _ rfl a39 30 s39 HF 0 rfl rfl ?_ | refine st_row rfl _ _ rfl _ rfl a39 30 s39 HF 3 rfl rfl ?_); (intro K hK; go_simp)) | ((with_reducible refine k_load (T := 39) ?_); (first | refine st_loads rfl _ _ rfl _ _ rfl a39 30 s39 HF 0 rfl ?_ ?_ | refine st_loads rfl _ _ rfl _ _ rfl a39 30 s39 HF 3 rfl ?_ ?_); (simp); (intro K hK; go_simp)))
                  have FX := fit_base XB.out
                  refine (sameM (m := X.2.1) (at_base XB.out) (at_base XB.out) FX.fe FX.fl FX.fc FX.be FX.bl FX.bc HF).mono ?_
                  rintro e w13 ⟨rfl, H1⟩
                  replace HF := H1
                  clear H1 FX
                  go_wp2_with fail
                  obtain ⟨ad2, cap2, hv2, -, -, hC, -⟩ := hold_at (HF.pick 1 rfl)
                  have HC := Lib.hid hC
                  subst hv2
                  obtain ⟨P1, hPM, HG⟩ := poolM_mk MF.out PP.out (HF.sel 14 [5, 6, 7, 8, 13, 11, 1, 3, 9, 10, 12])
                  have HL : LayAll a (X.1.map lcOf) := by rw [← HXS.out]; exact take_lay Am.out MO.out.cmds
                  clear HF hC
                  go_loopw [16] (fun x wr => ∃ (i : Nat) (a1 : Hd) (vd1 ve1 vl1 vr1 : Value) (P1 : HProp), i ≤ X.1.length ∧ x = .int .i64 i ∧ May a1 ∧ a1.Ok ∧ a1.Sz ∧ LayAll a1 ((X.1.drop i).map lcOf) ∧ PoolM W M vb' ve' vl' vc' a1 vd1 ve1 vl1 vr1 b vd2 ve2 vl2 vr2 P1 ∧ At W (P1 :: bH g4 a1 vd1 ve1 vl1 vr1 :: Hold (.slice ad2 X.1.length cap2) X.1.length (chRows vb' ve' vl' X.1).flatten :: bM g11 X.2.1 nl nl nl nl :: bM g7 A nl nl nl nl :: bH g5 b vd2 ve2 vl2 vr2 :: Blk g3 (.cells #[.int .i64 kk, .int .i64 ka, .int .i64 kb, .int .i64 kc] 25 (0, 0)) :: []) wr) (fun x _ => X.1.length - (intOf x).toNat)
                  case atStart => exact ⟨0, a, vd, ve, vl, vr, P1, Nat.zero_le _, rfl, Am.out, AO.out, AS.out, HL, hPM, HG⟩
                  case round =>
                    clear HG hPM HL P1
                    obtain ⟨i, a1, vd1, ve1, vl1, vr1, P1, hi, rfl, hm, ho, hs, hl, hP, HF⟩ := hrel
                    have AM1 := Lib.hid hm
                    have AO1 := Lib.hid ho
                    have AS1 := Lib.hid hs
                    have PM1 := Lib.hid hP
                    have LA1 := Lib.hid hl
                    clear hm ho hs hP hl
                    have xl := XL.out
                    by_cases hlt : i < X.1.length
                    · have g2x : (i : Int) < X.1.length := by omega
                      obtain ⟨b2, rfl⟩ := HC.out (by omega)
                      obtain ⟨c, hc⟩ : ∃ c, X.1[i]? = some c := ⟨_, List.getElem?_eq_getElem hlt⟩
                      have hmem := List.mem_of_getElem? hc
                      have hcO : c.Ok := XK.out c hmem
                      have hcF := Lib.hid (XF.out c hmem)
                      have hcI : c.In M := take_in (a := a) MO.out c (by rw [HXS.out]; exact hmem)
                      have hCC := Lib.hid hc
                      obtain ⟨hlo, hln⟩ := lay_next hc LA1.out
                      have HLN := Lib.hid hln
                      have hm2 := laid_may AM1.out hlo.1 hlo.2
                      have HM2 := Lib.hid hm2
                      have HO2 := Lib.hid (laid_ok AM1.out AO1.out hcI hcO hlo)
                      have HS2 := Lib.hid (laid_sz AS1.out hcO hcF.out MB.out hm2)
                      have An1 := Lib.hid (show a1.row.length ≤ 274877906943 by have := may_len AM1.out; omega)
                      clear hc hmem hcO hcI hlo hln hm2
                      go_wp2_with fail
                      apply wp_region_eff [0, 5, 6] (fun i => (#[[], [], [], [], [], [0], [0, 5]] : Array (List Nat)).getD i []) (fun val i => ((val 0 :: _ :: _ :: _ :: _ :: val 5 :: val 6 :: []) : List Value).toArray.getD i undef) (fun E val => At W ((if E 0 = true then pur (val 0 = .agg (hdV a1 vd1 ve1 vl1 vr1)) else emp) :: (if E 5 = true then LdR W M vb' ve' vl' vc' (laidS a1 (lcOf c)) b vd2 ve2 vl2 vr2 (val 5) else P1) :: Blk g4 (.cells (if E 6 = true then hdV (laidS a1 (lcOf c)) (comp (val 5) 2) (comp (val 5) 4) (comp (val 5) 5) (comp (val 5) 6) else (hdV a1 vd1 ve1 vl1 vr1)) 44 (0, 0)) :: Hold (.slice (some b2) X.1.length cap2) X.1.length (chRows vb' ve' vl' X.1).flatten :: bM g11 X.2.1 nl nl nl nl :: bM g7 A nl nl nl nl :: bH g5 b vd2 ve2 vl2 vr2 :: Blk g3 (.cells #[.int .i64 kk, .int .i64 ka, .int .i64 kb, .int .i64 kc] 25 (0, 0)) :: [])) (by kernel_rfl) (by kernel_rfl) (by kernel_rfl) (by kernel_rfl) (HF.addEmp)
                      case step =>
                        refine ⟨eff_mk rfl (fun _ => by rfl) fun E val hE0 hcl hn T ds w K H hk ho hK => ?_, ?_⟩; rotate_left
                        iterate 4 (refine ⟨eff_pl rfl (fun _ => by rfl) fun E val hn T ds w K H hk ho hK => ?_, ?_⟩; rotate_left)
                        iterate 2 (refine ⟨eff_mk rfl (fun _ => by rfl) fun E val hE0 hcl hn T ds w K H hk ho hK => ?_, ?_⟩; rotate_left)
                        exact trivial
                        · have o4 := ho 4 (by kernel_rfl); clear ho; simp [know, dstAt, Region.binds] at hk o4
                          (have q5 : E 5 = false := (by cases h : E 5 with | false => rfl | true => (have h2 := hcl 5 (by decide) h 0 (by decide); rw [hE0] at h2; cases h2))); (have q6 : E 6 = false := (by cases h : E 6 with | false => rfl | true => (have h2 := hcl 6 (by decide) h 0 (by decide); rw [hE0] at h2; cases h2))); (simp only [hE0, q5, q6, Bool.false_eq_true, if_false] at H); refine op_rowT (T := 44) rfl o4 a44 s44 H 2 rfl rfl ?_; refine hK _ _ ?_; (have t0 : updE E 0 0 = true := rfl); (have t5 : updE E 0 5 = false := q5); (have t6 : updE E 0 6 = false := q6); simp only [t0, t5, t6, Bool.false_eq_true, if_false, if_true]; exact At.pure rfl H.drop
                        · have o13 := ho 13 (by kernel_rfl); clear ho; simp [know, dstAt, Region.binds] at hk o13; go_simp; exact hK _ H
                        · have o16 := ho 16 (by kernel_rfl); clear ho; simp [know, dstAt, Region.binds] at hk o16; go_simp; exact hK _ H
                        · clear ho; simp [know, dstAt, Region.binds] at hk; go_simp; exact hK _ H
                        · clear ho; simp [know, dstAt, Region.binds] at hk
                          (refine op_cellsT (vs := c.cells (if c.kk = 1 then vb' else nl) (if c.kk = 2 then ve' else nl) (if c.kk = 2 then vl' else nl)) rfl hk a71 s71 (fun j u hj => row_cell (hold_at (H.pick 3 rfl)) hCC.out rfl j u hj) ?_; exact hK _ H)
                        · clear ho; simp [know, dstAt, Region.binds] at hk
                          (have q6 : E 6 = false := (by cases h : E 6 with | false => rfl | true => (have h2 := hcl 6 (by decide) h 5 (by decide); rw [hE0] at h2; cases h2))); (have e0 := hn 0 (by decide)); (simp only [hE0, e0, q6, Bool.false_eq_true, if_false, if_true] at H); (obtain ⟨hv0, H2⟩ := At.unpure H); (have hv0h := Lib.hid hv0); (have hq := Lib.hid (PM1.out _ _ _ H2)); (have hfa := Lib.hid (from_at hq.out.2.2.1 hcF.out)); have p1 := hk.1.trans hv0; have p2 := hk.2; clear hk hv0 H; go_simp; (have hcall := rlaid (h := a1) (c := lcOf c) AO1.out An1.out hq.out.1 hfa.out.1 hfa.out.2.1 hfa.out.2.2 H2); (rw [lcOf_cells] at hcall); refine hcall.mono ?_; (rintro e w' hpost; obtain ⟨v, rfl, H3⟩ := ldr_mk hcF.out HO2.out PM1.out hpost; refine hK _ _ ?_; have t0 : updE E 5 0 = true := e0; have t5 : updE E 5 5 = true := rfl; have t6 : updE E 5 6 = false := q6; simp only [t0, t5, t6, Bool.false_eq_true, if_false, if_true]; exact At.pure hv0h.out H3)
                        · have o4 := ho 4 (by kernel_rfl); clear ho; simp [know, dstAt, Region.binds] at hk o4
                          (have e0 := hn 0 (by decide)); (have e5 := hn 5 (by decide)); (simp only [hE0, e0, e5, Bool.false_eq_true, if_false, if_true] at H); (obtain ⟨hv5, p1, p2, p3, p4⟩ := ldr_cells (H.pick 1 rfl)); refine op_putT rfl o4 (hk.1.trans hv5) ?_ s44 H 2 rfl rfl rfl ?_; (unfold hdV; repeat' (first | exact List.forall_mem_nil _ | refine List.forall_mem_cons.2 ⟨(by first | rfl | assumption), ?_⟩)); (intro w' H; refine hK _ _ ?_; have t0 : updE E 6 0 = true := e0; have t5 : updE E 6 5 = true := e5; have t6 : updE E 6 6 = true := rfl; simp only [t0, t5, t6, if_true]; exact H)
                      case ins =>
                        refine ⟨ins_mk rfl (fun _ => rfl), ?_⟩
                        iterate 4 (refine ⟨ins_pl rfl (fun _ _ _ => rfl), ?_⟩)
                        iterate 2 (refine ⟨ins_mk rfl (fun _ => rfl), ?_⟩)
                        exact trivial
                      case jns =>
                        refine ⟨j_mk rfl, ?_⟩
                        iterate 4 (refine ⟨j_pl (fun _ _ _ => rfl), ?_⟩)
                        iterate 2 (refine ⟨j_mk rfl, ?_⟩)
                        exact trivial
                      case fin =>
                        intro E val w20 hE H
                        have e0 := hE 0 (by decide)
                        have e5 := hE 5 (by decide)
                        have e6 := hE 6 (by decide)
                        simp only [e0, e5, e6, if_true] at H
                        obtain ⟨vd3, ve3, vl3, vr3, P3, hv5, hP3, H2⟩ := ldr_open (At.unpure H).2
                        clear hE e0 e5 e6 HF H
                        simp only [hv5] at H2
                        have HF : At W (P3 :: Blk g4 (.cells (hdV (laidS a1 (lcOf c)) vd3 ve3 vl3 vr3) 44 (0, 0)) :: Hold (.slice (some b2) X.1.length cap2) X.1.length (chRows vb' ve' vl' X.1).flatten :: bM g11 X.2.1 nl nl nl nl :: bM g7 A nl nl nl nl :: bH g5 b vd2 ve2 vl2 vr2 :: Blk g3 (.cells #[.int .i64 kk, .int .i64 ka, .int .i64 kb, .int .i64 kc] 25 (0, 0)) :: []) w20 := H2
                        have HP3 := Lib.hid hP3
                        clear H2 hv5 hP3
                        simp [putAll, Act.put]
                        go_wp2_with fail
                        go_roundw
                        case rel => exact ⟨i + 1, laidS a1 (lcOf c), vd3, ve3, vl3, vr3, P3, by omega, by go_num, HM2.out, HO2.out, HS2.out, HLN.out, HP3.out, HF⟩
                        case measure => simp [intOf]; omega
                    · have g2x : ¬ (i : Int) < X.1.length := by omega
                      have HQ := Lib.hid (PM1.out _ _ _ HF)
                      cases hmore : X.2.2 with
                      | false =>
                        have HMo := Lib.hid hmore
                        clear hmore
                        go_wp2_with fail
                        go_ret
                        exact ⟨rfl, HQ.out.2.2.2.below 0 rfl⟩
                      | true =>
                        have HMo := Lib.hid hmore
                        clear hmore
                        go_wp2_with (first | ((with_reducible refine k_load (T := 39) ?_); refine st_row rfl _ _ rfl _ rfl a39 30 s39 HF 3 rfl rfl ?_; (intro K hK; go_simp)) | ((with_reducible refine k_load (T := 39) ?_); refine st_loads rfl _ _ rfl _ _ rfl a39 30 s39 HF 3 rfl ?_ ?_; (simp); (intro K hK; go_simp)) | ((with_reducible refine k_store (T := 39) ?_); refine st_put rfl _ _ _ rfl _ rfl _ rfl ?_ s39 HF 4 rfl rfl ?_; (simp [mgV, nl, Value.oneCell']); (clear HF; intro w HF K hK; simp only [List.set_cons_zero, List.set_cons_succ, Act.eval, Value.cells, Array.getD_eq_getD_getElem?, List.getElem?_toArray, List.getElem?_cons_succ, List.getElem?_cons_zero, Option.getD_some] at HF; go_simp)))
                        go_roundw
                        case rel =>
                          have hRN := rnd_step (a := a) Bm.out RA.out (by rw [HM.out, HXS.out]; exact HMo.out)
                          have hOK := take_okM (a := a) MO.out MF.out.bc
                          rw [HM.out, HXS.out] at hRN
                          rw [HXS.out] at hOK
                          exact ⟨r + 1, a1, vd1, ve1, vl1, vr1, X.2.1, P1, by omega, by go_num, AM1.out, AO1.out, AS1.out, hRN, hOK, pool_of PM1.out, HF.sel 7 [4, 5, 1, 6, 0]⟩
                        case measure => simp [intOf]; omega
end

theorem own : ownKnob Try.prog.godebug = none := by kernel_rfl

theorem lifted (os : Os) (started : os.Started) (H : Type) (enc : TypeId × Value → H) :
    ReturnsInHanded {} Try.checked os 5 .any (Rows.mendRowSpec.pre6 enc Try.prog Try.f5 Rows.mendRowRow.domain false) (Rows.mendRowSpec.post enc Try.prog Try.f5 false true false false) := by
  refine frame_true (C := Try.checked) started own (by kernel_rfl) Try.func5
    (ChangeSpec.witness6 (enc := enc) (C := Try.checked) false ⟨#[], #[.agg #[.int .i64 0, .int .i64 0, .int .i64 0, .int .i64 0], .agg #[.int .i64 0, .int .i64 0, .slice none 0 0, .int .i64 0, .slice none 0 0, .slice none 0 0, .slice none 0 0], .agg #[.int .i64 0, .int .i64 0, .slice none 0 0, .int .i64 0, .slice none 0 0, .slice none 0 0, .slice none 0 0]], []⟩ 8 (by kernel_rfl) (by kernel_rfl) (by kernel_rfl) (by kernel_rfl)) rfl ?_ (by kernel_rfl) (by kernel_rfl) (by kernel_rfl) Try.underlying4 ?_
  · intro ds hds
    match ds, hds with
    | [_, _, _], _ => rfl
  · rintro W args ds p ⟨base, hval⟩ hA hwt
    have hp : Try.f5.params.toList = [25, 44, 44] := by rw [Try.params5]
    rw [hp] at hA hwt
    obtain ⟨v0, r0, d0, e0, p0, q0, ha, rfl, rfl, h0, hA⟩ := trodAll_cons hA
    obtain ⟨v1, r1, d1, e1, p1, q1, rfl, rfl, rfl, h1, hA⟩ := trodAll_cons hA
    obtain ⟨v2, r2, d2, e2, p2, q2, rfl, rfl, rfl, h2, hA⟩ := trodAll_cons hA
    obtain ⟨rfl, rfl, rfl⟩ := trodAll_nil hA
    have ha2 : args = #[v0, v1, v2] := by cases args; simp_all
    subst ha2
    simp only [DataW.weightsEach, List.all_append, Bool.and_eq_true] at hwt
    obtain ⟨a0, b0⟩ := Lw.arg_Key (hval 0 _ _ (by rw [Try.params5]; rfl) rfl) h0 hwt.1
    obtain ⟨a1, b1⟩ := Lw.arg_RHeld (hval 1 _ _ (by rw [Try.params5]; rfl) rfl) h1 hwt.2.1
    obtain ⟨a2, b2⟩ := Lw.arg_RHeld (hval 2 _ _ (by rw [Try.params5]; rfl) rfl) h2 hwt.2.2.1
    exact walk b0 b1 b2

theorem over : Rows.mendRowRow.holds Try.pinned (OpenSpec.ofChange Rows.mendRowSpec) :=
  OpenClaim.holds_of_wide 5 Try.f5 rfl rfl rfl rfl rfl rfl rfl ⟨rfl, rfl, rfl, rfl, rfl⟩ rfl rfl rfl rfl rfl (by kernel_rfl) Try.func5 (by kernel_rfl)
    (of_decide_eq_true (by kernel_rfl)) (by unfold Func.isWrapper; first | (rw [if_pos (by decide +kernel)]; kernel_rfl) | (rw [if_neg (by decide +kernel)]; exact ⟨rfl, rfl⟩))
    (fun os started H enc _ => lifted os started H enc)

theorem proved : Rows.MendRowSaid := over
#print axioms proved
end mendRow
end Go.Proofs.Ytjobojgmadjmfaa
