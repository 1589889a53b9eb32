/-
  The reference's Take of commands.
-/
import Derived.Test.YtjobojgmadjmfaaMdRTakeS
namespace Go.Proofs.Ytjobojgmadjmfaa
open Go.Hp Go.RowKit
set_option linter.unusedVariables false
set_option linter.unusedSimpArgs false
set_option maxRecDepth 100000
set_option maxHeartbeats 16000000
namespace Md

section
variable {w0 w : World} {L : List HProp}

theorem rtakeL {m : Mg} {vb ve vl vc : Value} (hmv : MgAt w m vb ve vl vc) (hmo : m.Ok) (hkk : m.kind = 22) (h2 : m.kk = 2) (h5 : m.upto = 0) (h6a : 1 ≤ m.sn) (h6b : m.sn ≤ 1048577)  (hcl : m.cmds.length * 80 ≤ 140737488355328) {h : Hd} {vd ve2 vl2 vr : Value} (hm : May h) (hok : h.Ok) (hsz : h.row.length ≤ 140737488355328) (hv : HdAt w h vd ve2 vl2 vr) (H : At w0 L w) :
    Calls Try.prog 19 #[.agg (mgV m vb ve vl vc), .agg (hdV h vd ve2 vl2 vr)] w (RTh w0 L (takeBS m h) vb ve vl) := by
  obtain ⟨W, rfl⟩ : ∃ W : World, W = w := ⟨_, rfl⟩
  have HF := At.of W
  have H0 := Lib.hid H
  have Hm := Lib.hid hm
  have HV := Lib.hid hv
  obtain ⟨ac, cap, rfl, c1, c2, c3⟩ := hmv.c.value
  have ove := row_one hmv.e.1
  have ovl := row_one hmv.l.1
  obtain ⟨adb, capb, hvb, -⟩ := hmv.b
  subst hvb
  have Hmv := Lib.hid hmv
  have C3 := Lib.hid c3
  have Hok := Lib.hid hok
  have Hmo := Lib.hid hmo
  have hu0 := hm.u0
  have hu1 := hm.u1
  clear hm hv H hmv hok hmo c3
  simp only [mgV, hdV]
  have hkb : (m.kind == 22) = true := by simpa using hkk
  have hkb2 : (m.kind != 22) = false := by simpa using hkk
  have h1b : (m.kk == 1) = false := by rw [h2]; rfl
  have h2b : (m.kk == 2) = true := by simpa using h2
  have h2c : (m.kk != 2) = false := by simpa using h2
  have HeK := Lib.hid (chRows_K h2 (.slice adb m.blk.length capb) ve vl)
  clear hkk h2
  have h3 : ¬ m.upto < 0 := by omega
  have h4 : ¬ 1048576 < m.upto := by omega
  have h5b : (m.upto == 0) = true := by simpa using h5
  have h5c : ¬ (0 : Int) < m.upto := by omega
  have Hbad := Lib.hid (show ¬ (m.upto < 0 ∨ 1048576 < m.upto ∨ (m.upto = 0 ∧ ¬ (1 ≤ m.sn ∧ m.sn ≤ 1048577))) by omega)
  have h6c : ¬ m.sn < 1 := by omega
  have h6d : ¬ 1048577 < m.sn := by omega
  have H5 := Lib.hid h5
  clear h5
  have Hen := Lib.hid (show (newsS m h m.cmds.length).length = (learnedN m h m.cmds.length).length ∧ (chRows (.slice adb m.blk.length capb) ve vl (newsS m h m.cmds.length)).flatten = (learnedN m h m.cmds.length).flatten from ⟨by rw [learnedN_eq, List.length_map], by rw [chRows_news]⟩)
  have hwr : IntKind.i64.wrap (m.sn + (m.cmds.length : Int)) = m.sn + m.cmds.length := IntWalk.i64_in _ (by omega)
  go_enter Try.func19, Try.ntmps19
  go_wp2_with (first | ((with_reducible refine k_box (T := 39) ?_); refine st_box rfl _ _ rfl _ rfl HF ?_; (clear HF; intro gm w HF K hK; simp only [Value.cells, Act.eval, Value.cells, Array.getD_eq_getD_getElem?, List.getElem?_toArray, List.getElem?_cons_succ, List.getElem?_cons_zero, Option.getD_some] at HF; go_simp)) | ((with_reducible refine k_box (T := 44) ?_); refine st_box rfl _ _ rfl _ rfl HF ?_; (clear HF; intro gh w HF K hK; simp only [Value.cells, Act.eval, Value.cells, Array.getD_eq_getD_getElem?, List.getElem?_toArray, List.getElem?_cons_succ, List.getElem?_cons_zero, Option.getD_some] at HF; go_simp)) | ((with_reducible refine k_alloc (T := 39) ?_); refine st_alloc rfl _ rfl _ z39 _ rfl HF ?_; (clear HF; intro g5 w HF K hK; simp only [Value.cells] at HF; go_simp)) | ((with_reducible refine k_load ?_); (first | refine st_load rfl _ _ rfl _ _ rfl ?_ HF 1 rfl rfl ?_ | refine st_load rfl _ _ rfl _ _ rfl ?_ HF 2 rfl rfl ?_); (kernel_rfl); (intro K hK; go_simp)))
  replace HF : At W (OwnRow 71 24 nl 0 [] :: Blk g5 (.cells #[.int .i64 0, .bool false, .int .i64 0, .bool false, .int .i64 0, .int .i64 0, .int .i64 0, .int .i64 0, .int .i64 0, .int .i64 0, .int .i64 0, .int .i64 0, .int .i64 0, .int .i64 0, .int .i64 0, .slice none 0 0, .int .i64 0, .int .i64 0, .int .i64 0, .string ⟨#[]⟩, .int .i64 0, .int .i64 0, .int .i64 0, .int .i64 0, .int .i64 0, .int .i64 0, .slice none 0 0, .slice none 0 0, .slice none 0 0, .bool false] 39 (0, 0)) :: Blk gh (.cells #[.int .i64 h.sn, .int .i64 h.sc, vd, .int .i64 h.upto, ve2, vl2, vr] 44 (0, 0)) :: Blk gm (.cells #[.int .i64 m.kind, .bool m.fc, .int .i64 m.fi, .bool m.tc, .int .i64 m.ti, .int .i64 m.op, .int .i64 m.rd, .int .i64 m.kk, .int .i64 m.ka, .int .i64 m.kb, .int .i64 m.kc, .int .i64 m.sn, .int .i64 m.sc, .int .i64 m.hn, .int .i64 m.hc, .slice adb m.blk.length capb, .int .i64 m.cmd.k, .int .i64 m.cmd.cl, .int .i64 m.cmd.op, .string m.cmd.nm, .int .i64 m.cmd.f1, .int .i64 m.cmd.f2, .int .i64 m.cmd.n1, .int .i64 m.cmd.n2, .int .i64 m.cmd.sz, .int .i64 m.upto, ve, vl, .slice ac m.cmds.length cap, .bool m.more] 39 (0, 0)) :: Arg W :: []) _ := own_nil HF 71 24
  go_loopw [7, 10] (fun v i wr => ∃ k : Nat, k ≤ m.cmds.length ∧ i = .int .i64 k ∧ At W (OwnRow 71 24 v (learnedN m h k).length (learnedN m h k).flatten :: Blk g5 (.cells #[.int .i64 0, .bool false, .int .i64 0, .bool false, .int .i64 0, .int .i64 0, .int .i64 0, .int .i64 0, .int .i64 0, .int .i64 0, .int .i64 0, .int .i64 0, .int .i64 0, .int .i64 0, .int .i64 0, .slice none 0 0, .int .i64 0, .int .i64 0, .int .i64 0, .string ⟨#[]⟩, .int .i64 0, .int .i64 0, .int .i64 0, .int .i64 0, .int .i64 0, .int .i64 0, .slice none 0 0, .slice none 0 0, .slice none 0 0, .bool false] 39 (0, 0)) :: Blk gh (.cells #[.int .i64 h.sn, .int .i64 h.sc, vd, .int .i64 h.upto, ve2, vl2, vr] 44 (0, 0)) :: Blk gm (.cells #[.int .i64 m.kind, .bool m.fc, .int .i64 m.fi, .bool m.tc, .int .i64 m.ti, .int .i64 m.op, .int .i64 m.rd, .int .i64 m.kk, .int .i64 m.ka, .int .i64 m.kb, .int .i64 m.kc, .int .i64 m.sn, .int .i64 m.sc, .int .i64 m.hn, .int .i64 m.hc, .slice adb m.blk.length capb, .int .i64 m.cmd.k, .int .i64 m.cmd.cl, .int .i64 m.cmd.op, .string m.cmd.nm, .int .i64 m.cmd.f1, .int .i64 m.cmd.f2, .int .i64 m.cmd.n1, .int .i64 m.cmd.n2, .int .i64 m.cmd.sz, .int .i64 m.upto, ve, vl, .slice ac m.cmds.length cap, .bool m.more] 39 (0, 0)) :: Arg W :: []) wr) (fun _ i _ => m.cmds.length - (intOf i).toNat)
  case atStart => exact ⟨0, Nat.zero_le _, rfl, HF⟩
  case round =>
    clear HF
    obtain ⟨k, hk, rfl, HF⟩ := hrel
    by_cases hlt : k < m.cmds.length
    · have g1 : (k : Int) < m.cmds.length := by omega
      obtain ⟨c, hc⟩ : ∃ c, m.cmds[k]? = some c := ⟨_, List.getElem?_eq_getElem hlt⟩
      obtain ⟨⟨xk, xcl, xop, xnm, xf1, xf2, xn1, xn2, xsz⟩, rfl⟩ := cmd_cases (Hmo.out.cmds c (List.mem_of_getElem? hc))
      obtain ⟨b, rfl⟩ := C3.out (by omega)
      have Hcell := Lib.hid (fun j u (hj : ([.int .i64 xk, .int .i64 xcl, .int .i64 xop, .string xnm, .int .i64 xf1, .int .i64 xf2, .int .i64 xn1, .int .i64 xn2, .int .i64 xsz] : List Value)[j]? = some u) => (show W.cell? ((b.add (k * 9)).add j) = some u by
        have := Hmv.out.c.cell rfl hc hj
        rwa [← Addr.add_add] at this))
      obtain ⟨a1, a2, a3, a4, ⟨yk, ycl, yop, ynm, yf1, yf2, yn1, yn2, ysz⟩, pd, hat, -, hds⟩ := at_cases Hm.out Hok.out (m.sn + k)
      simp only [Cm.cells, List.cons_append, List.nil_append] at hat
      have Hat := Lib.hid hat
      obtain ⟨rz, nz, hrz, hnz, -, hz⟩ := run_ne fCmd a32 (xs := [.int .i64 xk, .int .i64 xcl, .int .i64 xop, .string xnm, .int .i64 xf1, .int .i64 xf2, .int .i64 xn1, .int .i64 xn2, .int .i64 xsz]) (ys := [.int .i64 0, .int .i64 0, .int .i64 0, .string ⟨#[]⟩, .int .i64 0, .int .i64 0, .int .i64 0, .int .i64 0, .int .i64 0]) (⟨xk, xcl, xop, xnm, xf1, xf2, xn1, xn2, xsz⟩ : Cm).fits cm0.fits
      have hzc : zcB [.int .i64 xk, .int .i64 xcl, .int .i64 xop, .string xnm, .int .i64 xf1, .int .i64 xf2, .int .i64 xn1, .int .i64 xn2, .int .i64 xsz] = rz := by
        rw [Bool.eq_iff_iff, hrz]
        exact zcB_iff ⟨xk, xcl, xop, xnm, xf1, xf2, xn1, xn2, xsz⟩
      have hst := Lib.hid (show learnedN m h (k + 1) = learnedN m h k ++ (if brings m h k [.int .i64 xk, .int .i64 xcl, .int .i64 xop, .string xnm, .int .i64 xf1, .int .i64 xf2, .int .i64 xn1, .int .i64 xn2, .int .i64 xsz] = true then [chI m.ka (m.sn + k) (cmOf [.int .i64 xk, .int .i64 xcl, .int .i64 xop, .string xnm, .int .i64 xf1, .int .i64 xf2, .int .i64 xn1, .int .i64 xn2, .int .i64 xsz])] else []) by rw [learnedN, hc]; rfl)
      have hlen := learnedN_len m h k
      have b0 : m.sn + k ≤ 9223372036854775806 := by omega
      have hbrE : brings m h k [.int .i64 xk, .int .i64 xcl, .int .i64 xop, .string xnm, .int .i64 xf1, .int .i64 xf2, .int .i64 xn1, .int .i64 xn2, .int .i64 xsz] = !(pd || (rz || (decide (m.sn + k ≤ h.upto) || decide (1048576 < m.sn + k)))) := by unfold brings; rw [hds, hzc]
      have Hbr := Lib.hid hbrE
      generalize hLk : learnedN m h k = Lk at *
      have Hcl := Lib.hid hcl
      have Hsz := Lib.hid hsz
      have Hu := Lib.hid (And.intro hu0 hu1)
      have Hlen := Lib.hid hlen
      have hkb : (k : Int) ≤ 1759218604442 := by omega
      have Hk := Lib.hid (And.intro hk hlt)
      clear hLk hc hat hds hzc hbrE hrz
      clear C3 Hmv Hmo Hbad H5 c1 c2 ove ovl hlen hk hcl hsz hu0 hu1
      obtain ⟨va, vcap, hvc, _⟩ := own_value HF
      subst hvc
      cases rz with
      | true =>
        have hnf : nz = false := hnz
        subst hnf
        clear hnz
        go_wp2_with (first | ((with_reducible refine k_alloc (T := 32) ?_); refine st_alloc rfl _ rfl _ z32 _ rfl HF ?_; (clear HF; intro g12 w HF K hK; simp only [Value.cells] at HF; go_simp)) | ((with_reducible refine k_store (T := 32) ?_); refine st_put rfl _ _ _ rfl _ rfl _ rfl ?_ s32 HF 0 rfl rfl ?_; (simp [Value.oneCell']); (clear HF; intro w HF K hK; simp only [List.set_cons_zero, List.set_cons_succ, Act.eval, Value.cells, Array.getD_eq_getD_getElem?, List.getElem?_toArray, List.getElem?_cons_succ, List.getElem?_cons_zero, Option.getD_some] at HF; go_simp)) | ((with_reducible refine k_load ?_); refine st_load rfl _ _ rfl _ _ rfl ?_ HF 3 rfl rfl ?_; (kernel_rfl); (intro K hK; go_simp)))
        apply wp_region_eff [] (fun i => (#[[], [], [], [], [], [], [], [], [], [], [], [], [], [], [], [], [], [], [], [], [], [], [], [], []] : Array (List Nat)).getD i []) (fun val i => ((_ :: _ :: _ :: _ :: _ :: _ :: _ :: .bool false :: undef :: undef :: undef :: undef :: undef :: _ :: .bool false :: undef :: undef :: _ :: .bool false :: undef :: undef :: undef :: undef :: undef :: _ :: []) : List Value).toArray.getD i undef) (fun E val => At W (Blk g12 (.cells #[.int .i64 0, .int .i64 0, .int .i64 0, .string ⟨#[]⟩, .int .i64 0, .int .i64 0, .int .i64 0, .int .i64 0, .int .i64 0] 32 (0, 0)) :: OwnRow 71 24 (.slice va Lk.length vcap) Lk.length Lk.flatten :: Blk g5 (.cells #[.int .i64 0, .bool false, .int .i64 0, .bool false, .int .i64 0, .int .i64 0, .int .i64 0, .int .i64 0, .int .i64 0, .int .i64 0, .int .i64 0, .int .i64 0, .int .i64 0, .int .i64 0, .int .i64 0, .slice none 0 0, .int .i64 0, .int .i64 0, .int .i64 0, .string ⟨#[]⟩, .int .i64 0, .int .i64 0, .int .i64 0, .int .i64 0, .int .i64 0, .int .i64 0, .slice none 0 0, .slice none 0 0, .slice none 0 0, .bool false] 39 (0, 0)) :: Blk gh (.cells #[.int .i64 h.sn, .int .i64 h.sc, vd, .int .i64 h.upto, ve2, vl2, vr] 44 (0, 0)) :: Blk gm (.cells #[.int .i64 m.kind, .bool m.fc, .int .i64 m.fi, .bool m.tc, .int .i64 m.ti, .int .i64 m.op, .int .i64 m.rd, .int .i64 m.kk, .int .i64 m.ka, .int .i64 m.kb, .int .i64 m.kc, .int .i64 m.sn, .int .i64 m.sc, .int .i64 m.hn, .int .i64 m.hc, .slice adb m.blk.length capb, .int .i64 m.cmd.k, .int .i64 m.cmd.cl, .int .i64 m.cmd.op, .string m.cmd.nm, .int .i64 m.cmd.f1, .int .i64 m.cmd.f2, .int .i64 m.cmd.n1, .int .i64 m.cmd.n2, .int .i64 m.cmd.sz, .int .i64 m.upto, ve, vl, .slice (some b) m.cmds.length cap, .bool m.more] 39 (0, 0)) :: Arg W :: [])) (by kernel_rfl) (by kernel_rfl) (by kernel_rfl) (by kernel_rfl) (HF)
        case step =>
          iterate 8 (refine ⟨eff_pl rfl (fun _ => by rfl) fun E val hn T ds w K H hk ho hK => ?_, ?_⟩; rotate_left)
          iterate 5 (refine ⟨eff_no rfl (fun _ => by rfl) (fun _ => rfl), ?_⟩)
          iterate 2 (refine ⟨eff_pl rfl (fun _ => by rfl) fun E val hn T ds w K H hk ho hK => ?_, ?_⟩; rotate_left)
          iterate 2 (refine ⟨eff_no rfl (fun _ => by rfl) (fun _ => rfl), ?_⟩)
          iterate 2 (refine ⟨eff_pl rfl (fun _ => by rfl) fun E val hn T ds w K H hk ho hK => ?_, ?_⟩; rotate_left)
          iterate 5 (refine ⟨eff_no rfl (fun _ => by rfl) (fun _ => rfl), ?_⟩)
          refine ⟨eff_pl rfl (fun _ => by rfl) fun E val hn T ds w K H hk ho hK => ?_, ?_⟩; rotate_left
          exact trivial
          · have o2 := ho 2 (by kernel_rfl); clear ho; simp [know, dstAt, Region.binds] at hk o2; go_simp; exact hK _ H
          · clear ho; simp [know, dstAt, Region.binds] at hk
            first | (refine op_loadT (v := .slice (some b) m.cmds.length cap) rfl hk (by kernel_rfl) H 4 rfl rfl ?_; exact hK _ H) | (refine op_loadT (v := .int .i64 h.upto) rfl hk (by kernel_rfl) H 3 rfl rfl ?_; exact hK _ H)
          · have o10 := ho 10 (by kernel_rfl); clear ho; simp [know, dstAt, Region.binds] at hk o10; go_simp; exact hK _ H
          · clear ho; simp [know, dstAt, Region.binds] at hk; go_simp; exact hK _ H
          · clear ho; simp [know, dstAt, Region.binds] at hk
            (refine op_cellsT (vs := [.int .i64 xk, .int .i64 xcl, .int .i64 xop, .string xnm, .int .i64 xf1, .int .i64 xf2, .int .i64 xn1, .int .i64 xn2, .int .i64 xsz]) rfl hk a32 s32 (fun j u hj => (H.ext 5 rfl).cell (Hcell.out j u hj)) ?_; exact hK _ H)
          · have o12 := ho 12 (by kernel_rfl); clear ho; simp [know, dstAt, Region.binds] at hk o12
            first | (refine op_rowT (T := 32) rfl o12 a32 s32 H 0 rfl rfl ?_; exact hK _ H) | (refine op_cellsT (vs := [.int .i64 xk, .int .i64 xcl, .int .i64 xop, .string xnm, .int .i64 xf1, .int .i64 xf2, .int .i64 xn1, .int .i64 xn2, .int .i64 xsz]) rfl hk a32 s32 (fun j u hj => (H.ext 5 rfl).cell (Hcell.out j u hj)) ?_; exact hK _ H)
          · clear ho; simp [know, dstAt, Region.binds] at hk; go_simp; exact hK _ H
          · clear ho; simp [know, dstAt, Region.binds] at hk; go_simp; exact hK _ H
          · clear ho; simp [know, dstAt, Region.binds] at hk; go_simp; exact hK _ H
          · clear ho; simp [know, dstAt, Region.binds] at hk; go_simp; exact hK _ H
          · clear ho; simp [know, dstAt, Region.binds] at hk; go_simp; exact hK _ H
          · clear ho; simp [know, dstAt, Region.binds] at hk; go_simp; exact hK _ H
          · clear ho; simp [know, dstAt, Region.binds] at hk; go_simp; exact hK _ H
        case ins =>
          iterate 25 (refine ⟨ins_pl rfl (fun _ _ _ => rfl), ?_⟩)
          exact trivial
        case jns =>
          iterate 25 (refine ⟨j_pl (fun _ _ _ => rfl), ?_⟩)
          exact trivial
        case fin =>
          intro E val w3 hE H
          clear HF hE
          have HF := H
          clear H
          simp [putAll, Act.put]
          have hbr : brings m h k [.int .i64 xk, .int .i64 xcl, .int .i64 xop, .string xnm, .int .i64 xf1, .int .i64 xf2, .int .i64 xn1, .int .i64 xn2, .int .i64 xsz] = false := by rw [Hbr.out]; simp
          rw [hbr] at hst
          go_wp2_with fail
          go_roundw
          case rel =>
            refine ⟨k + 1, by omega, by go_num, ?_⟩
            rw [hst.out, if_neg Bool.false_ne_true, List.append_nil]
            exact HF.sel 6 [1, 2, 3, 4, 5]
          case measure => simp [intOf]; omega
      | false =>
        have hnf : nz = true := hnz
        subst hnf
        clear hnz
        by_cases hu : m.sn + k ≤ h.upto
        · have hu2 : ¬ h.upto < m.sn + k := by omega
          go_wp2_with (first | ((with_reducible refine k_alloc (T := 32) ?_); refine st_alloc rfl _ rfl _ z32 _ rfl HF ?_; (clear HF; intro g12 w HF K hK; simp only [Value.cells] at HF; go_simp)) | ((with_reducible refine k_store (T := 32) ?_); refine st_put rfl _ _ _ rfl _ rfl _ rfl ?_ s32 HF 0 rfl rfl ?_; (simp [Value.oneCell']); (clear HF; intro w HF K hK; simp only [List.set_cons_zero, List.set_cons_succ, Act.eval, Value.cells, Array.getD_eq_getD_getElem?, List.getElem?_toArray, List.getElem?_cons_succ, List.getElem?_cons_zero, Option.getD_some] at HF; go_simp)) | ((with_reducible refine k_load ?_); refine st_load rfl _ _ rfl _ _ rfl ?_ HF 3 rfl rfl ?_; (kernel_rfl); (intro K hK; go_simp)))
          have hu3 : decide (h.upto < m.sn + (k : Int)) = false := decide_eq_false (by omega)
          apply wp_region_eff [] (fun i => (#[[], [], [], [], [], [], [], [], [], [], [], [], [], [], [], [], [], [], [], [], [], [], [], [], []] : Array (List Nat)).getD i []) (fun val i => ((_ :: _ :: _ :: _ :: _ :: _ :: _ :: .bool true :: _ :: _ :: _ :: _ :: _ :: _ :: .bool false :: undef :: undef :: _ :: .bool false :: undef :: undef :: undef :: undef :: undef :: _ :: []) : List Value).toArray.getD i undef) (fun E val => At W (Blk g12 (.cells #[.int .i64 0, .int .i64 0, .int .i64 0, .string ⟨#[]⟩, .int .i64 0, .int .i64 0, .int .i64 0, .int .i64 0, .int .i64 0] 32 (0, 0)) :: OwnRow 71 24 (.slice va Lk.length vcap) Lk.length Lk.flatten :: Blk g5 (.cells #[.int .i64 0, .bool false, .int .i64 0, .bool false, .int .i64 0, .int .i64 0, .int .i64 0, .int .i64 0, .int .i64 0, .int .i64 0, .int .i64 0, .int .i64 0, .int .i64 0, .int .i64 0, .int .i64 0, .slice none 0 0, .int .i64 0, .int .i64 0, .int .i64 0, .string ⟨#[]⟩, .int .i64 0, .int .i64 0, .int .i64 0, .int .i64 0, .int .i64 0, .int .i64 0, .slice none 0 0, .slice none 0 0, .slice none 0 0, .bool false] 39 (0, 0)) :: Blk gh (.cells #[.int .i64 h.sn, .int .i64 h.sc, vd, .int .i64 h.upto, ve2, vl2, vr] 44 (0, 0)) :: Blk gm (.cells #[.int .i64 m.kind, .bool m.fc, .int .i64 m.fi, .bool m.tc, .int .i64 m.ti, .int .i64 m.op, .int .i64 m.rd, .int .i64 m.kk, .int .i64 m.ka, .int .i64 m.kb, .int .i64 m.kc, .int .i64 m.sn, .int .i64 m.sc, .int .i64 m.hn, .int .i64 m.hc, .slice adb m.blk.length capb, .int .i64 m.cmd.k, .int .i64 m.cmd.cl, .int .i64 m.cmd.op, .string m.cmd.nm, .int .i64 m.cmd.f1, .int .i64 m.cmd.f2, .int .i64 m.cmd.n1, .int .i64 m.cmd.n2, .int .i64 m.cmd.sz, .int .i64 m.upto, ve, vl, .slice (some b) m.cmds.length cap, .bool m.more] 39 (0, 0)) :: Arg W :: [])) (by kernel_rfl) (by kernel_rfl) (by kernel_rfl) (by kernel_rfl) (HF)
          case step =>
            iterate 15 (refine ⟨eff_pl rfl (fun _ => by rfl) fun E val hn T ds w K H hk ho hK => ?_, ?_⟩; rotate_left)
            iterate 2 (refine ⟨eff_no rfl (fun _ => by rfl) (fun _ => rfl), ?_⟩)
            iterate 2 (refine ⟨eff_pl rfl (fun _ => by rfl) fun E val hn T ds w K H hk ho hK => ?_, ?_⟩; rotate_left)
            iterate 5 (refine ⟨eff_no rfl (fun _ => by rfl) (fun _ => rfl), ?_⟩)
            refine ⟨eff_pl rfl (fun _ => by rfl) fun E val hn T ds w K H hk ho hK => ?_, ?_⟩; rotate_left
            exact trivial
            · have o2 := ho 2 (by kernel_rfl); clear ho; simp [know, dstAt, Region.binds] at hk o2; go_simp; exact hK _ H
            · clear ho; simp [know, dstAt, Region.binds] at hk
              first | (refine op_loadT (v := .slice (some b) m.cmds.length cap) rfl hk (by kernel_rfl) H 4 rfl rfl ?_; exact hK _ H) | (refine op_loadT (v := .int .i64 h.upto) rfl hk (by kernel_rfl) H 3 rfl rfl ?_; exact hK _ H)
            · have o10 := ho 10 (by kernel_rfl); clear ho; simp [know, dstAt, Region.binds] at hk o10; go_simp; exact hK _ H
            · clear ho; simp [know, dstAt, Region.binds] at hk; go_simp; exact hK _ H
            · clear ho; simp [know, dstAt, Region.binds] at hk
              (refine op_cellsT (vs := [.int .i64 xk, .int .i64 xcl, .int .i64 xop, .string xnm, .int .i64 xf1, .int .i64 xf2, .int .i64 xn1, .int .i64 xn2, .int .i64 xsz]) rfl hk a32 s32 (fun j u hj => (H.ext 5 rfl).cell (Hcell.out j u hj)) ?_; exact hK _ H)
            · have o12 := ho 12 (by kernel_rfl); clear ho; simp [know, dstAt, Region.binds] at hk o12
              first | (refine op_rowT (T := 32) rfl o12 a32 s32 H 0 rfl rfl ?_; exact hK _ H) | (refine op_cellsT (vs := [.int .i64 xk, .int .i64 xcl, .int .i64 xop, .string xnm, .int .i64 xf1, .int .i64 xf2, .int .i64 xn1, .int .i64 xn2, .int .i64 xsz]) rfl hk a32 s32 (fun j u hj => (H.ext 5 rfl).cell (Hcell.out j u hj)) ?_; exact hK _ H)
            · clear ho; simp [know, dstAt, Region.binds] at hk; go_simp; exact hK _ H
            · clear ho; simp [know, dstAt, Region.binds] at hk; go_simp; exact hK _ H
            · have o11 := ho 11 (by kernel_rfl); clear ho; simp [know, dstAt, Region.binds] at hk o11; go_simp; exact hK _ H
            · have o3 := ho 3 (by kernel_rfl); clear ho; simp [know, dstAt, Region.binds] at hk o3; go_simp; exact hK _ H
            · clear ho; simp [know, dstAt, Region.binds] at hk; go_simp; exact hK _ H
            · clear ho; simp [know, dstAt, Region.binds] at hk
              first | (refine op_loadT (v := .slice (some b) m.cmds.length cap) rfl hk.1 (by kernel_rfl) H 4 rfl rfl ?_; exact hK _ H) | (refine op_loadT (v := .int .i64 h.upto) rfl hk.1 (by kernel_rfl) H 3 rfl rfl ?_; exact hK _ H)
            · clear ho; simp [know, dstAt, Region.binds] at hk; go_simp; exact hK _ H
            · clear ho; simp [know, dstAt, Region.binds] at hk; go_simp; exact hK _ H
            · clear ho; simp [know, dstAt, Region.binds] at hk; go_simp; exact hK _ H
            · clear ho; simp [know, dstAt, Region.binds] at hk; go_simp; exact hK _ H
            · clear ho; simp [know, dstAt, Region.binds] at hk; go_simp; exact hK _ H
            · clear ho; simp [know, dstAt, Region.binds] at hk; go_simp; exact hK _ H
          case ins =>
            iterate 25 (refine ⟨ins_pl rfl (fun _ _ _ => rfl), ?_⟩)
            exact trivial
          case jns =>
            iterate 25 (refine ⟨j_pl (fun _ _ _ => rfl), ?_⟩)
            exact trivial
          case fin =>
            intro E val w3 hE H
            clear HF hE
            have HF := H
            clear H
            simp [putAll, Act.put]
            have hbr : brings m h k [.int .i64 xk, .int .i64 xcl, .int .i64 xop, .string xnm, .int .i64 xf1, .int .i64 xf2, .int .i64 xn1, .int .i64 xn2, .int .i64 xsz] = false := by rw [Hbr.out]; simp [hu]
            rw [hbr] at hst
            go_wp2_with fail
            go_roundw
            case rel =>
              refine ⟨k + 1, by omega, by go_num, ?_⟩
              rw [hst.out, if_neg Bool.false_ne_true, List.append_nil]
              exact HF.sel 6 [1, 2, 3, 4, 5]
            case measure => simp [intOf]; omega
        · have hu2 : h.upto < m.sn + k := by omega
          by_cases hmx : 1048576 < m.sn + k
          · have hmx2 : ¬ m.sn + k ≤ 1048576 := by omega
            go_wp2_with (first | ((with_reducible refine k_alloc (T := 32) ?_); refine st_alloc rfl _ rfl _ z32 _ rfl HF ?_; (clear HF; intro g12 w HF K hK; simp only [Value.cells] at HF; go_simp)) | ((with_reducible refine k_store (T := 32) ?_); refine st_put rfl _ _ _ rfl _ rfl _ rfl ?_ s32 HF 0 rfl rfl ?_; (simp [Value.oneCell']); (clear HF; intro w HF K hK; simp only [List.set_cons_zero, List.set_cons_succ, Act.eval, Value.cells, Array.getD_eq_getD_getElem?, List.getElem?_toArray, List.getElem?_cons_succ, List.getElem?_cons_zero, Option.getD_some] at HF; go_simp)) | ((with_reducible refine k_load ?_); refine st_load rfl _ _ rfl _ _ rfl ?_ HF 3 rfl rfl ?_; (kernel_rfl); (intro K hK; go_simp)))
            have hmx3 : decide (m.sn + (k : Int) ≤ 1048576) = false := decide_eq_false (by omega)
            apply wp_region_eff [] (fun i => (#[[], [], [], [], [], [], [], [], [], [], [], [], [], [], [], [], [], [], [], [], [], [], [], [], []] : Array (List Nat)).getD i []) (fun val i => ((_ :: _ :: _ :: _ :: _ :: _ :: _ :: .bool true :: _ :: _ :: _ :: _ :: _ :: _ :: .bool true :: _ :: _ :: _ :: .bool false :: undef :: undef :: undef :: undef :: undef :: _ :: []) : List Value).toArray.getD i undef) (fun E val => At W (Blk g12 (.cells #[.int .i64 0, .int .i64 0, .int .i64 0, .string ⟨#[]⟩, .int .i64 0, .int .i64 0, .int .i64 0, .int .i64 0, .int .i64 0] 32 (0, 0)) :: OwnRow 71 24 (.slice va Lk.length vcap) Lk.length Lk.flatten :: Blk g5 (.cells #[.int .i64 0, .bool false, .int .i64 0, .bool false, .int .i64 0, .int .i64 0, .int .i64 0, .int .i64 0, .int .i64 0, .int .i64 0, .int .i64 0, .int .i64 0, .int .i64 0, .int .i64 0, .int .i64 0, .slice none 0 0, .int .i64 0, .int .i64 0, .int .i64 0, .string ⟨#[]⟩, .int .i64 0, .int .i64 0, .int .i64 0, .int .i64 0, .int .i64 0, .int .i64 0, .slice none 0 0, .slice none 0 0, .slice none 0 0, .bool false] 39 (0, 0)) :: Blk gh (.cells #[.int .i64 h.sn, .int .i64 h.sc, vd, .int .i64 h.upto, ve2, vl2, vr] 44 (0, 0)) :: Blk gm (.cells #[.int .i64 m.kind, .bool m.fc, .int .i64 m.fi, .bool m.tc, .int .i64 m.ti, .int .i64 m.op, .int .i64 m.rd, .int .i64 m.kk, .int .i64 m.ka, .int .i64 m.kb, .int .i64 m.kc, .int .i64 m.sn, .int .i64 m.sc, .int .i64 m.hn, .int .i64 m.hc, .slice adb m.blk.length capb, .int .i64 m.cmd.k, .int .i64 m.cmd.cl, .int .i64 m.cmd.op, .string m.cmd.nm, .int .i64 m.cmd.f1, .int .i64 m.cmd.f2, .int .i64 m.cmd.n1, .int .i64 m.cmd.n2, .int .i64 m.cmd.sz, .int .i64 m.upto, ve, vl, .slice (some b) m.cmds.length cap, .bool m.more] 39 (0, 0)) :: Arg W :: [])) (by kernel_rfl) (by kernel_rfl) (by kernel_rfl) (by kernel_rfl) (HF)
            case step =>
              iterate 19 (refine ⟨eff_pl rfl (fun _ => by rfl) fun E val hn T ds w K H hk ho hK => ?_, ?_⟩; rotate_left)
              iterate 5 (refine ⟨eff_no rfl (fun _ => by rfl) (fun _ => rfl), ?_⟩)
              refine ⟨eff_pl rfl (fun _ => by rfl) fun E val hn T ds w K H hk ho hK => ?_, ?_⟩; rotate_left
              exact trivial
              · have o2 := ho 2 (by kernel_rfl); clear ho; simp [know, dstAt, Region.binds] at hk o2; go_simp; exact hK _ H
              · clear ho; simp [know, dstAt, Region.binds] at hk
                first | (refine op_loadT (v := .slice (some b) m.cmds.length cap) rfl hk (by kernel_rfl) H 4 rfl rfl ?_; exact hK _ H) | (refine op_loadT (v := .int .i64 h.upto) rfl hk (by kernel_rfl) H 3 rfl rfl ?_; exact hK _ H)
              · have o10 := ho 10 (by kernel_rfl); clear ho; simp [know, dstAt, Region.binds] at hk o10; go_simp; exact hK _ H
              · clear ho; simp [know, dstAt, Region.binds] at hk; go_simp; exact hK _ H
              · clear ho; simp [know, dstAt, Region.binds] at hk
                (refine op_cellsT (vs := [.int .i64 xk, .int .i64 xcl, .int .i64 xop, .string xnm, .int .i64 xf1, .int .i64 xf2, .int .i64 xn1, .int .i64 xn2, .int .i64 xsz]) rfl hk a32 s32 (fun j u hj => (H.ext 5 rfl).cell (Hcell.out j u hj)) ?_; exact hK _ H)
              · have o12 := ho 12 (by kernel_rfl); clear ho; simp [know, dstAt, Region.binds] at hk o12
                first | (refine op_rowT (T := 32) rfl o12 a32 s32 H 0 rfl rfl ?_; exact hK _ H) | (refine op_cellsT (vs := [.int .i64 xk, .int .i64 xcl, .int .i64 xop, .string xnm, .int .i64 xf1, .int .i64 xf2, .int .i64 xn1, .int .i64 xn2, .int .i64 xsz]) rfl hk a32 s32 (fun j u hj => (H.ext 5 rfl).cell (Hcell.out j u hj)) ?_; exact hK _ H)
              · clear ho; simp [know, dstAt, Region.binds] at hk; go_simp; exact hK _ H
              · clear ho; simp [know, dstAt, Region.binds] at hk; go_simp; exact hK _ H
              · have o11 := ho 11 (by kernel_rfl); clear ho; simp [know, dstAt, Region.binds] at hk o11; go_simp; exact hK _ H
              · have o3 := ho 3 (by kernel_rfl); clear ho; simp [know, dstAt, Region.binds] at hk o3; go_simp; exact hK _ H
              · clear ho; simp [know, dstAt, Region.binds] at hk; go_simp; exact hK _ H
              · clear ho; simp [know, dstAt, Region.binds] at hk
                first | (refine op_loadT (v := .slice (some b) m.cmds.length cap) rfl hk.1 (by kernel_rfl) H 4 rfl rfl ?_; exact hK _ H) | (refine op_loadT (v := .int .i64 h.upto) rfl hk.1 (by kernel_rfl) H 3 rfl rfl ?_; exact hK _ H)
              · clear ho; simp [know, dstAt, Region.binds] at hk; go_simp; exact hK _ H
              · clear ho; simp [know, dstAt, Region.binds] at hk; go_simp; exact hK _ H
              · clear ho; simp [know, dstAt, Region.binds] at hk; go_simp; exact hK _ H
              · have o11 := ho 11 (by kernel_rfl); clear ho; simp [know, dstAt, Region.binds] at hk o11; go_simp; exact hK _ H
              · clear ho; simp [know, dstAt, Region.binds] at hk; go_simp; exact hK _ H
              · clear ho; simp [know, dstAt, Region.binds] at hk; go_simp; exact hK _ H
              · clear ho; simp [know, dstAt, Region.binds] at hk; go_simp; exact hK _ H
              · clear ho; simp [know, dstAt, Region.binds] at hk; go_simp; exact hK _ H
            case ins =>
              iterate 25 (refine ⟨ins_pl rfl (fun _ _ _ => rfl), ?_⟩)
              exact trivial
            case jns =>
              iterate 25 (refine ⟨j_pl (fun _ _ _ => rfl), ?_⟩)
              exact trivial
            case fin =>
              intro E val w3 hE H
              clear HF hE
              have HF := H
              clear H
              simp [putAll, Act.put]
              have hbr : brings m h k [.int .i64 xk, .int .i64 xcl, .int .i64 xop, .string xnm, .int .i64 xf1, .int .i64 xf2, .int .i64 xn1, .int .i64 xn2, .int .i64 xsz] = false := by rw [Hbr.out]; simp [hmx]
              rw [hbr] at hst
              go_wp2_with fail
              go_roundw
              case rel =>
                refine ⟨k + 1, by omega, by go_num, ?_⟩
                rw [hst.out, if_neg Bool.false_ne_true, List.append_nil]
                exact HF.sel 6 [1, 2, 3, 4, 5]
              case measure => simp [intOf]; omega
          · have hmx2 : m.sn + k ≤ 1048576 := by omega
            cases pd with
            | true =>
              go_wp2_with (first | ((with_reducible refine k_alloc (T := 32) ?_); refine st_alloc rfl _ rfl _ z32 _ rfl HF ?_; (clear HF; intro g12 w HF K hK; simp only [Value.cells] at HF; go_simp)) | ((with_reducible refine k_store (T := 32) ?_); refine st_put rfl _ _ _ rfl _ rfl _ rfl ?_ s32 HF 0 rfl rfl ?_; (simp [Value.oneCell']); (clear HF; intro w HF K hK; simp only [List.set_cons_zero, List.set_cons_succ, Act.eval, Value.cells, Array.getD_eq_getD_getElem?, List.getElem?_toArray, List.getElem?_cons_succ, List.getElem?_cons_zero, Option.getD_some] at HF; go_simp)) | ((with_reducible refine k_load ?_); refine st_load rfl _ _ rfl _ _ rfl ?_ HF 3 rfl rfl ?_; (kernel_rfl); (intro K hK; go_simp)))
              apply wp_region_eff [] (fun i => (#[[], [], [], [], [], [], [], [], [], [], [], [], [], [], [], [], [], [], [], [], [], [], [], [], []] : Array (List Nat)).getD i []) (fun val i => ((_ :: _ :: _ :: _ :: _ :: _ :: _ :: .bool true :: _ :: _ :: _ :: _ :: _ :: _ :: .bool true :: _ :: _ :: _ :: .bool true :: _ :: _ :: _ :: _ :: _ :: _ :: []) : List Value).toArray.getD i undef) (fun E val => At W (Blk g12 (.cells #[.int .i64 0, .int .i64 0, .int .i64 0, .string ⟨#[]⟩, .int .i64 0, .int .i64 0, .int .i64 0, .int .i64 0, .int .i64 0] 32 (0, 0)) :: OwnRow 71 24 (.slice va Lk.length vcap) Lk.length Lk.flatten :: Blk g5 (.cells #[.int .i64 0, .bool false, .int .i64 0, .bool false, .int .i64 0, .int .i64 0, .int .i64 0, .int .i64 0, .int .i64 0, .int .i64 0, .int .i64 0, .int .i64 0, .int .i64 0, .int .i64 0, .int .i64 0, .slice none 0 0, .int .i64 0, .int .i64 0, .int .i64 0, .string ⟨#[]⟩, .int .i64 0, .int .i64 0, .int .i64 0, .int .i64 0, .int .i64 0, .int .i64 0, .slice none 0 0, .slice none 0 0, .slice none 0 0, .bool false] 39 (0, 0)) :: Blk gh (.cells #[.int .i64 h.sn, .int .i64 h.sc, vd, .int .i64 h.upto, ve2, vl2, vr] 44 (0, 0)) :: Blk gm (.cells #[.int .i64 m.kind, .bool m.fc, .int .i64 m.fi, .bool m.tc, .int .i64 m.ti, .int .i64 m.op, .int .i64 m.rd, .int .i64 m.kk, .int .i64 m.ka, .int .i64 m.kb, .int .i64 m.kc, .int .i64 m.sn, .int .i64 m.sc, .int .i64 m.hn, .int .i64 m.hc, .slice adb m.blk.length capb, .int .i64 m.cmd.k, .int .i64 m.cmd.cl, .int .i64 m.cmd.op, .string m.cmd.nm, .int .i64 m.cmd.f1, .int .i64 m.cmd.f2, .int .i64 m.cmd.n1, .int .i64 m.cmd.n2, .int .i64 m.cmd.sz, .int .i64 m.upto, ve, vl, .slice (some b) m.cmds.length cap, .bool m.more] 39 (0, 0)) :: Arg W :: [])) (by kernel_rfl) (by kernel_rfl) (by kernel_rfl) (by kernel_rfl) (HF)
              case step =>
                iterate 25 (refine ⟨eff_pl rfl (fun _ => by rfl) fun E val hn T ds w K H hk ho hK => ?_, ?_⟩; rotate_left)
                exact trivial
                · have o2 := ho 2 (by kernel_rfl); clear ho; simp [know, dstAt, Region.binds] at hk o2; go_simp; exact hK _ H
                · clear ho; simp [know, dstAt, Region.binds] at hk
                  first | (refine op_loadT (v := .slice (some b) m.cmds.length cap) rfl hk (by kernel_rfl) H 4 rfl rfl ?_; exact hK _ H) | (refine op_loadT (v := .int .i64 h.upto) rfl hk (by kernel_rfl) H 3 rfl rfl ?_; exact hK _ H)
                · have o10 := ho 10 (by kernel_rfl); clear ho; simp [know, dstAt, Region.binds] at hk o10; go_simp; exact hK _ H
                · clear ho; simp [know, dstAt, Region.binds] at hk; go_simp; exact hK _ H
                · clear ho; simp [know, dstAt, Region.binds] at hk
                  (refine op_cellsT (vs := [.int .i64 xk, .int .i64 xcl, .int .i64 xop, .string xnm, .int .i64 xf1, .int .i64 xf2, .int .i64 xn1, .int .i64 xn2, .int .i64 xsz]) rfl hk a32 s32 (fun j u hj => (H.ext 5 rfl).cell (Hcell.out j u hj)) ?_; exact hK _ H)
                · have o12 := ho 12 (by kernel_rfl); clear ho; simp [know, dstAt, Region.binds] at hk o12
                  first | (refine op_rowT (T := 32) rfl o12 a32 s32 H 0 rfl rfl ?_; exact hK _ H) | (refine op_cellsT (vs := [.int .i64 xk, .int .i64 xcl, .int .i64 xop, .string xnm, .int .i64 xf1, .int .i64 xf2, .int .i64 xn1, .int .i64 xn2, .int .i64 xsz]) rfl hk a32 s32 (fun j u hj => (H.ext 5 rfl).cell (Hcell.out j u hj)) ?_; exact hK _ H)
                · clear ho; simp [know, dstAt, Region.binds] at hk; go_simp; exact hK _ H
                · clear ho; simp [know, dstAt, Region.binds] at hk; go_simp; exact hK _ H
                · have o11 := ho 11 (by kernel_rfl); clear ho; simp [know, dstAt, Region.binds] at hk o11; go_simp; exact hK _ H
                · have o3 := ho 3 (by kernel_rfl); clear ho; simp [know, dstAt, Region.binds] at hk o3; go_simp; exact hK _ H
                · clear ho; simp [know, dstAt, Region.binds] at hk; go_simp; exact hK _ H
                · clear ho; simp [know, dstAt, Region.binds] at hk
                  first | (refine op_loadT (v := .slice (some b) m.cmds.length cap) rfl hk.1 (by kernel_rfl) H 4 rfl rfl ?_; exact hK _ H) | (refine op_loadT (v := .int .i64 h.upto) rfl hk.1 (by kernel_rfl) H 3 rfl rfl ?_; exact hK _ H)
                · clear ho; simp [know, dstAt, Region.binds] at hk; go_simp; exact hK _ H
                · clear ho; simp [know, dstAt, Region.binds] at hk; go_simp; exact hK _ H
                · clear ho; simp [know, dstAt, Region.binds] at hk; go_simp; exact hK _ H
                · have o11 := ho 11 (by kernel_rfl); clear ho; simp [know, dstAt, Region.binds] at hk o11; go_simp; exact hK _ H
                · clear ho; simp [know, dstAt, Region.binds] at hk; go_simp; exact hK _ H
                · clear ho; simp [know, dstAt, Region.binds] at hk; go_simp; exact hK _ H
                · clear ho; simp [know, dstAt, Region.binds] at hk; go_simp; exact hK _ H
                · have o3 := ho 3 (by kernel_rfl); clear ho; simp [know, dstAt, Region.binds] at hk o3
                  (refine op_rowT (T := 44) rfl o3 a44 s44 H 3 rfl rfl ?_; exact hK _ H)
                · have o11 := ho 11 (by kernel_rfl); clear ho; simp [know, dstAt, Region.binds] at hk o11; go_simp; exact hK _ H
                · clear ho; simp [know, dstAt, Region.binds] at hk
                  (go_simp; refine (rat Hok.out Hsz.out (HV.out.r.ext (H.ext 5 rfl)) (m.sn + k) H).mono ?_; rintro e w' ⟨rfl, H⟩; rw [Hat.out]; exact hK _ H)
                · clear ho; simp [know, dstAt, Region.binds] at hk; go_simp; exact hK _ H
                · clear ho; simp [know, dstAt, Region.binds] at hk; go_simp; exact hK _ H
                · clear ho; simp [know, dstAt, Region.binds] at hk; go_simp; exact hK _ H
              case ins =>
                iterate 25 (refine ⟨ins_pl rfl (fun _ _ _ => rfl), ?_⟩)
                exact trivial
              case jns =>
                iterate 25 (refine ⟨j_pl (fun _ _ _ => rfl), ?_⟩)
                exact trivial
              case fin =>
                intro E val w3 hE H
                clear HF hE
                have HF := H
                clear H
                simp [putAll, Act.put]
                have hbr : brings m h k [.int .i64 xk, .int .i64 xcl, .int .i64 xop, .string xnm, .int .i64 xf1, .int .i64 xf2, .int .i64 xn1, .int .i64 xn2, .int .i64 xsz] = false := by rw [Hbr.out]; simp
                rw [hbr] at hst
                go_wp2_with fail
                go_roundw
                case rel =>
                  refine ⟨k + 1, by omega, by go_num, ?_⟩
                  rw [hst.out, if_neg Bool.false_ne_true, List.append_nil]
                  exact HF.sel 6 [1, 2, 3, 4, 5]
                case measure => simp [intOf]; omega
            | false =>
              have hlb : Lk.length ≤ 1048576 := by have := Hlen.out; omega
              go_wp2_with (first | ((with_reducible refine k_alloc (T := 32) ?_); refine st_alloc rfl _ rfl _ z32 _ rfl HF ?_; (clear HF; intro g12 w HF K hK; simp only [Value.cells] at HF; go_simp)) | ((with_reducible refine k_store (T := 32) ?_); refine st_put rfl _ _ _ rfl _ rfl _ rfl ?_ s32 HF 0 rfl rfl ?_; (simp [Value.oneCell']); (clear HF; intro w HF K hK; simp only [List.set_cons_zero, List.set_cons_succ, Act.eval, Value.cells, Array.getD_eq_getD_getElem?, List.getElem?_toArray, List.getElem?_cons_succ, List.getElem?_cons_zero, Option.getD_some] at HF; go_simp)) | ((with_reducible refine k_load ?_); refine st_load rfl _ _ rfl _ _ rfl ?_ HF 3 rfl rfl ?_; (kernel_rfl); (intro K hK; go_simp)))
              apply wp_region_eff [] (fun i => (#[[], [], [], [], [], [], [], [], [], [], [], [], [], [], [], [], [], [], [], [], [], [], [], [], []] : Array (List Nat)).getD i []) (fun val i => ((_ :: _ :: _ :: _ :: _ :: _ :: _ :: .bool true :: _ :: _ :: _ :: _ :: _ :: _ :: .bool true :: _ :: _ :: _ :: .bool true :: _ :: _ :: _ :: _ :: _ :: _ :: []) : List Value).toArray.getD i undef) (fun E val => At W (Blk g12 (.cells #[.int .i64 0, .int .i64 0, .int .i64 0, .string ⟨#[]⟩, .int .i64 0, .int .i64 0, .int .i64 0, .int .i64 0, .int .i64 0] 32 (0, 0)) :: OwnRow 71 24 (.slice va Lk.length vcap) Lk.length Lk.flatten :: Blk g5 (.cells #[.int .i64 0, .bool false, .int .i64 0, .bool false, .int .i64 0, .int .i64 0, .int .i64 0, .int .i64 0, .int .i64 0, .int .i64 0, .int .i64 0, .int .i64 0, .int .i64 0, .int .i64 0, .int .i64 0, .slice none 0 0, .int .i64 0, .int .i64 0, .int .i64 0, .string ⟨#[]⟩, .int .i64 0, .int .i64 0, .int .i64 0, .int .i64 0, .int .i64 0, .int .i64 0, .slice none 0 0, .slice none 0 0, .slice none 0 0, .bool false] 39 (0, 0)) :: Blk gh (.cells #[.int .i64 h.sn, .int .i64 h.sc, vd, .int .i64 h.upto, ve2, vl2, vr] 44 (0, 0)) :: Blk gm (.cells #[.int .i64 m.kind, .bool m.fc, .int .i64 m.fi, .bool m.tc, .int .i64 m.ti, .int .i64 m.op, .int .i64 m.rd, .int .i64 m.kk, .int .i64 m.ka, .int .i64 m.kb, .int .i64 m.kc, .int .i64 m.sn, .int .i64 m.sc, .int .i64 m.hn, .int .i64 m.hc, .slice adb m.blk.length capb, .int .i64 m.cmd.k, .int .i64 m.cmd.cl, .int .i64 m.cmd.op, .string m.cmd.nm, .int .i64 m.cmd.f1, .int .i64 m.cmd.f2, .int .i64 m.cmd.n1, .int .i64 m.cmd.n2, .int .i64 m.cmd.sz, .int .i64 m.upto, ve, vl, .slice (some b) m.cmds.length cap, .bool m.more] 39 (0, 0)) :: Arg W :: [])) (by kernel_rfl) (by kernel_rfl) (by kernel_rfl) (by kernel_rfl) (HF)
              case step =>
                iterate 25 (refine ⟨eff_pl rfl (fun _ => by rfl) fun E val hn T ds w K H hk ho hK => ?_, ?_⟩; rotate_left)
                exact trivial
                · have o2 := ho 2 (by kernel_rfl); clear ho; simp [know, dstAt, Region.binds] at hk o2; go_simp; exact hK _ H
                · clear ho; simp [know, dstAt, Region.binds] at hk
                  first | (refine op_loadT (v := .slice (some b) m.cmds.length cap) rfl hk (by kernel_rfl) H 4 rfl rfl ?_; exact hK _ H) | (refine op_loadT (v := .int .i64 h.upto) rfl hk (by kernel_rfl) H 3 rfl rfl ?_; exact hK _ H)
                · have o10 := ho 10 (by kernel_rfl); clear ho; simp [know, dstAt, Region.binds] at hk o10; go_simp; exact hK _ H
                · clear ho; simp [know, dstAt, Region.binds] at hk; go_simp; exact hK _ H
                · clear ho; simp [know, dstAt, Region.binds] at hk
                  (refine op_cellsT (vs := [.int .i64 xk, .int .i64 xcl, .int .i64 xop, .string xnm, .int .i64 xf1, .int .i64 xf2, .int .i64 xn1, .int .i64 xn2, .int .i64 xsz]) rfl hk a32 s32 (fun j u hj => (H.ext 5 rfl).cell (Hcell.out j u hj)) ?_; exact hK _ H)
                · have o12 := ho 12 (by kernel_rfl); clear ho; simp [know, dstAt, Region.binds] at hk o12
                  first | (refine op_rowT (T := 32) rfl o12 a32 s32 H 0 rfl rfl ?_; exact hK _ H) | (refine op_cellsT (vs := [.int .i64 xk, .int .i64 xcl, .int .i64 xop, .string xnm, .int .i64 xf1, .int .i64 xf2, .int .i64 xn1, .int .i64 xn2, .int .i64 xsz]) rfl hk a32 s32 (fun j u hj => (H.ext 5 rfl).cell (Hcell.out j u hj)) ?_; exact hK _ H)
                · clear ho; simp [know, dstAt, Region.binds] at hk; go_simp; exact hK _ H
                · clear ho; simp [know, dstAt, Region.binds] at hk; go_simp; exact hK _ H
                · have o11 := ho 11 (by kernel_rfl); clear ho; simp [know, dstAt, Region.binds] at hk o11; go_simp; exact hK _ H
                · have o3 := ho 3 (by kernel_rfl); clear ho; simp [know, dstAt, Region.binds] at hk o3; go_simp; exact hK _ H
                · clear ho; simp [know, dstAt, Region.binds] at hk; go_simp; exact hK _ H
                · clear ho; simp [know, dstAt, Region.binds] at hk
                  first | (refine op_loadT (v := .slice (some b) m.cmds.length cap) rfl hk.1 (by kernel_rfl) H 4 rfl rfl ?_; exact hK _ H) | (refine op_loadT (v := .int .i64 h.upto) rfl hk.1 (by kernel_rfl) H 3 rfl rfl ?_; exact hK _ H)
                · clear ho; simp [know, dstAt, Region.binds] at hk; go_simp; exact hK _ H
                · clear ho; simp [know, dstAt, Region.binds] at hk; go_simp; exact hK _ H
                · clear ho; simp [know, dstAt, Region.binds] at hk; go_simp; exact hK _ H
                · have o11 := ho 11 (by kernel_rfl); clear ho; simp [know, dstAt, Region.binds] at hk o11; go_simp; exact hK _ H
                · clear ho; simp [know, dstAt, Region.binds] at hk; go_simp; exact hK _ H
                · clear ho; simp [know, dstAt, Region.binds] at hk; go_simp; exact hK _ H
                · clear ho; simp [know, dstAt, Region.binds] at hk; go_simp; exact hK _ H
                · have o3 := ho 3 (by kernel_rfl); clear ho; simp [know, dstAt, Region.binds] at hk o3
                  (refine op_rowT (T := 44) rfl o3 a44 s44 H 3 rfl rfl ?_; exact hK _ H)
                · have o11 := ho 11 (by kernel_rfl); clear ho; simp [know, dstAt, Region.binds] at hk o11; go_simp; exact hK _ H
                · clear ho; simp [know, dstAt, Region.binds] at hk
                  (go_simp; refine (rat Hok.out Hsz.out (HV.out.r.ext (H.ext 5 rfl)) (m.sn + k) H).mono ?_; rintro e w' ⟨rfl, H⟩; rw [Hat.out]; exact hK _ H)
                · clear ho; simp [know, dstAt, Region.binds] at hk; go_simp; exact hK _ H
                · clear ho; simp [know, dstAt, Region.binds] at hk; go_simp; exact hK _ H
                · clear ho; simp [know, dstAt, Region.binds] at hk; go_simp; exact hK _ H
              case ins =>
                iterate 25 (refine ⟨ins_pl rfl (fun _ _ _ => rfl), ?_⟩)
                exact trivial
              case jns =>
                iterate 25 (refine ⟨j_pl (fun _ _ _ => rfl), ?_⟩)
                exact trivial
              case fin =>
                intro E val w3 hE H
                clear HF hE
                have HF := H
                clear H
                simp [putAll, Act.put]
                have hbr : brings m h k [.int .i64 xk, .int .i64 xcl, .int .i64 xop, .string xnm, .int .i64 xf1, .int .i64 xf2, .int .i64 xn1, .int .i64 xn2, .int .i64 xsz] = true := by rw [Hbr.out]; simp; omega
                rw [hbr] at hst
                go_wp2_with fail
                apply wp_region_effN [0, 13, 14] (fun i => (#[[], [], [], [], [], [], [], [], [], [], [], [], [], [], [0, 13], [0, 13, 14]] : Array (List Nat)).getD i []) (fun val i => ((val 0 :: _ :: _ :: _ :: _ :: _ :: _ :: _ :: _ :: _ :: _ :: _ :: _ :: val 13 :: val 14 :: _ :: []) : List Value).toArray.getD i undef) (fun E val => At W ((if E 14 = true then OwnRow 71 24 (val 14) (Lk.length + 1) (Lk.flatten ++ chI m.ka (m.sn + k) ⟨xk, xcl, xop, xnm, xf1, xf2, xn1, xn2, xsz⟩) else OwnRow 71 24 (.slice va Lk.length vcap) Lk.length Lk.flatten) :: (if E 13 = true then SlBlk (val 13) (chI m.ka (m.sn + k) ⟨xk, xcl, xop, xnm, xf1, xf2, xn1, xn2, xsz⟩).toArray 71 else emp) :: Blk g12 (.cells #[.int .i64 0, .int .i64 0, .int .i64 0, .string ⟨#[]⟩, .int .i64 0, .int .i64 0, .int .i64 0, .int .i64 0, .int .i64 0] 32 (0, 0)) :: Blk g5 (.cells #[.int .i64 0, .bool false, .int .i64 0, .bool false, .int .i64 0, .int .i64 0, .int .i64 0, .int .i64 0, .int .i64 0, .int .i64 0, .int .i64 0, .int .i64 0, .int .i64 0, .int .i64 0, .int .i64 0, .slice none 0 0, .int .i64 0, .int .i64 0, .int .i64 0, .string ⟨#[]⟩, .int .i64 0, .int .i64 0, .int .i64 0, .int .i64 0, .int .i64 0, .int .i64 0, .slice none 0 0, .slice none 0 0, .slice none 0 0, .bool false] 39 (0, 0)) :: Blk gh (.cells #[.int .i64 h.sn, .int .i64 h.sc, vd, .int .i64 h.upto, ve2, vl2, vr] 44 (0, 0)) :: Blk gm (.cells #[.int .i64 m.kind, .bool m.fc, .int .i64 m.fi, .bool m.tc, .int .i64 m.ti, .int .i64 m.op, .int .i64 m.rd, .int .i64 m.kk, .int .i64 m.ka, .int .i64 m.kb, .int .i64 m.kc, .int .i64 m.sn, .int .i64 m.sc, .int .i64 m.hn, .int .i64 m.hc, .slice adb m.blk.length capb, .int .i64 m.cmd.k, .int .i64 m.cmd.cl, .int .i64 m.cmd.op, .string m.cmd.nm, .int .i64 m.cmd.f1, .int .i64 m.cmd.f2, .int .i64 m.cmd.n1, .int .i64 m.cmd.n2, .int .i64 m.cmd.sz, .int .i64 m.upto, ve, vl, .slice (some b) m.cmds.length cap, .bool m.more] 39 (0, 0)) :: Arg W :: (if E 0 = true then pur (val 0 = .slice va Lk.length vcap) else emp) :: [])) (by kernel_rfl) (by kernel_rfl) (by kernel_rfl) (by kernel_rfl) ((HF.addEmp.addEmp).sel 8 [3, 0, 2, 4, 5, 6, 7, 1])
                case step =>
                  refine ⟨eff_mkN rfl (fun _ => by rfl) fun E val hE0 hcl hn T ds w K H hk ho hK => ?_, ?_⟩; rotate_left
                  iterate 12 (refine ⟨eff_plN rfl (fun _ => by rfl) fun E val hn T ds w K H hk ho hK => ?_, ?_⟩; rotate_left)
                  iterate 2 (refine ⟨eff_mkN rfl (fun _ => by rfl) fun E val hE0 hcl hn T ds w K H hk ho hK => ?_, ?_⟩; rotate_left)
                  refine ⟨eff_plN rfl (fun _ => by rfl) fun E val hn T ds w K H hk ho hK => ?_, ?_⟩; rotate_left
                  exact trivial
                  · have o7 := ho 7 (by kernel_rfl); clear ho; simp [know, dstAt, Region.binds] at hk o7
                    go_simp; refine hK _ _ ?_; have t0 : updE E 0 0 = true := rfl; simp only [t0, if_true]; exact (At.pure (rfl : (Value.slice va Lk.length vcap) = .slice va Lk.length vcap) H).sel 9 [1, 2, 3, 4, 5, 6, 7, 0]
                  · have o2 := ho 2 (by kernel_rfl); clear ho; simp [know, dstAt, Region.binds] at hk o2; go_simp; exact hK _ H
                  · clear ho; simp [know, dstAt, Region.binds] at hk; go_simp; exact hK _ H
                  · clear ho; simp [know, dstAt, Region.binds] at hk
                    first | (refine op_loadT (v := .slice (some b) m.cmds.length cap) rfl hk (by kernel_rfl) H 5 rfl rfl ?_; exact hK _ H) | (refine op_loadT (v := .int .i64 m.ka) rfl hk (by kernel_rfl) H 5 rfl rfl ?_; exact hK _ H) | (refine op_loadT rfl hk ?_ H 5 rfl rfl ?_; (kernel_rfl); exact hK _ H)
                  · have o11 := ho 11 (by kernel_rfl); clear ho; simp [know, dstAt, Region.binds] at hk o11; go_simp; exact hK _ H
                  · clear ho; simp [know, dstAt, Region.binds] at hk; go_simp; exact hK _ H
                  · have o2 := ho 2 (by kernel_rfl); clear ho; simp [know, dstAt, Region.binds] at hk o2; go_simp; exact hK _ H
                  · clear ho; simp [know, dstAt, Region.binds] at hk
                    first | (refine op_loadT (v := .slice (some b) m.cmds.length cap) rfl hk (by kernel_rfl) H 5 rfl rfl ?_; exact hK _ H) | (refine op_loadT (v := .int .i64 m.ka) rfl hk (by kernel_rfl) H 5 rfl rfl ?_; exact hK _ H) | (refine op_loadT rfl hk ?_ H 5 rfl rfl ?_; (kernel_rfl); exact hK _ H)
                  · have o10 := ho 10 (by kernel_rfl); clear ho; simp [know, dstAt, Region.binds] at hk o10; go_simp; exact hK _ H
                  · clear ho; simp [know, dstAt, Region.binds] at hk; go_simp; exact hK _ H
                  · clear ho; simp [know, dstAt, Region.binds] at hk
                    (refine op_cellsT (vs := [.int .i64 xk, .int .i64 xcl, .int .i64 xop, .string xnm, .int .i64 xf1, .int .i64 xf2, .int .i64 xn1, .int .i64 xn2, .int .i64 xsz]) rfl hk a32 s32 (fun j u hj => (H.ext 6 rfl).cell (Hcell.out j u hj)) ?_; exact hK _ H)
                  · clear ho; simp [know, dstAt, Region.binds] at hk; go_simp; exact hK _ H
                  · clear ho; simp [know, dstAt, Region.binds] at hk; go_simp; exact hK _ H
                  · clear ho; simp [know, dstAt, Region.binds] at hk
                    (have q14 : E 14 = false := (by cases h : E 14 with | false => rfl | true => (have h2 := hcl 14 (by decide) h 13 (by decide); rw [hE0] at h2; cases h2))); (simp only [hE0, q14, Bool.false_eq_true, if_false] at H); refine op_lit1T rfl (c := (chI m.ka (m.sn + k) ⟨xk, xcl, xop, xnm, xf1, xf2, xn1, xn2, xsz⟩).toArray) hk Try.underlying61 s71 z71 rfl rfl (by decide) (by decide) (H.sel 2 [0]) ?_; (intro x w' H; refine hK _ _ ?_; have t13 : updE E 13 13 = true := rfl; have t14 : updE E 13 14 = false := q14; simp only [t13, t14, Bool.false_eq_true, if_false, if_true]; exact H.sel 2 [1, 0])
                  · clear ho; simp [know, dstAt, Region.binds] at hk
                    (have e0 := hn 0 (by decide)); (have e13 := hn 13 (by decide)); (have t00 : updE E 14 0 = true := e0); (simp only [hE0, e0, e13, Bool.false_eq_true, if_false, if_true] at H); (have hv0 := (At.unpure (H.pick 7 rfl)).1); (obtain ⟨g, hv13, HS⟩ := sl_ex (H.pick 1 rfl)); (have HN := HS.pick 1 rfl); refine op_appendT rfl Try.underlying61 s71 (bytes := 248) (by kernel_rfl) z71 rfl (hk.1.trans hv0) (hk.2.trans hv13) HN rfl (fun _ => ⟨_, rfl, cells_of (HN.get 1 rfl)⟩) (chI_one _ _ _) (by simp only [maxLen]; omega) (by omega) ?_; (intro v' w' H2; refine hK _ _ ?_; have t13 : updE E 14 13 = true := e13; have t14 : updE E 14 14 = true := rfl; simp only [t00, t13, t14, if_true]; exact (At.imp (H2.pick 1 rfl) fun _ hh => (⟨g, hv13, hh⟩ : SlBlk (val 13) _ _ _)).sel 2 [1, 0])
                  · clear ho; simp [know, dstAt, Region.binds] at hk; go_simp; exact hK _ H
                case ins =>
                  refine ⟨ins_mk rfl (fun _ => rfl), ?_⟩
                  iterate 12 (refine ⟨ins_pl rfl (fun _ _ _ => rfl), ?_⟩)
                  iterate 2 (refine ⟨ins_mk rfl (fun _ => rfl), ?_⟩)
                  refine ⟨ins_pl rfl (fun val val' h => by first | rfl | ((have h0 := h 0 (by decide)); (have h13 := h 13 (by decide)); (have h14 := h 14 (by decide)); first | (simp only [h0, h13, h14]; done) | (simp only [h0, h13, h14]; rfl))), ?_⟩
                  exact trivial
                case jns =>
                  refine ⟨j_mk rfl, ?_⟩
                  iterate 12 (refine ⟨j_pl (fun _ _ _ => rfl), ?_⟩)
                  iterate 2 (refine ⟨j_mk rfl, ?_⟩)
                  refine ⟨j_pl (fun _ _ _ => rfl), ?_⟩
                  exact trivial
                case fin =>
                  intro E val w5 hE H
                  have e0 := hE 0 (by decide)
                  have e13 := hE 13 (by decide)
                  have e14 := hE 14 (by decide)
                  simp only [e0, e13, e14, if_true] at H
                  clear HF hE e0 e13 e14
                  have HF := H.sel 8 [0, 3, 4, 5, 6]
                  clear H
                  simp [putAll, Act.put]
                  go_wp2_with fail
                  go_roundw
                  case rel =>
                    refine ⟨k + 1, by omega, by go_num, ?_⟩
                    simp only [hst.out, if_true, List.length_append, List.flatten_append, List.flatten_cons, List.flatten_nil, List.append_nil, List.length_cons, List.length_nil, cmOf, Nat.zero_add]
                    exact HF
                  case measure => simp [intOf]; omega
    · have g1 : ¬ (k : Int) < m.cmds.length := by omega
      have hkn : k = m.cmds.length := by omega
      have Hkn := Lib.hid hkn
      clear hkn
      rw [Hkn.out] at HF
      obtain ⟨va, vcap, hvc, _⟩ := own_value HF
      subst hvc
      cases hmore : m.more with
      | false =>
        have hs := Lib.hid (show takeBS m h = (newsS m h m.cmds.length, mg0, false) by unfold takeBS; rw [if_neg Hbad.out, if_pos (Or.inl hmore), if_pos H5.out])
        go_wp2_with (first | ((with_reducible refine k_store (T := 39) ?_); refine st_put rfl _ _ _ rfl _ rfl _ rfl ?_ s39 HF 1 rfl rfl ?_; (simp [Value.oneCell']); (clear HF; intro w HF K hK; simp only [List.set_cons_zero, List.set_cons_succ, Act.eval, Value.cells, Array.getD_eq_getD_getElem?, List.getElem?_toArray, List.getElem?_cons_succ, List.getElem?_cons_zero, Option.getD_some] at HF; go_simp)) | ((with_reducible refine k_load ?_); refine st_load rfl _ _ rfl _ _ rfl ?_ HF 3 rfl rfl ?_; (kernel_rfl); (intro K hK; go_simp)))
        refine bodyPost_ret (results_three rfl rfl a39 s39 (HF.get 1 rfl) rfl rfl rfl) rfl ?_
        rw [hs.out]
        exact ⟨_, rfl, endT Hen.out.1 Hen.out.2 (HF.sel 5 [0, 4]) H0.out⟩
      | true =>
        by_cases h6 : m.cmds.length = 0
        · have hs := Lib.hid (show takeBS m h = (newsS m h m.cmds.length, mg0, false) by unfold takeBS; rw [if_neg Hbad.out, if_pos (Or.inr ⟨H5.out, h6⟩), if_pos H5.out])
          have hb6 : ((m.cmds.length : Int) == 0) = true := by simpa using h6
          have hb7 : (m.cmds.length == 0) = true := by simpa using h6
          clear h6
          go_wp2_with (first | ((with_reducible refine k_store (T := 39) ?_); refine st_put rfl _ _ _ rfl _ rfl _ rfl ?_ s39 HF 1 rfl rfl ?_; (simp [Value.oneCell']); (clear HF; intro w HF K hK; simp only [List.set_cons_zero, List.set_cons_succ, Act.eval, Value.cells, Array.getD_eq_getD_getElem?, List.getElem?_toArray, List.getElem?_cons_succ, List.getElem?_cons_zero, Option.getD_some] at HF; go_simp)) | ((with_reducible refine k_load ?_); refine st_load rfl _ _ rfl _ _ rfl ?_ HF 3 rfl rfl ?_; (kernel_rfl); (intro K hK; go_simp)))
          refine bodyPost_ret (results_three rfl rfl a39 s39 (HF.get 1 rfl) rfl rfl rfl) rfl ?_
          rw [hs.out]
          exact ⟨_, rfl, endT Hen.out.1 Hen.out.2 (HF.sel 5 [0, 4]) H0.out⟩
        · have hs := Lib.hid (show takeBS m h = (newsS m h m.cmds.length, onM m (m.sn + m.cmds.length), true) by unfold takeBS; rw [if_neg Hbad.out, if_neg (by simp [hmore, h6]), if_pos H5.out, if_pos H5.out])
          have hb6 : ((m.cmds.length : Int) == 0) = false := by simpa using h6
          have hb7 : (m.cmds.length == 0) = false := by simpa using h6
          clear h6
          go_wp2_with (first | ((with_reducible refine k_load ?_); refine st_load rfl _ _ rfl _ _ rfl ?_ HF 3 rfl rfl ?_; (kernel_rfl); (intro K hK; go_simp)))
          apply wp_region_eff [11] (fun i => (#[[], [], [], [], [], [], [], [], [], [], [], [], []] : Array (List Nat)).getD i []) (fun val i => ((_ :: _ :: _ :: _ :: _ :: _ :: _ :: _ :: _ :: _ :: _ :: val 11 :: _ :: []) : List Value).toArray.getD i undef) (fun E val => At W (OwnRow 71 24 (.slice va (learnedN m h m.cmds.length).length vcap) (learnedN m h m.cmds.length).length (learnedN m h m.cmds.length).flatten :: Blk g5 (.cells (if E 11 = true then #[.int .i64 21, .bool m.tc, .int .i64 m.ti, .bool m.fc, .int .i64 m.fi, .int .i64 0, .int .i64 0, .int .i64 m.kk, .int .i64 m.ka, .int .i64 m.kb, .int .i64 m.kc, .int .i64 (m.sn + m.cmds.length), .int .i64 0, .int .i64 0, .int .i64 0, .slice none 0 0, .int .i64 0, .int .i64 0, .int .i64 0, .string ⟨#[]⟩, .int .i64 0, .int .i64 0, .int .i64 0, .int .i64 0, .int .i64 0, .int .i64 0, .slice none 0 0, .slice none 0 0, .slice none 0 0, .bool false] else #[.int .i64 0, .bool false, .int .i64 0, .bool false, .int .i64 0, .int .i64 0, .int .i64 0, .int .i64 0, .int .i64 0, .int .i64 0, .int .i64 0, .int .i64 0, .int .i64 0, .int .i64 0, .int .i64 0, .slice none 0 0, .int .i64 0, .int .i64 0, .int .i64 0, .string ⟨#[]⟩, .int .i64 0, .int .i64 0, .int .i64 0, .int .i64 0, .int .i64 0, .int .i64 0, .slice none 0 0, .slice none 0 0, .slice none 0 0, .bool false]) 39 (0, 0)) :: Blk gh (.cells #[.int .i64 h.sn, .int .i64 h.sc, vd, .int .i64 h.upto, ve2, vl2, vr] 44 (0, 0)) :: Blk gm (.cells #[.int .i64 m.kind, .bool m.fc, .int .i64 m.fi, .bool m.tc, .int .i64 m.ti, .int .i64 m.op, .int .i64 m.rd, .int .i64 m.kk, .int .i64 m.ka, .int .i64 m.kb, .int .i64 m.kc, .int .i64 m.sn, .int .i64 m.sc, .int .i64 m.hn, .int .i64 m.hc, .slice adb m.blk.length capb, .int .i64 m.cmd.k, .int .i64 m.cmd.cl, .int .i64 m.cmd.op, .string m.cmd.nm, .int .i64 m.cmd.f1, .int .i64 m.cmd.f2, .int .i64 m.cmd.n1, .int .i64 m.cmd.n2, .int .i64 m.cmd.sz, .int .i64 m.upto, ve, vl, .slice ac m.cmds.length cap, .bool m.more] 39 (0, 0)) :: Arg W :: [])) (by kernel_rfl) (by kernel_rfl) (by kernel_rfl) (by kernel_rfl) (HF)
          case step =>
            iterate 11 (refine ⟨eff_pl rfl (fun _ => by rfl) fun E val hn T ds w K H hk ho hK => ?_, ?_⟩; rotate_left)
            refine ⟨eff_mk rfl (fun _ => by rfl) fun E val hE0 hcl hn T ds w K H hk ho hK => ?_, ?_⟩; rotate_left
            refine ⟨eff_pl rfl (fun _ => by rfl) fun E val hn T ds w K H hk ho hK => ?_, ?_⟩; rotate_left
            exact trivial
            · have o7 := ho 7 (by kernel_rfl); clear ho; simp [know, dstAt, Region.binds] at hk o7; go_simp; exact hK _ H
            · have o2 := ho 2 (by kernel_rfl); clear ho; simp [know, dstAt, Region.binds] at hk o2; go_simp; exact hK _ H
            · clear ho; simp [know, dstAt, Region.binds] at hk
              (refine op_loadsT (T := 23) (n := 2) rfl hk a23 s23 H 3 rfl rfl rfl ?_; exact hK _ H)
            · have o2 := ho 2 (by kernel_rfl); clear ho; simp [know, dstAt, Region.binds] at hk o2; go_simp; exact hK _ H
            · clear ho; simp [know, dstAt, Region.binds] at hk
              (refine op_loadsT (T := 23) (n := 2) rfl hk a23 s23 H 3 rfl rfl rfl ?_; exact hK _ H)
            · have o2 := ho 2 (by kernel_rfl); clear ho; simp [know, dstAt, Region.binds] at hk o2; go_simp; exact hK _ H
            · clear ho; simp [know, dstAt, Region.binds] at hk
              (refine op_loadsT (T := 25) (n := 4) rfl hk a25 s25 H 3 rfl rfl rfl ?_; exact hK _ H)
            · have o9 := ho 9 (by kernel_rfl); clear ho; simp [know, dstAt, Region.binds] at hk o9; go_simp; exact hK _ H
            · clear ho; simp [know, dstAt, Region.binds] at hk; go_simp; exact hK _ H
            · clear ho; simp [know, dstAt, Region.binds] at hk; go_simp; exact hK _ H
            · clear ho; simp [know, dstAt, Region.binds] at hk; go_simp; exact hK _ H
            · have o5 := ho 5 (by kernel_rfl); clear ho; simp [know, dstAt, Region.binds] at hk o5
              (simp only [hE0, Bool.false_eq_true, if_false] at H); refine op_putT rfl o5 hk.1 ?_ s39 H 1 rfl rfl rfl ?_; (simp [Value.oneCell']); (intro w' H; refine hK _ _ ?_; exact H)
            · clear ho; simp [know, dstAt, Region.binds] at hk; go_simp; exact hK _ H
          case ins =>
            iterate 11 (refine ⟨ins_pl rfl (fun _ _ _ => rfl), ?_⟩)
            refine ⟨ins_mk rfl (fun _ => rfl), ?_⟩
            refine ⟨ins_pl rfl (fun _ _ _ => rfl), ?_⟩
            exact trivial
          case jns =>
            iterate 11 (refine ⟨j_pl (fun _ _ _ => rfl), ?_⟩)
            refine ⟨j_mk rfl, ?_⟩
            refine ⟨j_pl (fun _ _ _ => rfl), ?_⟩
            exact trivial
          case fin =>
            intro E val w9 hE H
            have e11 := hE 11 (by decide)
            simp only [e11, if_true] at H
            clear HF hE e11
            have HF := H
            clear H
            simp [putAll, Act.put]
            go_wp2_with fail
            refine bodyPost_ret (results_three rfl rfl a39 s39 (HF.get 1 rfl) rfl rfl rfl) rfl ?_
            rw [hs.out]
            exact ⟨_, rfl, endT Hen.out.1 Hen.out.2 (HF.sel 5 [0, 4]) H0.out⟩
end
end Md
end Go.Proofs.Ytjobojgmadjmfaa
