/-
  mend.learned.
-/
import Derived.Test.YtjobojgmadjmfaaMdHave
namespace Go.Proofs.Ytjobojgmadjmfaa
open Go.Hp Go.RowKit
set_option linter.unusedVariables false
set_option linter.unusedSimpArgs false
set_option maxRecDepth 100000
set_option maxHeartbeats 4000000
namespace Md

theorem s87 : sizeT Try.prog 87 = some 24 := by kernel_rfl
theorem z32 : zeroT Try.prog 32 = some (.agg #[.int .i64 0, .int .i64 0, .int .i64 0, .string ⟨#[]⟩, .int .i64 0, .int .i64 0, .int .i64 0, .int .i64 0, .int .i64 0]) := by kernel_rfl

theorem cmd_cases {c : List Value} (h : Fits cmdK c) : ∃ x : Cm, c = x.cells := by
  match c, h with
  | [_, _, _, _, _, _, _, _, _], ⟨⟨a, rfl⟩, ⟨b, rfl⟩, ⟨c, rfl⟩, ⟨d, rfl⟩, ⟨e, rfl⟩, ⟨f, rfl⟩, ⟨g, rfl⟩, ⟨i, rfl⟩, ⟨j, rfl⟩, _⟩ => exact ⟨⟨a, b, c, d, e, f, g, i, j⟩, rfl⟩

def zcB (c : List Value) : Bool := match c with
  | [.int _ a, .int _ b, .int _ c, .string d, .int _ e, .int _ f, .int _ g, .int _ i, .int _ j] => a == 0 && (b == 0 && (c == 0 && (d.data.isEmpty && (e == 0 && (f == 0 && (g == 0 && (i == 0 && j == 0)))))))
  | _ => false

theorem zcB_iff (x : Cm) : zcB x.cells = true ↔ x.cells = zc := by
  rcases x with ⟨a, b, c, ⟨⟨d⟩⟩, e, f, g, i, j⟩
  simp [zcB, Cm.cells, zc]

theorem run_zc (x : Cm) (w : World) : (binOp .eql 32 (.agg x.cells.toArray) (.agg zc.toArray)).run Try.prog w = .ok (.bool (zcB x.cells)) w := by
  obtain ⟨r, h1, h2⟩ := run_eq_two (w := w) 9 (by decide) fCmd a32 x.fits cm0.fits
  rw [run_eql_struct]
  have e : (cm0.cells.toArray) = zc.toArray := rfl
  rw [e] at h1
  rw [h1]
  have e2 : cm0.cells = zc := rfl
  rw [e2] at h2
  have : r = zcB x.cells := by rw [Bool.eq_iff_iff, h2, zcB_iff]
  rw [this]
  rfl

/-- A record that a mend brings: an instance, decided. -/
def chI (ka n : Int) (c : Cm) : List Value :=
  [.int .i64 3, .int .i64 ka, .int .i64 n, .int .i64 0, .int .i64 0, .int .i64 0, nl, .int .i64 0, .int .i64 0, .int .i64 0, .int .i64 0,
    .int .i64 c.k, .int .i64 c.cl, .int .i64 c.op, .string c.nm, .int .i64 c.f1, .int .i64 c.f2, .int .i64 c.n1, .int .i64 c.n2, .int .i64 c.sz, .bool true, .int .i64 0, nl, nl]

theorem z87 : zeroT Try.prog 87 = some (.agg (chI 0 0 cm0 |>.set 0 (.int .i64 0) |>.set 20 (.bool false)).toArray) := by kernel_rfl

theorem chI_one (ka n : Int) (c : Cm) : ∀ v ∈ chI ka n c, v.oneCell' = true := by
  intro v hv
  simp only [chI, List.mem_cons, List.not_mem_nil, or_false] at hv
  rcases hv with rfl | rfl | rfl | rfl | rfl | rfl | rfl | rfl | rfl | rfl | rfl | rfl | rfl | rfl | rfl | rfl | rfl | rfl | rfl | rfl | rfl | rfl | rfl | rfl <;> rfl

/-- The command of those cells. -/
def cmOf (c : List Value) : Cm := match c with
  | [.int _ a, .int _ b, .int _ c, .string d, .int _ e, .int _ f, .int _ g, .int _ i, .int _ j] => ⟨a, b, c, d, e, f, g, i, j⟩
  | _ => cm0

/-- Does the i-th command bring something? -/
def brings (m : Mg) (h : Hd) (i : Nat) (c : List Value) : Bool := !((decS h (m.sn + i)).isSome || (zcB c || (decide (m.sn + i ≤ h.upto) || decide (1048576 < m.sn + i))))

def learnedN (m : Mg) (h : Hd) : Nat → List (List Value)
  | 0 => []
  | k + 1 => learnedN m h k ++ match m.cmds[k]? with
    | some c => if brings m h k c = true then [chI m.ka (m.sn + k) (cmOf c)] else []
    | none => []

theorem learnedN_len (m : Mg) (h : Hd) : ∀ k, (learnedN m h k).length ≤ k
  | 0 => by simp [learnedN]
  | k + 1 => by
    have := learnedN_len m h k
    unfold learnedN
    rw [List.length_append]
    cases m.cmds[k]? with
    | none => simp; omega
    | some c =>
      dsimp only
      split <;> simp <;> omega

section
variable {w0 w : World} {L : List HProp}

theorem learned {m : Mg} {ab ae al ac : Value} (hmc : RecsAt w ac 9 m.cmds) (hfit : ∀ r ∈ m.cmds, Fits cmdK r) (hcl : m.cmds.length * 80 ≤ 140737488355328) (hs1 : 1 ≤ m.sn) (hs2 : m.sn ≤ 1048577) {h : Hd} {vd ve vl vr : Value} (hm : May h) (hok : h.Ok) (hsz : h.row.length ≤ 140737488355328) (hv : HdAt w h vd ve vl vr) (H : At w0 L w) :
    Calls Try.prog 53 #[.agg (mgV m ab ae al ac), .agg (hdV h vd ve vl vr)] w (fun e w' => ∃ v, e = .returned v ∧ At w0 (Hold v (learnedN m h m.cmds.length).length (learnedN m h m.cmds.length).flatten :: L) w') := by
  obtain ⟨W, rfl⟩ : ∃ W : World, W = w := ⟨_, rfl⟩
  have HF := At.of W
  have H0 := Lib.hid H
  have Hm := Lib.hid hm
  have Hv := Lib.hid hv
  obtain ⟨ad, cap, rfl, c1, c2, c3⟩ := hmc.value
  have Hc := Lib.hid hmc
  have Hfit := Lib.hid hfit
  have hu0 := hm.u0
  have hu1 := hm.u1
  clear hm hv H hmc hfit
  simp only [mgV, hdV]
  go_enter Try.func53, Try.ntmps53
  go_wp2_with (first | ((with_reducible refine k_box (T := 39) ?_); refine st_box rfl _ _ rfl _ rfl HF ?_; (clear HF; intro gm w HF K hK; simp only [Value.cells, Act.eval, Value.cells, Array.getD_eq_getD_getElem?, List.getElem?_toArray, List.getElem?_cons_succ, List.getElem?_cons_zero, Option.getD_some] at HF; go_simp)) | ((with_reducible refine k_box (T := 49) ?_); refine st_box rfl _ _ rfl _ rfl HF ?_; (clear HF; intro gh w HF K hK; simp only [Value.cells, Act.eval, Value.cells, Array.getD_eq_getD_getElem?, List.getElem?_toArray, List.getElem?_cons_succ, List.getElem?_cons_zero, Option.getD_some] at HF; go_simp)) | ((with_reducible refine k_load (T := 49) ?_); (first | refine st_row rfl _ _ rfl _ rfl a49 7 s49 HF 0 rfl rfl ?_ | refine st_row rfl _ _ rfl _ rfl a49 7 s49 HF 1 rfl rfl ?_); (intro K hK; go_simp)) | ((with_reducible refine k_load (T := 49) ?_); (first | refine st_loads rfl _ _ rfl _ _ rfl a49 7 s49 HF 0 rfl ?_ ?_ | refine st_loads rfl _ _ rfl _ _ rfl a49 7 s49 HF 1 rfl ?_ ?_); (simp); (intro K hK; go_simp)) | ((with_reducible refine k_load ?_); (first | refine st_load rfl _ _ rfl _ _ rfl ?_ HF 0 rfl rfl ?_ | refine st_load rfl _ _ rfl _ _ rfl ?_ HF 1 rfl rfl ?_ | refine st_load rfl _ _ rfl _ _ rfl ?_ HF 2 rfl rfl ?_ | refine st_load rfl _ _ rfl _ _ rfl ?_ HF 3 rfl rfl ?_); (kernel_rfl); (intro K hK; go_simp)))
  refine (dec h vd ve vl vr HF).mono ?_
  rintro e w2 ⟨gd, rfl, H1⟩
  replace HF := H1
  clear H1
  go_wp2_with (first | ((with_reducible refine k_load ?_); (first | refine st_load rfl _ _ rfl _ _ rfl ?_ HF 0 rfl rfl ?_ | refine st_load rfl _ _ rfl _ _ rfl ?_ HF 1 rfl rfl ?_ | refine st_load rfl _ _ rfl _ _ rfl ?_ HF 2 rfl rfl ?_ | refine st_load rfl _ _ rfl _ _ rfl ?_ HF 3 rfl rfl ?_); (kernel_rfl); (intro K hK; go_simp)))
  replace HF : At W (OwnRow 87 24 nl 0 [] :: Blk gm (.cells #[.int .i64 m.kind, .bool m.fc, .int .i64 m.fi, .bool m.tc, .int .i64 m.ti, .int .i64 m.op, .int .i64 m.rd, .int .i64 m.kk, .int .i64 m.ka, .int .i64 m.kb, .int .i64 m.kc, .int .i64 m.sn, .int .i64 m.sc, .int .i64 m.hn, .int .i64 m.hc, ab, .int .i64 m.cmd.k, .int .i64 m.cmd.cl, .int .i64 m.cmd.op, .string m.cmd.nm, .int .i64 m.cmd.f1, .int .i64 m.cmd.f2, .int .i64 m.cmd.n1, .int .i64 m.cmd.n2, .int .i64 m.cmd.sz, .int .i64 m.upto, ae, al, .slice ad m.cmds.length cap, .bool m.more] 39 (0, 0)) :: Blk gh (.cells #[.int .i64 h.sn, .int .i64 h.sc, vd, .int .i64 h.upto, ve, vl, vr] 49 (0, 0)) :: HdBlk gd h vd ve vl vr :: Arg W :: []) w2 := (own_nil HF 87 24).sel 5 [0, 3, 2, 1, 4]
  go_loopw [5, 17] (fun v i wr => ∃ k : Nat, k ≤ m.cmds.length ∧ i = .int .i64 k ∧ At W (OwnRow 87 24 v (learnedN m h k).length (learnedN m h k).flatten :: Blk gm (.cells #[.int .i64 m.kind, .bool m.fc, .int .i64 m.fi, .bool m.tc, .int .i64 m.ti, .int .i64 m.op, .int .i64 m.rd, .int .i64 m.kk, .int .i64 m.ka, .int .i64 m.kb, .int .i64 m.kc, .int .i64 m.sn, .int .i64 m.sc, .int .i64 m.hn, .int .i64 m.hc, ab, .int .i64 m.cmd.k, .int .i64 m.cmd.cl, .int .i64 m.cmd.op, .string m.cmd.nm, .int .i64 m.cmd.f1, .int .i64 m.cmd.f2, .int .i64 m.cmd.n1, .int .i64 m.cmd.n2, .int .i64 m.cmd.sz, .int .i64 m.upto, ae, al, .slice ad m.cmds.length cap, .bool m.more] 39 (0, 0)) :: Blk gh (.cells #[.int .i64 h.sn, .int .i64 h.sc, vd, .int .i64 h.upto, ve, vl, vr] 49 (0, 0)) :: HdBlk gd h vd ve vl vr :: Arg W :: []) wr) (fun _ i _ => m.cmds.length - (intOf i).toNat)
  case atStart => exact ⟨0, Nat.zero_le _, rfl, HF⟩
  case round =>
    clear HF
    obtain ⟨k, hk, rfl, HF⟩ := hrel
    by_cases hlt : k < m.cmds.length
    · have g1 : (k : Int) < m.cmds.length := by omega
      obtain ⟨c, hc⟩ : ∃ c, m.cmds[k]? = some c := ⟨_, List.getElem?_eq_getElem hlt⟩
      obtain ⟨⟨xk, xcl, xop, xnm, xf1, xf2, xn1, xn2, xsz⟩, rfl⟩ := cmd_cases (Hfit.out c (List.mem_of_getElem? hc))
      obtain ⟨b, rfl⟩ := c3 (by omega)
      have hcell := fun j u (hj : ([.int .i64 xk, .int .i64 xcl, .int .i64 xop, .string xnm, .int .i64 xf1, .int .i64 xf2, .int .i64 xn1, .int .i64 xn2, .int .i64 xsz] : List Value)[j]? = some u) => (HF.ext 4 rfl).cell (by
        have := Hc.out.cell rfl hc hj
        rwa [← Addr.add_add] at this)
      have Hcell := Lib.hid hcell
      have Hk := Lib.hid hc
      have hz : ∀ w, (binOp .eql 32 (.agg #[.int .i64 xk, .int .i64 xcl, .int .i64 xop, .string xnm, .int .i64 xf1, .int .i64 xf2, .int .i64 xn1, .int .i64 xn2, .int .i64 xsz]) (.agg #[.int .i64 0, .int .i64 0, .int .i64 0, .string ⟨#[]⟩, .int .i64 0, .int .i64 0, .int .i64 0, .int .i64 0, .int .i64 0])).run Try.prog w = .ok (.bool (zcB [.int .i64 xk, .int .i64 xcl, .int .i64 xop, .string xnm, .int .i64 xf1, .int .i64 xf2, .int .i64 xn1, .int .i64 xn2, .int .i64 xsz])) w := run_zc ⟨xk, xcl, xop, xnm, xf1, xf2, xn1, xn2, xsz⟩
      have hst := Lib.hid (show learnedN m h (k + 1) = learnedN m h k ++ (if brings m h k [.int .i64 xk, .int .i64 xcl, .int .i64 xop, .string xnm, .int .i64 xf1, .int .i64 xf2, .int .i64 xn1, .int .i64 xn2, .int .i64 xsz] = true then [chI m.ka (m.sn + k) (cmOf [.int .i64 xk, .int .i64 xcl, .int .i64 xop, .string xnm, .int .i64 xf1, .int .i64 xf2, .int .i64 xn1, .int .i64 xn2, .int .i64 xsz])] else []) by rw [learnedN, hc]; rfl)
      have hlen := learnedN_len m h k
      generalize hLk : learnedN m h k = Lk at *
      clear hLk hcell hc
      have b0 : m.sn + k ≤ 9223372036854775806 := by omega
      cases hd : decS h (m.sn + k) with
      | some cc =>
        have hbr : brings m h k [.int .i64 xk, .int .i64 xcl, .int .i64 xop, .string xnm, .int .i64 xf1, .int .i64 xf2, .int .i64 xn1, .int .i64 xn2, .int .i64 xsz] = false := by simp [brings, hd]
        rw [hbr] at hst
        have Hd := Lib.hid hd
        clear hd hbr
        have ob : ∀ v ∈ ([.int .i64 xk, .int .i64 xcl, .int .i64 xop, .string xnm, .int .i64 xf1, .int .i64 xf2, .int .i64 xn1, .int .i64 xn2, .int .i64 xsz] : List Value), v.oneCell' = true := (⟨xk, xcl, xop, xnm, xf1, xf2, xn1, xn2, xsz⟩ : Cm).fits.one
        go_wp2_with (first | ((with_reducible refine k_alloc (T := 32) ?_); refine st_alloc rfl _ rfl _ z32 _ rfl HF ?_; (clear HF; intro g8 w HF K hK; simp only [Value.cells] at HF; go_simp)) | ((with_reducible refine k_load (T := 32) ?_); refine st_loadCells rfl _ _ rfl _ rfl a32 [.int .i64 xk, .int .i64 xcl, .int .i64 xop, .string xnm, .int .i64 xf1, .int .i64 xf2, .int .i64 xn1, .int .i64 xn2, .int .i64 xsz] s32 Hcell.out ?_; (intro K hK; go_simp))    | ((with_reducible refine k_store (T := 32) ?_); refine st_put rfl _ _ _ rfl _ rfl _ rfl ?_ s32 HF 0 rfl rfl ?_; (exact ob); (clear HF; intro w3 HF K hK; go_simp)) | ((with_reducible refine k_load ?_); refine st_load rfl _ _ rfl _ _ rfl ?_ HF 2 rfl rfl ?_; (kernel_rfl); (intro K hK; go_simp)))
        refine (dec1 Hm.out.rise hok hsz (Hv.out.r.ext (HF.ext 5 rfl)) (m.sn + k) (HF.pick 4 rfl)).mono ?_
        rintro e w3 ⟨rfl, _, H1⟩
        rw [decV_eq, Hd.out]
        replace HF : At W (OwnRow 87 24 _ Lk.length Lk.flatten :: Blk g8 _ :: Blk gm _ :: Blk gh _ :: HdBlk gd h vd ve vl vr :: Arg W :: []) w3 := H1.sel 6 [2, 1, 3, 4, 0, 5]
        clear H1
        have Hl := Lib.hid (decC_len hok (m.sn + k))
        have Ho := Lib.hid (decC_one hok (m.sn + k))
        generalize decC h (m.sn + k) = c at *
        go_wp2_with (first | ((with_reducible refine k_alloc ?_); refine st_alloc rfl _ rfl (.agg zc.toArray) ?_ zc.toArray rfl HF ?_; (kernel_rfl); (clear HF; intro gc w4 HF K hK; go_simp))    | ((with_reducible refine k_store (T := 32) ?_); refine st_put rfl _ _ _ rfl _ rfl _ rfl ?_ ?_ HF 0 rfl ?_ ?_; (exact Ho.out); (rw [List.size_toArray, Hl.out]; exact s32); (rw [List.size_toArray, Hl.out]; rfl); (clear HF; intro w5 HF K hK; go_simp))    | ((with_reducible refine k_load (T := 32) ?_); refine st_row rfl _ _ rfl _ rfl a32 9 s32 HF 2 rfl rfl ?_; (intro K hK; go_simp)) | ((with_reducible refine k_load (T := 32) ?_); refine st_loads rfl _ _ rfl _ _ rfl a32 9 s32 HF 2 rfl ?_ ?_; (simp); (intro K hK; go_simp)) | ((with_reducible refine k_load ?_); refine st_load rfl _ _ rfl _ _ rfl ?_ HF 4 rfl rfl ?_; (kernel_rfl); (intro K hK; go_simp)))
        go_roundw
        case rel =>
          refine ⟨k + 1, by omega, by go_num, ?_⟩
          rw [hst.out, if_neg Bool.false_ne_true, List.append_nil]
          exact HF.sel 7 [1, 3, 4, 5, 6]
        case measure => simp [intOf]; omega
      | none =>
        cases hzc : zcB [.int .i64 xk, .int .i64 xcl, .int .i64 xop, .string xnm, .int .i64 xf1, .int .i64 xf2, .int .i64 xn1, .int .i64 xn2, .int .i64 xsz] with
        | true =>
          have hbr : brings m h k [.int .i64 xk, .int .i64 xcl, .int .i64 xop, .string xnm, .int .i64 xf1, .int .i64 xf2, .int .i64 xn1, .int .i64 xn2, .int .i64 xsz] = false := by simp [brings, hd, hzc]
          rw [hzc] at hz
          rw [hbr] at hst
          have Hd := Lib.hid hd
          clear hd hbr
          have ob : ∀ v ∈ ([.int .i64 xk, .int .i64 xcl, .int .i64 xop, .string xnm, .int .i64 xf1, .int .i64 xf2, .int .i64 xn1, .int .i64 xn2, .int .i64 xsz] : List Value), v.oneCell' = true := (⟨xk, xcl, xop, xnm, xf1, xf2, xn1, xn2, xsz⟩ : Cm).fits.one
          go_wp2_with (first | ((with_reducible refine k_alloc (T := 32) ?_); refine st_alloc rfl _ rfl _ z32 _ rfl HF ?_; (clear HF; intro g8 w HF K hK; simp only [Value.cells] at HF; go_simp)) | ((with_reducible refine k_load (T := 32) ?_); refine st_loadCells rfl _ _ rfl _ rfl a32 [.int .i64 xk, .int .i64 xcl, .int .i64 xop, .string xnm, .int .i64 xf1, .int .i64 xf2, .int .i64 xn1, .int .i64 xn2, .int .i64 xsz] s32 Hcell.out ?_; (intro K hK; go_simp))    | ((with_reducible refine k_store (T := 32) ?_); refine st_put rfl _ _ _ rfl _ rfl _ rfl ?_ s32 HF 0 rfl rfl ?_; (exact ob); (clear HF; intro w3 HF K hK; go_simp)) | ((with_reducible refine k_load ?_); refine st_load rfl _ _ rfl _ _ rfl ?_ HF 2 rfl rfl ?_; (kernel_rfl); (intro K hK; go_simp)))
          refine (dec1 Hm.out.rise hok hsz (Hv.out.r.ext (HF.ext 5 rfl)) (m.sn + k) (HF.pick 4 rfl)).mono ?_
          rintro e w3 ⟨rfl, _, H1⟩
          rw [decV_eq, Hd.out]
          replace HF : At W (OwnRow 87 24 _ Lk.length Lk.flatten :: Blk g8 _ :: Blk gm _ :: Blk gh _ :: HdBlk gd h vd ve vl vr :: Arg W :: []) w3 := H1.sel 6 [2, 1, 3, 4, 0, 5]
          clear H1
          have Hl := Lib.hid (decC_len hok (m.sn + k))
          have Ho := Lib.hid (decC_one hok (m.sn + k))
          generalize decC h (m.sn + k) = c at *
          go_wp2_with (first | ((with_reducible refine k_alloc ?_); refine st_alloc rfl _ rfl (.agg zc.toArray) ?_ zc.toArray rfl HF ?_; (kernel_rfl); (clear HF; intro gc w4 HF K hK; go_simp))    | ((with_reducible refine k_store (T := 32) ?_); refine st_put rfl _ _ _ rfl _ rfl _ rfl ?_ ?_ HF 0 rfl ?_ ?_; (exact Ho.out); (rw [List.size_toArray, Hl.out]; exact s32); (rw [List.size_toArray, Hl.out]; rfl); (clear HF; intro w5 HF K hK; go_simp))    | ((with_reducible refine k_load (T := 32) ?_); refine st_row rfl _ _ rfl _ rfl a32 9 s32 HF 2 rfl rfl ?_; (intro K hK; go_simp)) | ((with_reducible refine k_load (T := 32) ?_); refine st_loads rfl _ _ rfl _ _ rfl a32 9 s32 HF 2 rfl ?_ ?_; (simp); (intro K hK; go_simp)) | ((with_reducible refine k_load ?_); refine st_load rfl _ _ rfl _ _ rfl ?_ HF 4 rfl rfl ?_; (kernel_rfl); (intro K hK; go_simp)))
          go_roundw
          case rel =>
            refine ⟨k + 1, by omega, by go_num, ?_⟩
            rw [hst.out, if_neg Bool.false_ne_true, List.append_nil]
            exact HF.sel 7 [1, 3, 4, 5, 6]
          case measure => simp [intOf]; omega
        | false =>
          rw [hzc] at hz
          by_cases hu : m.sn + k ≤ h.upto
          · have hbr : brings m h k [.int .i64 xk, .int .i64 xcl, .int .i64 xop, .string xnm, .int .i64 xf1, .int .i64 xf2, .int .i64 xn1, .int .i64 xn2, .int .i64 xsz] = false := by simp [brings, hd, hzc, hu]
            rw [hbr] at hst
            have Hd := Lib.hid hd
            clear hd hbr
            have ob : ∀ v ∈ ([.int .i64 xk, .int .i64 xcl, .int .i64 xop, .string xnm, .int .i64 xf1, .int .i64 xf2, .int .i64 xn1, .int .i64 xn2, .int .i64 xsz] : List Value), v.oneCell' = true := (⟨xk, xcl, xop, xnm, xf1, xf2, xn1, xn2, xsz⟩ : Cm).fits.one
            go_wp2_with (first | ((with_reducible refine k_alloc (T := 32) ?_); refine st_alloc rfl _ rfl _ z32 _ rfl HF ?_; (clear HF; intro g8 w HF K hK; simp only [Value.cells] at HF; go_simp)) | ((with_reducible refine k_load (T := 32) ?_); refine st_loadCells rfl _ _ rfl _ rfl a32 [.int .i64 xk, .int .i64 xcl, .int .i64 xop, .string xnm, .int .i64 xf1, .int .i64 xf2, .int .i64 xn1, .int .i64 xn2, .int .i64 xsz] s32 Hcell.out ?_; (intro K hK; go_simp))    | ((with_reducible refine k_store (T := 32) ?_); refine st_put rfl _ _ _ rfl _ rfl _ rfl ?_ s32 HF 0 rfl rfl ?_; (exact ob); (clear HF; intro w3 HF K hK; go_simp)) | ((with_reducible refine k_load ?_); refine st_load rfl _ _ rfl _ _ rfl ?_ HF 2 rfl rfl ?_; (kernel_rfl); (intro K hK; go_simp)))
            refine (dec1 Hm.out.rise hok hsz (Hv.out.r.ext (HF.ext 5 rfl)) (m.sn + k) (HF.pick 4 rfl)).mono ?_
            rintro e w3 ⟨rfl, _, H1⟩
            rw [decV_eq, Hd.out]
            replace HF : At W (OwnRow 87 24 _ Lk.length Lk.flatten :: Blk g8 _ :: Blk gm _ :: Blk gh _ :: HdBlk gd h vd ve vl vr :: Arg W :: []) w3 := H1.sel 6 [2, 1, 3, 4, 0, 5]
            clear H1
            have Hl := Lib.hid (decC_len hok (m.sn + k))
            have Ho := Lib.hid (decC_one hok (m.sn + k))
            generalize decC h (m.sn + k) = c at *
            go_wp2_with (first | ((with_reducible refine k_alloc ?_); refine st_alloc rfl _ rfl (.agg zc.toArray) ?_ zc.toArray rfl HF ?_; (kernel_rfl); (clear HF; intro gc w4 HF K hK; go_simp))    | ((with_reducible refine k_store (T := 32) ?_); refine st_put rfl _ _ _ rfl _ rfl _ rfl ?_ ?_ HF 0 rfl ?_ ?_; (exact Ho.out); (rw [List.size_toArray, Hl.out]; exact s32); (rw [List.size_toArray, Hl.out]; rfl); (clear HF; intro w5 HF K hK; go_simp))    | ((with_reducible refine k_load (T := 32) ?_); refine st_row rfl _ _ rfl _ rfl a32 9 s32 HF 2 rfl rfl ?_; (intro K hK; go_simp)) | ((with_reducible refine k_load (T := 32) ?_); refine st_loads rfl _ _ rfl _ _ rfl a32 9 s32 HF 2 rfl ?_ ?_; (simp); (intro K hK; go_simp)) | ((with_reducible refine k_load ?_); refine st_load rfl _ _ rfl _ _ rfl ?_ HF 4 rfl rfl ?_; (kernel_rfl); (intro K hK; go_simp)))
            go_roundw
            case rel =>
              refine ⟨k + 1, by omega, by go_num, ?_⟩
              rw [hst.out, if_neg Bool.false_ne_true, List.append_nil]
              exact HF.sel 7 [1, 3, 4, 5, 6]
            case measure => simp [intOf]; omega
          · by_cases hmx : 1048576 < m.sn + k
            · have hbr : brings m h k [.int .i64 xk, .int .i64 xcl, .int .i64 xop, .string xnm, .int .i64 xf1, .int .i64 xf2, .int .i64 xn1, .int .i64 xn2, .int .i64 xsz] = false := by simp [brings, hd, hzc, hu, hmx]
              rw [hbr] at hst
              have Hd := Lib.hid hd
              clear hd hbr
              have ob : ∀ v ∈ ([.int .i64 xk, .int .i64 xcl, .int .i64 xop, .string xnm, .int .i64 xf1, .int .i64 xf2, .int .i64 xn1, .int .i64 xn2, .int .i64 xsz] : List Value), v.oneCell' = true := (⟨xk, xcl, xop, xnm, xf1, xf2, xn1, xn2, xsz⟩ : Cm).fits.one
              go_wp2_with (first | ((with_reducible refine k_alloc (T := 32) ?_); refine st_alloc rfl _ rfl _ z32 _ rfl HF ?_; (clear HF; intro g8 w HF K hK; simp only [Value.cells] at HF; go_simp)) | ((with_reducible refine k_load (T := 32) ?_); refine st_loadCells rfl _ _ rfl _ rfl a32 [.int .i64 xk, .int .i64 xcl, .int .i64 xop, .string xnm, .int .i64 xf1, .int .i64 xf2, .int .i64 xn1, .int .i64 xn2, .int .i64 xsz] s32 Hcell.out ?_; (intro K hK; go_simp))    | ((with_reducible refine k_store (T := 32) ?_); refine st_put rfl _ _ _ rfl _ rfl _ rfl ?_ s32 HF 0 rfl rfl ?_; (exact ob); (clear HF; intro w3 HF K hK; go_simp)) | ((with_reducible refine k_load ?_); refine st_load rfl _ _ rfl _ _ rfl ?_ HF 2 rfl rfl ?_; (kernel_rfl); (intro K hK; go_simp)))
              refine (dec1 Hm.out.rise hok hsz (Hv.out.r.ext (HF.ext 5 rfl)) (m.sn + k) (HF.pick 4 rfl)).mono ?_
              rintro e w3 ⟨rfl, _, H1⟩
              rw [decV_eq, Hd.out]
              replace HF : At W (OwnRow 87 24 _ Lk.length Lk.flatten :: Blk g8 _ :: Blk gm _ :: Blk gh _ :: HdBlk gd h vd ve vl vr :: Arg W :: []) w3 := H1.sel 6 [2, 1, 3, 4, 0, 5]
              clear H1
              have Hl := Lib.hid (decC_len hok (m.sn + k))
              have Ho := Lib.hid (decC_one hok (m.sn + k))
              generalize decC h (m.sn + k) = c at *
              go_wp2_with (first | ((with_reducible refine k_alloc ?_); refine st_alloc rfl _ rfl (.agg zc.toArray) ?_ zc.toArray rfl HF ?_; (kernel_rfl); (clear HF; intro gc w4 HF K hK; go_simp))    | ((with_reducible refine k_store (T := 32) ?_); refine st_put rfl _ _ _ rfl _ rfl _ rfl ?_ ?_ HF 0 rfl ?_ ?_; (exact Ho.out); (rw [List.size_toArray, Hl.out]; exact s32); (rw [List.size_toArray, Hl.out]; rfl); (clear HF; intro w5 HF K hK; go_simp))    | ((with_reducible refine k_load (T := 32) ?_); refine st_row rfl _ _ rfl _ rfl a32 9 s32 HF 2 rfl rfl ?_; (intro K hK; go_simp)) | ((with_reducible refine k_load (T := 32) ?_); refine st_loads rfl _ _ rfl _ _ rfl a32 9 s32 HF 2 rfl ?_ ?_; (simp); (intro K hK; go_simp)) | ((with_reducible refine k_load ?_); refine st_load rfl _ _ rfl _ _ rfl ?_ HF 4 rfl rfl ?_; (kernel_rfl); (intro K hK; go_simp)))
              go_roundw
              case rel =>
                refine ⟨k + 1, by omega, by go_num, ?_⟩
                rw [hst.out, if_neg Bool.false_ne_true, List.append_nil]
                exact HF.sel 7 [1, 3, 4, 5, 6]
              case measure => simp [intOf]; omega
            · have hbr : brings m h k [.int .i64 xk, .int .i64 xcl, .int .i64 xop, .string xnm, .int .i64 xf1, .int .i64 xf2, .int .i64 xn1, .int .i64 xn2, .int .i64 xsz] = true := by simp [brings, hd, hzc, hu, hmx]
              rw [hbr] at hst
              have Hd := Lib.hid hd
              clear hd hbr
              have ob : ∀ v ∈ ([.int .i64 xk, .int .i64 xcl, .int .i64 xop, .string xnm, .int .i64 xf1, .int .i64 xf2, .int .i64 xn1, .int .i64 xn2, .int .i64 xsz] : List Value), v.oneCell' = true := (⟨xk, xcl, xop, xnm, xf1, xf2, xn1, xn2, xsz⟩ : Cm).fits.one
              go_wp2_with (first | ((with_reducible refine k_alloc (T := 32) ?_); refine st_alloc rfl _ rfl _ z32 _ rfl HF ?_; (clear HF; intro g8 w HF K hK; simp only [Value.cells] at HF; go_simp)) | ((with_reducible refine k_load (T := 32) ?_); refine st_loadCells rfl _ _ rfl _ rfl a32 [.int .i64 xk, .int .i64 xcl, .int .i64 xop, .string xnm, .int .i64 xf1, .int .i64 xf2, .int .i64 xn1, .int .i64 xn2, .int .i64 xsz] s32 Hcell.out ?_; (intro K hK; go_simp))    | ((with_reducible refine k_store (T := 32) ?_); refine st_put rfl _ _ _ rfl _ rfl _ rfl ?_ s32 HF 0 rfl rfl ?_; (exact ob); (clear HF; intro w3 HF K hK; go_simp)) | ((with_reducible refine k_load ?_); refine st_load rfl _ _ rfl _ _ rfl ?_ HF 2 rfl rfl ?_; (kernel_rfl); (intro K hK; go_simp)))
              refine (dec1 Hm.out.rise hok hsz (Hv.out.r.ext (HF.ext 5 rfl)) (m.sn + k) (HF.pick 4 rfl)).mono ?_
              rintro e w3 ⟨rfl, _, H1⟩
              rw [decV_eq, Hd.out]
              replace HF : At W (OwnRow 87 24 _ Lk.length Lk.flatten :: Blk g8 _ :: Blk gm _ :: Blk gh _ :: HdBlk gd h vd ve vl vr :: Arg W :: []) w3 := H1.sel 6 [2, 1, 3, 4, 0, 5]
              clear H1
              have Hl := Lib.hid (decC_len hok (m.sn + k))
              have Ho := Lib.hid (decC_one hok (m.sn + k))
              generalize decC h (m.sn + k) = c at *
              go_wp2_with (first | ((with_reducible refine k_alloc ?_); refine st_alloc rfl _ rfl (.agg zc.toArray) ?_ zc.toArray rfl HF ?_; (kernel_rfl); (clear HF; intro gc w4 HF K hK; go_simp))    | ((with_reducible refine k_store (T := 32) ?_); refine st_put rfl _ _ _ rfl _ rfl _ rfl ?_ ?_ HF 0 rfl ?_ ?_; (exact Ho.out); (rw [List.size_toArray, Hl.out]; exact s32); (rw [List.size_toArray, Hl.out]; rfl); (clear HF; intro w5 HF K hK; go_simp))    | ((with_reducible refine k_load (T := 32) ?_); refine st_row rfl _ _ rfl _ rfl a32 9 s32 HF 2 rfl rfl ?_; (intro K hK; go_simp)) | ((with_reducible refine k_load (T := 32) ?_); refine st_loads rfl _ _ rfl _ _ rfl a32 9 s32 HF 2 rfl ?_ ?_; (simp); (intro K hK; go_simp)) | ((with_reducible refine k_load ?_); (first | refine st_load rfl _ _ rfl _ _ rfl ?_ HF 3 rfl rfl ?_ | refine st_load rfl _ _ rfl _ _ rfl ?_ HF 4 rfl rfl ?_); (kernel_rfl); (intro K hK; go_simp))    | ((with_reducible refine k_lit ?_); refine st_lit1 rfl _ _ rfl (chI m.ka (m.sn + k) ⟨xk, xcl, xop, xnm, xf1, xf2, xn1, xn2, xsz⟩).toArray rfl 87 Try.underlying58 24 s87 _ z87 rfl rfl (by decide) (by decide) HF ?_; (clear HF; intro gl w6 HF K hK; replace HF := HF.sel 8 [2, 0, 3, 4, 5, 6, 7]; go_simp))    | ((with_reducible refine k_builtin ?_); refine st_append rfl _ _ _ rfl 87 Try.underlying58 24 s87 248 ?_ _ z87 rfl _ _ _ rfl HF (some ⟨gl, 0, none⟩) 1 1 (chI m.ka (m.sn + k) ⟨xk, xcl, xop, xnm, xf1, xf2, xn1, xn2, xsz⟩) rfl ?_ ?_ ?_ ?_ ?_ ?_; (kernel_rfl); (rfl); (intro _; exact ⟨_, rfl, cells_of (HF.get 1 rfl)⟩); (exact chI_one _ _ _); (simp only [maxLen]; omega); (omega); (clear HF; intro vc2 w7 HF K hK; go_simp)))
              go_roundw
              case rel =>
                refine ⟨k + 1, by omega, by go_num, ?_⟩
                simp only [hst.out, if_true, List.length_append, List.flatten_append, List.flatten_cons, List.flatten_nil, List.append_nil, List.length_cons, List.length_nil, cmOf, Nat.zero_add]
                exact HF.sel 7 [0, 3, 4, 5, 6]
              case measure => simp [intOf]; omega
    · have g1 : ¬ (k : Int) < m.cmds.length := by omega
      have hkn : k = m.cmds.length := by omega
      have Hkn := Lib.hid hkn
      clear hkn
      go_wp2_with fail
      go_ret
      rw [Hkn.out] at HF
      exact ⟨_, rfl, (show At W ([Hold _ _ _] ++ [Arg W]) _ from (hold_of own_own HF).sel 5 [0, 4]).lift H0.out⟩
end
end Md
end Go.Proofs.Ytjobojgmadjmfaa
