/-
  For any configuration and any keys the law RingUnlike answers true: a group's servers are unlike and of the configuration, all shares are one together.
-/
import Derived.Test.YtohfboolicheeaaRgArgs
import Derived.Test.YtohfboolicheeaaRgUnl
import Derived.ProofKit
namespace Go.Proofs.Ytohfboolicheeaa
open Go.Hp Go.RowKit Go.ChangeShapes Go.WideShapes
set_option linter.unusedVariables false
set_option linter.unusedSimpArgs false
set_option maxRecDepth 100000
namespace ringUnlike
open Rg
namespace Lw
abbrev arg_Config := @Rg.arg_Config
abbrev arg_keys := @Rg.arg_keys
end Lw
section
variable {W : World}

set_option maxHeartbeats 2000000 in
theorem walk {va vk : Value} {x : Cg} (ha : CfArg W va x) {ks : List Ky} (hk : KysArg W vk ks) :
    Calls Try.prog 8 #[va, vk] W fun e w => e = .returned (.bool true) ∧ Below W.heap.size W w := by
  obtain ⟨rfl, hs, hn, _⟩ := ha
  obtain ⟨c, S, vs⟩ := x
  obtain ⟨hk1, _⟩ := hk
  dsimp only at *
  have HF := At.of W
  obtain ⟨adk, capk, rfl, k1, k2, k3⟩ := hk1.value
  rw [List.length_map] at k1 k3 hk1
  have hk63 : ks.length ≤ 9223372036854775807 := by simp only [maxLen] at k2; omega
  have HK := Lib.hid hk1
  have K3 := Lib.hid k3
  obtain ⟨ads, caps, rfl, s1, s2, s3⟩ := hs.value
  rw [List.length_map] at hs s1 s3
  rw [List.length_map, List.length_map]
  have HS := Lib.hid hs
  have S3 := Lib.hid s3
  have HN := Lib.hid hn
  have hs63 : S.length ≤ 9223372036854775807 := by simp only [maxLen] at s2; omega
  have HIs := Lib.hid (fun (w2 : World) (M : List HProp) (w0 : World) (v2 : Value) (h2 : RecsAt w2 v2 1 (S.map iC)) (HM : At w0 M w2) => isC (c := c) h2 HM)
  have HMd := Lib.hid (fun (w2 : World) (M : List HProp) (w0 : World) (v2 : Value) (h2 : RecsAt w2 v2 1 (S.map iC)) (HM : At w0 M w2) => made (c := c) h2 hn HM)
  obtain ⟨cF, cP, cB, cK, cR⟩ := c
  dsimp only at HIs HMd
  clear hk1 k1 k2 k3 hs s1 s2 s3 hn
  simp only [Cg.cells]
  go_enter Try.func8, Try.ntmps8
  go_wp2_with (first | ((with_reducible refine k_box ?_); refine st_box rfl _ _ rfl _ rfl HF ?_; (clear HF; intro g2 w HF K hK; simp only [Value.cells, Act.eval, Value.cells, Array.getD_eq_getD_getElem?, List.getElem?_toArray, List.getElem?_cons_succ, List.getElem?_cons_zero, Option.getD_some] at HF; go_simp)))
  refine (known HF).mono ?_
  rintro e w1 ⟨rfl, HX⟩
  clear HF
  have HF := HX
  clear HX
  go_wp2_with (first | ((with_reducible refine k_load (T := 29) ?_); refine st_row rfl _ _ rfl _ rfl a29 6 s29 HF 0 rfl rfl ?_; (intro K hK; go_simp)) | ((with_reducible refine k_load (T := 29) ?_); refine st_loads rfl _ _ rfl _ _ rfl a29 6 s29 HF 0 rfl ?_ ?_; (simp); (intro K hK; go_simp)))
  refine (HIs.out _ _ _ _ (HS.out.ext (HF.ext 1 rfl)) HF).mono ?_
  rintro e w2 ⟨b, rfl, hb, HX⟩
  clear HF HIs
  have HF := HX
  clear HX
  have HB := Lib.hid hb
  clear hb
  cases b with
  | false =>
    go_wp2_with fail
    go_ret
    exact ⟨rfl, HF.below 1 rfl⟩
  | true =>
    go_wp2_with (first | ((with_reducible refine k_load (T := 29) ?_); refine st_row rfl _ _ rfl _ rfl a29 6 s29 HF 0 rfl rfl ?_; (intro K hK; go_simp)) | ((with_reducible refine k_load (T := 29) ?_); refine st_loads rfl _ _ rfl _ _ rfl a29 6 s29 HF 0 rfl ?_ ?_; (simp); (intro K hK; go_simp)))
    refine (HMd.out _ _ _ _ (HS.out.ext (HF.ext 1 rfl)) HF).mono ?_
    rintro e w3 (⟨hRC, gr, rfl, HX⟩ | ⟨hRC, rfl, HX⟩)
    case inr => exact absurd (HB.out.1 trivial) hRC
    clear HF HMd HB
    have hsm : ∀ q ∈ sortP (ptsOf (sortI S) cP.toNat), q.s ∈ S := fun q hq => (sortI_perm S).mem_iff.1 (pts_s hq)
    have HP := Lib.hid (pts_ok hRC)
    have HSM := Lib.hid hsm
    have HPP := Lib.hid (pts_pos (P := cP.toNat) hRC.s)
    have HRF := Lib.hid hRC.f
    have HRB := Lib.hid hRC.b
    have hS64 := hRC.n.2
    have HSD := Lib.hid hRC.d
    dsimp only at HP
    obtain ⟨pts, hpts⟩ : ∃ pts, sortP (ptsOf (sortI S) cP.toNat) = pts := ⟨_, rfl⟩
    obtain ⟨SS, hSS⟩ : ∃ SS, sortI S = SS := ⟨_, rfl⟩
    rw [hpts] at HP HSM HPP HX
    rw [hSS] at HX
    clear hpts hSS hRC hsm
    have HW := Lib.hid HX
    have R1 := Lib.hid (rgf_of (HX.pick 0 rfl))
    have HX1 := HX.get 1 rfl
    have HB2 := Lib.hid (fun (w4 : World) (hx : Ext w3 w4) j u (hj : ([.slice ads S.length caps, .int .i64 cF, .int .i64 cP, .int .i64 cB, .int .i64 cK, .int .i64 cR] : List Value)[j]? = some u) => hx.cell (cells_of HX1 j u hj))
    have XA := Lib.hid (HX.ext 2 rfl)
    clear HX1 HX
    have HF := At.of w3
    go_wp2_with fail
    refine (points0 HF _).mono ?_
    rintro e w4 ⟨gp, rfl, HX⟩
    clear HF
    have HF := HX.drop
    clear HX
    have hnf : ∀ w : World, (binOp .eql 60 (.func (.func 48) #[] #[.pointer (some ⟨gp, 0, none⟩)]) .nilFunc).run Try.prog w = .ok (.bool false) w := fun w => rfl
    go_wp2_with fail
    clear hnf
    have Hs6 := Lib.hid (show sizeT Try.prog 29 = some ([.slice ads S.length caps, .int .i64 cF, .int .i64 cP, .int .i64 cB, .int .i64 cK, .int .i64 cR] : List Value).length from s29)
    go_loopw [6] (fun i wr => ∃ k : Nat, k ≤ ks.length ∧ i = .int .i64 k ∧ At w3 (Arg w3 :: []) wr) (fun i _ => ks.length - (intOf i).toNat)
    case atStart => exact ⟨0, Nat.zero_le _, rfl, HF⟩
    case round =>
      clear HF
      obtain ⟨k, hk, rfl, HF⟩ := hrel
      by_cases hlt : k < ks.length
      · have gk : (k : Int) < ks.length := by omega
        obtain ⟨ky, hkk⟩ : ∃ ky, ks[k]? = some ky := ⟨_, List.getElem?_eq_getElem hlt⟩
        obtain ⟨bk, rfl⟩ := K3.out (by omega)
        have Hd := Lib.hid (fun (w4 : World) (hx : Ext w3 w4) j u hj => hx.cell (XA.out.cell (recs_get HK.out hkk j u hj)))
        clear hkk
        have HG1 := Lib.hid (fun (w4 : World) (M : List HProp) (hx : Ext w3 w4) (HM : At w3 M w4) => group (R1.out.ext hx) HP.out.s HP.out.l HP.out.p HRF.out HP.out.f ky HM)
        have GO := Lib.hid (group_ok HP.out HRF.out HSM.out ky)
        have HFs := Lib.hid (fun (w4 : World) (M : List HProp) (w0 : World) (s : Int) (hh : (allS pts (hashK (keyH ky) : Nat)).head? = some s) (hx : Ext w3 w4) (HM : At w0 M w4) => fstL (R1.out.ext hx) HP.out.l HP.out.s HP.out.b HPP.out ky hh HM)
        by_cases hky : KeyR ky cB
        · have HR2 := Lib.hid (fun (w2 : World) (M : List HProp) (w0 : World) (HM : At w0 M w2) => rkeyRightB (c := ⟨cF, cP, cB, cK, cR⟩) HM HRB.out (show true = true ↔ KeyR ky cB by simp [hky]) ads S.length caps)
          have HKY := Lib.hid hky
          clear hky
          obtain ⟨k1, k2, k3, k4⟩ := ky
          dsimp only at HR2 HG1 HFs
          go_wp2_with fail
          apply wp_region_eff [] (fun i => (#[[], [], [], [], [], [], []] : Array (List Nat)).getD i []) (fun val i => (([_, _, _, .agg #[.int .i64 k1, .int .i64 k2, .int .i64 k3, .int .i64 k4], .agg #[.slice ads S.length caps, .int .i64 cF, .int .i64 cP, .int .i64 cB, .int .i64 cK, .int .i64 cR], .bool true, .bool false]) : List Value).toArray.getD i undef) (fun E val => At w3 (Arg w3 :: [])) (by kernel_rfl) (by kernel_rfl) (by kernel_rfl) (by kernel_rfl) (HF)
          case step =>
            iterate 7 (refine ⟨eff_pl rfl (fun _ => by rfl) fun E val hn T ds w K H hk ho hK => ?_, ?_⟩; rotate_left)
            exact trivial
            · have o1 := ho 1 (by kernel_rfl); clear ho; simp [know, dstAt, Region.binds] at hk o1; go_simp; exact hK _ H
            · have o6 := ho 6 (by kernel_rfl); clear ho; simp [know, dstAt, Region.binds] at hk o6; go_simp; exact hK _ H
            · clear ho; simp [know, dstAt, Region.binds] at hk; go_simp; exact hK _ H
            · clear ho; simp [know, dstAt, Region.binds] at hk
              (refine op_cellsT (vs := [.int .i64 k1, .int .i64 k2, .int .i64 k3, .int .i64 k4]) rfl hk a38 s38 (Hd.out _ (H.ext 0 rfl)) ?_; exact hK _ H)
            · have o2 := ho 2 (by kernel_rfl); clear ho; simp [know, dstAt, Region.binds] at hk o2
              (refine op_cellsT (vs := [.slice ads S.length caps, .int .i64 cF, .int .i64 cP, .int .i64 cB, .int .i64 cK, .int .i64 cR]) rfl o2 a29 s29 (HB2.out _ (H.ext 0 rfl)) ?_; exact hK _ H)
            · clear ho; simp [know, dstAt, Region.binds] at hk
              (go_simp; refine (HR2.out _ _ _ H).mono ?_; rintro e w' ⟨rfl, H⟩; exact hK _ H)
            · clear ho; simp [know, dstAt, Region.binds] at hk; go_simp; exact hK _ H
          case ins =>
            iterate 7 (refine ⟨ins_pl rfl (fun _ _ _ => rfl), ?_⟩)
            exact trivial
          case jns =>
            iterate 7 (refine ⟨j_pl (fun _ _ _ => rfl), ?_⟩)
            exact trivial
          case fin =>
            intro E val w5 hE H
            clear HF hE
            have HF := H
            clear H
            simp [putAll, Act.put]
            go_wp2_with ((with_reducible refine k_load (T := 38) ?_); refine st_loadCells rfl _ _ rfl _ rfl a38 [.int .i64 k1, .int .i64 k2, .int .i64 k3, .int .i64 k4] s38 (Hd.out _ (HF.ext 0 rfl)) ?_; (intro K hK; go_simp))
            refine (HG1.out _ _ (HF.ext 0 rfl) HF).mono ?_
            rintro e w6 (⟨_, v, rfl, HX⟩ | ⟨hkn, _⟩)
            case inr => exact absurd HKY.out hkn
            clear HF HG1
            have hgl := GO.out.l
            obtain ⟨gl, hglq⟩ : ∃ gl, groupS pts (2 * cF + 1).toNat ⟨k1, k2, k3, k4⟩ = gl := ⟨_, rfl⟩
            dsimp only at GO hgl HX
            rw [hglq] at GO HX hgl
            clear hglq
            have hF3 := HRF.out
            (try dsimp only at hF3)
            obtain ⟨ga, capg, rfl, hcap⟩ := own_addr (by omega) HX
            have HRL := Lib.hid (oi_recs HX)
            have HW6 := Lib.hid HX
            have X6 := Lib.hid (HX.ext 1 rfl)
            clear HX
            have HF := At.of w6
            have hne : (((gl.length : Nat) : Int) == 2 * cF + 1) = true := by rw [beq_iff_eq]; exact hgl
            have hne2 : (((gl.length : Nat) : Int) != 2 * cF + 1) = false := by rw [bne, hne]; rfl
            have hlt1 : ¬ ((gl.length : Nat) : Int) < cF + 1 := by omega
            have hlt2 : decide (((gl.length : Nat) : Int) < cF + 1) = false := decide_eq_false hlt1
            have hw1 : wrap64 (2 * cF) = 2 * cF := wrap64_of (by omega) (by omega)
            have hw2 : wrap64 (2 * cF + 1) = 2 * cF + 1 := wrap64_of (by omega) (by omega)
            go_wp2_with (first | ((with_reducible refine k_load (T := 29) ?_); refine st_loadCells rfl _ _ rfl _ rfl a29 [.slice ads S.length caps, .int .i64 cF, .int .i64 cP, .int .i64 cB, .int .i64 cK, .int .i64 cR] Hs6.out (HB2.out _ (X6.out.trans (HF.ext 0 rfl))) ?_; (intro K hK; go_simp))                | ((with_reducible refine k_load ?_); refine st_load1 rfl _ _ rfl _ rfl rfl (HB2.out _ (X6.out.trans (HF.ext 0 rfl)) 1 _ rfl) ?_; (intro K hK; go_simp)))
            refine (majority HF _ ⟨cF, cP, cB, cK, cR⟩ HRF.out).mono ?_
            rintro e w7 ⟨rfl, HX⟩
            clear HF
            have HF := HX
            clear HX
            dsimp only
            go_wp2_with fail
            have HGL := Lib.hid hgl
            clear hw1 hw2 hlt1 hlt2 hne hne2 hgl
            have hgl8 : gl.length ≤ 7 := by have := HGL.out; omega
            clear hF3
            go_loopw [9] (fun i wr => ∃ a : Nat, a ≤ gl.length ∧ i = .int .i64 a ∧ At w6 (Arg w6 :: []) wr) (fun i _ => gl.length - (intOf i).toNat)
            case atStart => exact ⟨0, Nat.zero_le _, rfl, HF⟩
            case round =>
              clear HF
              obtain ⟨a, ha, rfl, HF⟩ := hrel
              by_cases hal : a < gl.length
              · have ga1 : (a : Int) < gl.length := by omega
                obtain ⟨x, hx⟩ : ∃ x, gl[a]? = some x := ⟨_, List.getElem?_eq_getElem hal⟩
                have Hx := Lib.hid (fun (w4 : World) (hx4 : Ext w6 w4) => hx4.cell (show w6.cell? ⟨ga, a, none⟩ = some (.int .i64 x) from by
                  have := recs_int HRL.out hx
                  rwa [Addr.add_lit, Nat.zero_add] at this))
                have hd1 : decide (x ∈ S) = true := decide_eq_true (GO.out.m x (List.mem_of_getElem? hx))
                have hd2 : decide (x ∈ gl.take a) = false := decide_eq_false (not_before GO.out.d hx)
                have HA1 := Lib.hid (fun (w4 : World) (M : List HProp) (w0 : World) (hx4 : Ext w6 w4) (HM : At w0 M w4) => hasB (HS.out.ext (XA.out.trans (X6.out.trans hx4))) hd1 HM)
                have HA2 := Lib.hid (fun (w4 : World) (M : List HProp) (w0 : World) (hx4 : Ext w6 w4) (HM : At w0 M w4) => hasB ((recs_take HRL.out ha).ext hx4) hd2 HM)
                clear hx hd1 hd2
                have hacap : a ≤ capg := by omega
                go_wp2_with fail
                apply wp_region_eff [] (fun i => (#[[], [], [], [], [], [], [], [], [], [], [], [], [], [], [], [], [], []] : Array (List Nat)).getD i []) (fun val i => ((_ :: .slice ads S.length caps :: _ :: _ :: _ :: .int .i64 x :: .bool true :: .bool false :: .bool false :: _ :: _ :: .slice (blkA ga) a capg :: _ :: _ :: _ :: .int .i64 x :: .bool false :: .bool false :: []) : List Value).toArray.getD i undef) (fun E val => At w6 (Arg w6 :: [])) (by kernel_rfl) (by kernel_rfl) (by kernel_rfl) (by kernel_rfl) (HF)
                case step =>
                  iterate 18 (refine ⟨eff_pl rfl (fun _ => by rfl) fun E val hn T ds w K H hk ho hK => ?_, ?_⟩; rotate_left)
                  exact trivial
                  · have o2 := ho 2 (by kernel_rfl); clear ho; simp [know, dstAt, Region.binds] at hk o2; go_simp; exact hK _ H
                  · clear ho; simp [know, dstAt, Region.binds] at hk
                    (refine op_load1T rfl hk (by kernel_rfl) (HB2.out _ (X6.out.trans (H.ext 0 rfl)) 0 _ rfl) ?_; exact hK _ H)
                  · have o7 := ho 7 (by kernel_rfl); clear ho; simp [know, dstAt, Region.binds] at hk o7; go_simp; exact hK _ H
                  · have o9 := ho 9 (by kernel_rfl); clear ho; simp [know, dstAt, Region.binds] at hk o9; go_simp; exact hK _ H
                  · clear ho; simp [know, dstAt, Region.binds] at hk; go_simp; exact hK _ H
                  · clear ho; simp [know, dstAt, Region.binds] at hk
                    (refine op_load1T rfl hk (by kernel_rfl) (Hx.out _ (H.ext 0 rfl)) ?_; exact hK _ H)
                  · clear ho; simp [know, dstAt, Region.binds] at hk
                    (go_simp; refine (HA1.out _ _ _ (H.ext 0 rfl) H).mono ?_; rintro e w' ⟨rfl, H⟩; exact hK _ H)
                  · clear ho; simp [know, dstAt, Region.binds] at hk; go_simp; exact hK _ H
                  · clear ho; simp [know, dstAt, Region.binds] at hk; go_simp; exact hK _ H
                  · have o7 := ho 7 (by kernel_rfl); clear ho; simp [know, dstAt, Region.binds] at hk o7; go_simp; exact hK _ H
                  · have o9 := ho 9 (by kernel_rfl); clear ho; simp [know, dstAt, Region.binds] at hk o9; go_simp; exact hK _ H
                  · clear ho; simp [know, dstAt, Region.binds] at hk
                    first | (refine op_sliceT rfl hk.1 hk.2.1 Try.underlying27 st3 hacap ?_; exact hK _ H) | (go_simp; exact hK _ H)
                  · have o7 := ho 7 (by kernel_rfl); clear ho; simp [know, dstAt, Region.binds] at hk o7; go_simp; exact hK _ H
                  · have o9 := ho 9 (by kernel_rfl); clear ho; simp [know, dstAt, Region.binds] at hk o9; go_simp; exact hK _ H
                  · clear ho; simp [know, dstAt, Region.binds] at hk; go_simp; exact hK _ H
                  · clear ho; simp [know, dstAt, Region.binds] at hk
                    (refine op_load1T rfl hk.1 (by kernel_rfl) (Hx.out _ (H.ext 0 rfl)) ?_; exact hK _ H)
                  · clear ho; simp [know, dstAt, Region.binds] at hk
                    (go_simp; refine (HA2.out _ _ _ (H.ext 0 rfl) H).mono ?_; rintro e w' ⟨rfl, H⟩; exact hK _ H)
                  · clear ho; simp [know, dstAt, Region.binds] at hk; go_simp; exact hK _ H
                case ins =>
                  iterate 18 (refine ⟨ins_pl rfl (fun _ _ _ => rfl), ?_⟩)
                  exact trivial
                case jns =>
                  iterate 18 (refine ⟨j_pl (fun _ _ _ => rfl), ?_⟩)
                  exact trivial
                case fin =>
                  intro E val w8 hE H
                  clear HF hE
                  have HF := H
                  clear H
                  simp [putAll, Act.put]
                  go_wp2_with fail
                  go_roundw
                  case rel => exact ⟨a + 1, by omega, rfl, HF⟩
                  case measure => simp [intOf]; omega
              · have ga1 : ¬ (a : Int) < gl.length := by omega
                obtain ⟨s0, hs0, hh0⟩ := GO.out.h
                have Hx0 := Lib.hid (fun (w4 : World) (hx4 : Ext w6 w4) => hx4.cell (show w6.cell? ⟨ga, 0, none⟩ = some (.int .i64 s0) from by
                  have := recs_int HRL.out hs0
                  rwa [Addr.add_lit] at this))
                have HH0 := Lib.hid hh0
                have g00 : (0 : Int) < gl.length := by have := (List.getElem?_eq_some_iff.1 hs0).1; omega
                have g01 : 0 < gl.length := by omega
                clear hs0 hh0
                go_wp2_with fail
                apply wp_region_eff [] (fun i => (#[[], [], [], [], [], [], [], [], [], []] : Array (List Nat)).getD i []) (fun val i => (([_, _, _, _, .agg #[.int .i64 k1, .int .i64 k2, .int .i64 k3, .int .i64 k4], _, _, .int .i64 s0, .bool true, .bool false]) : List Value).toArray.getD i undef) (fun E val => At w6 (Arg w6 :: [])) (by kernel_rfl) (by kernel_rfl) (by kernel_rfl) (by kernel_rfl) (HF)
                case step =>
                  iterate 10 (refine ⟨eff_pl rfl (fun _ => by rfl) fun E val hn T ds w K H hk ho hK => ?_, ?_⟩; rotate_left)
                  exact trivial
                  · have o5 := ho 5 (by kernel_rfl); clear ho; simp [know, dstAt, Region.binds] at hk o5; go_simp; exact hK _ H
                  · have o1 := ho 1 (by kernel_rfl); clear ho; simp [know, dstAt, Region.binds] at hk o1; go_simp; exact hK _ H
                  · have o6 := ho 6 (by kernel_rfl); clear ho; simp [know, dstAt, Region.binds] at hk o6; go_simp; exact hK _ H
                  · clear ho; simp [know, dstAt, Region.binds] at hk; go_simp; exact hK _ H
                  · clear ho; simp [know, dstAt, Region.binds] at hk
                    (refine op_cellsT (vs := [.int .i64 k1, .int .i64 k2, .int .i64 k3, .int .i64 k4]) rfl hk a38 s38 (Hd.out _ (X6.out.trans (H.ext 0 rfl))) ?_; exact hK _ H)
                  · have o7 := ho 7 (by kernel_rfl); clear ho; simp [know, dstAt, Region.binds] at hk o7; go_simp; exact hK _ H
                  · clear ho; simp [know, dstAt, Region.binds] at hk; go_simp; exact hK _ H
                  · clear ho; simp [know, dstAt, Region.binds] at hk
                    (refine op_load1T rfl hk (by kernel_rfl) (Hx0.out _ (H.ext 0 rfl)) ?_; exact hK _ H)
                  · clear ho; simp [know, dstAt, Region.binds] at hk
                    (go_simp; refine (HFs.out _ _ _ _ HH0.out (X6.out.trans (H.ext 0 rfl)) H).mono ?_; rintro e w' ⟨rfl, H⟩; exact hK _ H)
                  · clear ho; simp [know, dstAt, Region.binds] at hk; go_simp; exact hK _ H
                case ins =>
                  iterate 10 (refine ⟨ins_pl rfl (fun _ _ _ => rfl), ?_⟩)
                  exact trivial
                case jns =>
                  iterate 10 (refine ⟨j_pl (fun _ _ _ => rfl), ?_⟩)
                  exact trivial
                case fin =>
                  intro E val w8 hE H
                  clear HF hE
                  have HF := H
                  clear H
                  simp [putAll, Act.put]
                  go_wp2_with fail
                  go_roundw
                  case rel => exact ⟨k + 1, by omega, rfl, (HF.lift0 HW6.out).drop⟩
                  case measure => simp [intOf]; omega
        · have HR2 := Lib.hid (fun (w2 : World) (M : List HProp) (w0 : World) (HM : At w0 M w2) => rkeyRightB (c := ⟨cF, cP, cB, cK, cR⟩) HM HRB.out (show false = true ↔ KeyR ky cB by simp [hky]) ads S.length caps)
          clear hky
          obtain ⟨k1, k2, k3, k4⟩ := ky
          dsimp only at HR2
          go_wp2_with fail
          apply wp_region_eff [] (fun i => (#[[], [], [], [], [], [], []] : Array (List Nat)).getD i []) (fun val i => (([_, _, _, .agg #[.int .i64 k1, .int .i64 k2, .int .i64 k3, .int .i64 k4], .agg #[.slice ads S.length caps, .int .i64 cF, .int .i64 cP, .int .i64 cB, .int .i64 cK, .int .i64 cR], .bool false, .bool true]) : List Value).toArray.getD i undef) (fun E val => At w3 (Arg w3 :: [])) (by kernel_rfl) (by kernel_rfl) (by kernel_rfl) (by kernel_rfl) (HF)
          case step =>
            iterate 7 (refine ⟨eff_pl rfl (fun _ => by rfl) fun E val hn T ds w K H hk ho hK => ?_, ?_⟩; rotate_left)
            exact trivial
            · have o1 := ho 1 (by kernel_rfl); clear ho; simp [know, dstAt, Region.binds] at hk o1; go_simp; exact hK _ H
            · have o6 := ho 6 (by kernel_rfl); clear ho; simp [know, dstAt, Region.binds] at hk o6; go_simp; exact hK _ H
            · clear ho; simp [know, dstAt, Region.binds] at hk; go_simp; exact hK _ H
            · clear ho; simp [know, dstAt, Region.binds] at hk
              (refine op_cellsT (vs := [.int .i64 k1, .int .i64 k2, .int .i64 k3, .int .i64 k4]) rfl hk a38 s38 (Hd.out _ (H.ext 0 rfl)) ?_; exact hK _ H)
            · have o2 := ho 2 (by kernel_rfl); clear ho; simp [know, dstAt, Region.binds] at hk o2
              (refine op_cellsT (vs := [.slice ads S.length caps, .int .i64 cF, .int .i64 cP, .int .i64 cB, .int .i64 cK, .int .i64 cR]) rfl o2 a29 s29 (HB2.out _ (H.ext 0 rfl)) ?_; exact hK _ H)
            · clear ho; simp [know, dstAt, Region.binds] at hk
              (go_simp; refine (HR2.out _ _ _ H).mono ?_; rintro e w' ⟨rfl, H⟩; exact hK _ H)
            · clear ho; simp [know, dstAt, Region.binds] at hk; go_simp; exact hK _ H
          case ins =>
            iterate 7 (refine ⟨ins_pl rfl (fun _ _ _ => rfl), ?_⟩)
            exact trivial
          case jns =>
            iterate 7 (refine ⟨j_pl (fun _ _ _ => rfl), ?_⟩)
            exact trivial
          case fin =>
            intro E val w5 hE H
            clear HF hE
            have HF := H
            clear H
            simp [putAll, Act.put]
            go_wp2_with fail
            go_roundw
            case rel => exact ⟨k + 1, by omega, rfl, HF⟩
            case measure => simp [intOf]; omega
      · have gk : ¬ (k : Int) < ks.length := by omega
        go_wp2_with fail
        have hcb := fun x => count_b HP.out.s HP.out.b HP.out.p x
        have htot := count_sum HSD.out HP.out.p HSM.out
        have hpart := fun k => sum_take (f := countS pts) (fun x => (hcb x).1) S k
        rw [htot] at hpart
        have HCB := Lib.hid hcb
        have HTOT := Lib.hid htot
        have HPART := Lib.hid hpart
        clear hcb htot hpart
        go_loopw [10, 11] (fun s i wr => ∃ m : Nat, m ≤ S.length ∧ s = .float .f64 (shB ((S.take m).map (countS pts)).sum.toNat) ∧ i = .int .i64 m ∧ At w3 (Arg w3 :: []) wr) (fun _ i _ => S.length - (intOf i).toNat)
        case atStart => exact ⟨0, Nat.zero_le _, rfl, rfl, HF⟩
        case round =>
          clear HF
          obtain ⟨m, hm, rfl, rfl, HF⟩ := hrel
          by_cases hml : m < S.length
          · have gm : (m : Int) < S.length := by omega
            obtain ⟨x, hx⟩ : ∃ x, S[m]? = some x := ⟨_, List.getElem?_eq_getElem hml⟩
            obtain ⟨bs, rfl⟩ := S3.out (by omega)
            have Hx := Lib.hid (fun (w4 : World) (hx4 : Ext w3 w4) => hx4.cell (XA.out.cell (recs_int HS.out hx)))
            have hst := sum_step (f := countS pts) hx
            have h1 := HPART.out m
            have h2 := HPART.out (m + 1)
            have h3 := HCB.out x
            have hq := share_word h3.1 h3.2
            have had := add_sh (a := ((S.take m).map (countS pts)).sum.toNat) (b := (countS pts x).toNat) (by omega)
            have hsum : ((S.take m).map (countS pts)).sum.toNat + (countS pts x).toNat = ((S.take (m + 1)).map (countS pts)).sum.toNat := by omega
            rw [hsum] at had
            have HSh := Lib.hid (fun (w4 : World) (M : List HProp) (hx4 : Ext w3 w4) (HM : At w3 M w4) => share (R1.out.ext hx4) HP.out.b HP.out.l HP.out.p x hq HM)
            obtain ⟨q, hqq⟩ : ∃ q, shB (countS pts x).toNat = q := ⟨_, rfl⟩
            obtain ⟨r, hr⟩ : ∃ r, shB ((S.take m).map (countS pts)).sum.toNat = r := ⟨_, rfl⟩
            obtain ⟨r2, hr2⟩ : ∃ r2, shB ((S.take (m + 1)).map (countS pts)).sum.toNat = r2 := ⟨_, rfl⟩
            rw [hqq] at had HSh
            rw [hr] at had ⊢
            rw [hr2] at had
            have HR2 := Lib.hid hr2
            clear hst h1 h2 h3 hq hsum hx hqq hr hr2
            have hf : ∀ w, (binOp .add 46 (.float .f64 r) (.float .f64 q)).run Try.prog w = .ok (.float .f64 r2) w := fun w => run_float_arith _ _ _ _ _ _ _ had
            clear had
            go_wp2_with (first | ((with_reducible refine k_load ?_); (first | refine st_load1 rfl _ _ rfl _ rfl rfl (HB2.out _ (HF.ext 0 rfl) 0 _ rfl) ?_ | refine st_load1 rfl _ _ rfl _ rfl rfl (Hx.out _ (HF.ext 0 rfl)) ?_); (intro K hK; go_simp)))
            refine (HSh.out _ _ (HF.ext 0 rfl) HF).mono ?_
            rintro e w5 ⟨rfl, HX⟩
            clear HF
            have HF := HX
            clear HX
            go_wp2_with fail
            go_roundw
            case rel => exact ⟨m + 1, by omega, by rw [HR2.out], rfl, HF⟩
            case measure => simp [intOf]; omega
          · have gm : ¬ (m : Int) < S.length := by omega
            have hm8 : S.take m = S := List.take_of_length_le (by omega)
            rw [hm8, HTOT.out]
            have e1 : ((4294967296 : Int)).toNat = 4294967296 := rfl
            rw [e1, sh_one]
            have hne : (FloatKind.f64.format.order 4607182418800017408 4607182418800017408 == some .eq) = true := by decide +kernel
            go_wp2_with (first | ((with_reducible refine k_load ?_); (first | refine st_load1 rfl _ _ rfl _ rfl rfl (HB2.out _ (HF.ext 0 rfl) 0 _ rfl) ?_); (intro K hK; go_simp)))
            go_ret
            exact ⟨rfl, (HF.lift0 HW.out).below 2 rfl⟩
end

theorem own : ownKnob Try.prog.godebug = none := by kernel_rfl

theorem lifted (os : Os) (started : os.Started) (H : Type) (enc : TypeId × Value → H) :
    ReturnsInHanded {} Try.checked os 8 .any (Rows.ringUnlikeSpec.pre6 enc Try.prog Try.f8 Rows.ringUnlikeRow.domain false) (Rows.ringUnlikeSpec.post enc Try.prog Try.f8 false true false false) := by
  refine frame_true (C := Try.checked) started own (by kernel_rfl) Try.func8
    (ChangeSpec.witness6 (enc := enc) (C := Try.checked) false ⟨#[], #[.agg #[.slice none 0 0, .int .i64 0, .int .i64 0, .int .i64 0, .int .i64 0, .int .i64 0], .slice none 0 0], []⟩ 8 (by kernel_rfl) (by kernel_rfl) (by kernel_rfl) (by kernel_rfl)) rfl ?_ (by kernel_rfl) (by kernel_rfl) (by kernel_rfl) Try.underlying4 ?_
  · intro ds hds
    match ds, hds with
    | [_, _], _ => rfl
  · rintro W args ds p ⟨base, hval⟩ hA hwt
    have hp : Try.f8.params.toList = [29, 33] := by rw [Try.params8]
    rw [hp] at hA hwt
    obtain ⟨v0, r0, d0, e0, p0, q0, ha, rfl, rfl, h0, hA⟩ := trodAll_cons hA
    obtain ⟨v1, r1, d1, e1, p1, q1, rfl, rfl, rfl, h1, hA⟩ := trodAll_cons hA
    obtain ⟨rfl, rfl, rfl⟩ := trodAll_nil hA
    have ha2 : args = #[v0, v1] := by cases args; simp_all
    subst ha2
    simp only [DataW.weightsEach, List.all_append, Bool.and_eq_true] at hwt
    obtain ⟨a0, b0⟩ := Lw.arg_Config (hval 0 _ _ (by rw [Try.params8]; rfl) rfl) h0 hwt.1
    obtain ⟨a1, b1⟩ := Lw.arg_keys (hval 1 _ _ (by rw [Try.params8]; rfl) rfl) h1 hwt.2.1
    exact walk b0 b1

theorem over : Rows.ringUnlikeRow.holds Try.pinned (OpenSpec.ofChange Rows.ringUnlikeSpec) :=
  OpenClaim.holds_of_wide 8 Try.f8 rfl rfl rfl rfl rfl rfl rfl ⟨rfl, rfl, rfl, rfl, rfl⟩ rfl rfl rfl rfl rfl (by kernel_rfl) Try.func8 (by kernel_rfl)
    (of_decide_eq_true (by kernel_rfl)) (by unfold Func.isWrapper; first | (rw [if_pos (by decide +kernel)]; kernel_rfl) | (rw [if_neg (by decide +kernel)]; exact ⟨rfl, rfl⟩))
    (fun os started H enc _ => lifted os started H enc)

theorem proved : Rows.RingUnlikeSaid := over
#print axioms proved
end ringUnlike
end Go.Proofs.Ytohfboolicheeaa
