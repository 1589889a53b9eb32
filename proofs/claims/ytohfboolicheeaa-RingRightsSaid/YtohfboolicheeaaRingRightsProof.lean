/-
  For any configurations and any keys the law RingRights answers true: Right and Majority are the document's.
-/
import Derived.Test.YtohfboolicheeaaRgMade
import Derived.Test.YtohfboolicheeaaRgRGroup
import Derived.Test.YtohfboolicheeaaRgArgs
import Derived.ProofKit
namespace Go.Proofs.Ytohfboolicheeaa
open Go.Hp Go.RowKit Go.ChangeShapes Go.WideShapes
set_option linter.unusedVariables false
set_option linter.unusedSimpArgs false
set_option maxRecDepth 100000
namespace ringRights
open Rg
namespace Lw
abbrev arg_configs := @Rg.arg_configs
abbrev arg_keys := @Rg.arg_keys
end Lw
section
variable {W : World}

set_option maxHeartbeats 2000000 in
theorem walk {va vk : Value} {l : List Cg} (ha : CfsArg W va l) {ks : List Ky} (hk : KysArg W vk ks) :
    Calls Try.prog 7 #[va, vk] W fun e w => e = .returned (.bool true) ∧ Below W.heap.size W w := by
  obtain ⟨hc1, hok, _⟩ := ha
  obtain ⟨hk1, _⟩ := hk
  have HF := At.of W
  obtain ⟨adc, capc, rfl, c1, c2, c3⟩ := hc1.value
  rw [List.length_map] at c1 c3 hc1
  obtain ⟨adk, capk, rfl, k1, k2, k3⟩ := hk1.value
  rw [List.length_map] at k1 k3 hk1
  have hl63 : l.length ≤ 9223372036854775807 := by simp only [maxLen] at c2; omega
  have hk63 : ks.length ≤ 9223372036854775807 := by simp only [maxLen] at k2; omega
  have HC := Lib.hid hc1
  have C3 := Lib.hid c3
  have OK := Lib.hid hok
  have HK := Lib.hid hk1
  have K3 := Lib.hid k3
  rw [List.length_map, List.length_map]
  clear hc1 hok c1 c2 c3 hk1 k1 k2 k3
  go_enter Try.func7, Try.ntmps7
  go_wp2_with fail
  refine (known HF).mono ?_
  rintro e w1 ⟨rfl, HX⟩
  clear HF
  have HF := HX
  clear HX
  go_wp2_with fail
  go_loopw [5] (fun i wr => ∃ k : Nat, k ≤ l.length ∧ i = .int .i64 k ∧ At W (Arg W :: []) wr) (fun i _ => l.length - (intOf i).toNat)
  case atStart => exact ⟨0, Nat.zero_le _, rfl, HF⟩
  case round =>
    clear HF
    obtain ⟨k, hk, rfl, HF⟩ := hrel
    by_cases hlt : k < l.length
    · have gk : (k : Int) < l.length := by omega
      obtain ⟨x, hkk⟩ : ∃ x, l[k]? = some x := ⟨_, List.getElem?_eq_getElem hlt⟩
      obtain ⟨bc, rfl⟩ := C3.out (by omega)
      have Hc := Lib.hid (fun (w3 : World) (hx : Ext W w3) j u hj => hx.cell (recs_get HC.out hkk j u hj))
      have Hs := Lib.hid (show sizeT Try.prog 29 = some x.cells.length from s29)
      have HO := Lib.hid (OK.out x (List.mem_of_getElem? hkk))
      clear hkk
      obtain ⟨c, S, vs⟩ := x
      have hS1 := HO.out.s
      have hS2 := HO.out.n
      dsimp only at hS1 hS2
      obtain ⟨ads, caps, hvs, _, _, _⟩ := hS1.value
      subst hvs
      rw [List.length_map] at hS1 Hc Hs
      have HS := Lib.hid hS1
      have HN := Lib.hid hS2
      have HIs := Lib.hid (fun (w2 : World) (M : List HProp) (w0 : World) (v2 : Value) (h2 : RecsAt w2 v2 1 (S.map iC)) (HM : At w0 M w2) => isC (c := c) h2 HM)
      have HLd := Lib.hid (fun (w2 : World) (M : List HProp) (w0 : World) (v2 : Value) (h2 : RecsAt w2 v2 1 (S.map iC)) (HM : At w0 M w2) => lend (c := c) h2 HN.out HM)
      obtain ⟨cF, cP, cB, cK, cR⟩ := c
      simp only [Cg.cells] at Hc Hs
      dsimp only at HIs HLd
      clear HO hS1 hS2
      go_wp2_with (first | ((with_reducible refine k_load (T := 29) ?_); refine st_loadCells rfl _ _ rfl _ rfl a29 [.slice ads S.length caps, .int .i64 cF, .int .i64 cP, .int .i64 cB, .int .i64 cK, .int .i64 cR] Hs.out (Hc.out _ (HF.ext 0 rfl)) ?_; (intro K hK; go_simp)) | ((with_reducible refine k_alloc (T := 29) ?_); refine st_alloc rfl _ rfl _ z29 _ rfl HF ?_; (clear HF; intro g6 w HF K hK; simp only [Value.cells] at HF; go_simp)) | ((with_reducible refine k_store (T := 29) ?_); refine st_put rfl _ _ _ rfl _ rfl _ rfl ?_ s29 HF 0 rfl rfl ?_; (simp [Value.oneCell']); (clear HF; intro w HF K hK; simp only [List.set_cons_zero, List.set_cons_succ, Act.eval, Value.cells, Array.getD_eq_getD_getElem?, List.getElem?_toArray, List.getElem?_cons_succ, List.getElem?_cons_zero, Option.getD_some] at HF; go_simp)) | ((with_reducible refine k_load (T := 29) ?_); refine st_row rfl _ _ rfl _ rfl a29 6 s29 HF 0 rfl rfl ?_; (intro K hK; go_simp)) | ((with_reducible refine k_load (T := 29) ?_); refine st_loads rfl _ _ rfl _ _ rfl a29 6 s29 HF 0 rfl ?_ ?_; (simp); (intro K hK; go_simp)))
      refine (HIs.out _ _ _ _ (HS.out.ext (HF.ext 1 rfl)) HF).mono ?_
      rintro e w2 ⟨b, rfl, hb, HX⟩
      clear HF HIs
      have HF := HX
      clear HX
      have HB := Lib.hid hb
      clear hb
      cases b with
      | false =>
        go_wp2_with fail
        go_roundw
        case rel => exact ⟨k + 1, by omega, rfl, HF.sel 2 [1]⟩
        case measure => simp [intOf]; omega
      | true =>
        have hRC := HB.out.1 rfl
        have HRF := Lib.hid hRC.f
        have HRB := Lib.hid hRC.b
        clear HB hRC
        go_wp2_with (first | ((with_reducible refine k_load (T := 29) ?_); refine st_row rfl _ _ rfl _ rfl a29 6 s29 HF 0 rfl rfl ?_; (intro K hK; go_simp)) | ((with_reducible refine k_load (T := 29) ?_); refine st_loads rfl _ _ rfl _ _ rfl a29 6 s29 HF 0 rfl ?_ ?_; (simp); (intro K hK; go_simp)))
        refine (HLd.out _ _ _ _ (HS.out.ext (HF.ext 1 rfl)) HF).mono ?_
        rintro e w3 ⟨gl, rfl, HX⟩
        clear HF HLd
        have HW := Lib.hid HX
        have HG := Lib.hid (lent_recs HN.out (HX.pick 0 rfl))
        have HM := Lib.hid (lent_mark (HX.pick 0 rfl))
        have X0 := Lib.hid (HX.ext 2 rfl)
        have HF := HX.get 1 rfl
        have HB6 := Lib.hid (fun (w2 : World) (hx : Ext w3 w2) j u (hj : ([.slice ads S.length caps, .int .i64 cF, .int .i64 cP, .int .i64 cB, .int .i64 cK, .int .i64 cR] : List Value)[j]? = some u) => hx.cell (cells_of HF j u hj))
        clear HF
        have HF := At.of w3
        clear HX
        have Hs7 := Lib.hid (show sizeT Try.prog 29 = some ([.slice ads S.length caps, .int .i64 cF, .int .i64 cP, .int .i64 cB, .int .i64 cK, .int .i64 cR] : List Value).length from s29)
        go_wp2_with (first | ((with_reducible refine k_alloc (T := 29) ?_); refine st_alloc rfl _ rfl _ z29 _ rfl HF ?_; (clear HF; intro g7 w HF K hK; simp only [Value.cells] at HF; go_simp)) | ((with_reducible refine k_store (T := 29) ?_); refine st_put rfl _ _ _ rfl _ rfl _ rfl ?_ s29 HF 0 rfl rfl ?_; (simp [Value.oneCell']); (clear HF; intro w HF K hK; simp only [List.set_cons_zero, List.set_cons_succ, Act.eval, Value.cells, Array.getD_eq_getD_getElem?, List.getElem?_toArray, List.getElem?_cons_succ, List.getElem?_cons_zero, Option.getD_some] at HF; go_simp)))
        go_loopw [8] (fun i wr => ∃ m : Nat, m ≤ ks.length ∧ i = .int .i64 m ∧ At w3 (Blk g7 (.cells #[.slice (blkA gl) S.length (S.length + 1), .int .i64 cF, .int .i64 cP, .int .i64 cB, .int .i64 cK, .int .i64 cR] 29 (0, 0)) :: Arg w3 :: []) wr) (fun i _ => ks.length - (intOf i).toNat)
        case atStart => exact ⟨0, Nat.zero_le _, rfl, HF⟩
        case round =>
          clear HF
          obtain ⟨m, hm, rfl, HF⟩ := hrel
          by_cases hml : m < ks.length
          · have gm : (m : Int) < ks.length := by omega
            obtain ⟨ky, hkk⟩ : ∃ ky, ks[m]? = some ky := ⟨_, List.getElem?_eq_getElem hml⟩
            obtain ⟨bk, rfl⟩ := K3.out (by omega)
            have Hd := Lib.hid (fun (w4 : World) (hx : Ext w3 w4) j u hj => hx.cell (X0.out.cell (recs_get HK.out hkk j u hj)))
            clear hkk
            obtain ⟨b, hb⟩ : ∃ b : Bool, b = true ↔ KeyR ky cB := by
              by_cases h : KeyR ky cB
              · exact ⟨true, by simp [h]⟩
              · exact ⟨false, by simp [h]⟩
            have HR1 := Lib.hid (fun (w2 : World) (M : List HProp) (w0 : World) (HM : At w0 M w2) => keyRightB (c := ⟨cF, cP, cB, cK, cR⟩) HM hb (blkA gl) S.length (S.length + 1))
            have HR2 := Lib.hid (fun (w2 : World) (M : List HProp) (w0 : World) (HM : At w0 M w2) => rkeyRightB (c := ⟨cF, cP, cB, cK, cR⟩) HM HRB.out hb ads S.length caps)
            clear hb
            obtain ⟨k1, k2, k3, k4⟩ := ky
            dsimp only at HR1 HR2
            go_wp2_with fail
            apply wp_region_eff [] (fun i => (#[[], [], [], [], [], [], [], [], [], [], [], [], []] : Array (List Nat)).getD i []) (fun val i => (([_, _, _, .agg #[.int .i64 k1, .int .i64 k2, .int .i64 k3, .int .i64 k4], .agg #[.slice (blkA gl) S.length (S.length + 1), .int .i64 cF, .int .i64 cP, .int .i64 cB, .int .i64 cK, .int .i64 cR], .bool b, _, _, _, .agg #[.int .i64 k1, .int .i64 k2, .int .i64 k3, .int .i64 k4], .agg #[.slice ads S.length caps, .int .i64 cF, .int .i64 cP, .int .i64 cB, .int .i64 cK, .int .i64 cR], .bool b, .bool false]) : List Value).toArray.getD i undef) (fun E val => At w3 (Blk g7 (.cells #[.slice (blkA gl) S.length (S.length + 1), .int .i64 cF, .int .i64 cP, .int .i64 cB, .int .i64 cK, .int .i64 cR] 29 (0, 0)) :: Arg w3 :: [])) (by kernel_rfl) (by kernel_rfl) (by kernel_rfl) (by kernel_rfl) (HF)
            case step =>
              iterate 13 (refine ⟨eff_pl rfl (fun _ => by rfl) fun E val hn T ds w K H hk ho hK => ?_, ?_⟩; rotate_left)
              exact trivial
              · have o1 := ho 1 (by kernel_rfl); clear ho; simp [know, dstAt, Region.binds] at hk o1; go_simp; exact hK _ H
              · have o8 := ho 8 (by kernel_rfl); clear ho; simp [know, dstAt, Region.binds] at hk o8; go_simp; exact hK _ H
              · clear ho; simp [know, dstAt, Region.binds] at hk; go_simp; exact hK _ H
              · clear ho; simp [know, dstAt, Region.binds] at hk
                (refine op_cellsT (vs := [.int .i64 k1, .int .i64 k2, .int .i64 k3, .int .i64 k4]) rfl hk a38 s38 (Hd.out _ (H.ext 1 rfl)) ?_; exact hK _ H)
              · have o7 := ho 7 (by kernel_rfl); clear ho; simp [know, dstAt, Region.binds] at hk o7
                (first | (refine op_rowT (T := 29) rfl o7 a29 s29 H 0 rfl rfl ?_; exact hK _ H))
              · clear ho; simp [know, dstAt, Region.binds] at hk
                (go_simp; refine (HR1.out _ _ _ H).mono ?_; rintro e w' ⟨rfl, H⟩; exact hK _ H)
              · have o1 := ho 1 (by kernel_rfl); clear ho; simp [know, dstAt, Region.binds] at hk o1; go_simp; exact hK _ H
              · have o8 := ho 8 (by kernel_rfl); clear ho; simp [know, dstAt, Region.binds] at hk o8; go_simp; exact hK _ H
              · clear ho; simp [know, dstAt, Region.binds] at hk; go_simp; exact hK _ H
              · clear ho; simp [know, dstAt, Region.binds] at hk
                (refine op_cellsT (vs := [.int .i64 k1, .int .i64 k2, .int .i64 k3, .int .i64 k4]) rfl hk a38 s38 (Hd.out _ (H.ext 1 rfl)) ?_; exact hK _ H)
              · have o6 := ho 6 (by kernel_rfl); clear ho; simp [know, dstAt, Region.binds] at hk o6
                (refine op_cellsT (vs := [.slice ads S.length caps, .int .i64 cF, .int .i64 cP, .int .i64 cB, .int .i64 cK, .int .i64 cR]) rfl o6 a29 s29 (HB6.out _ (H.ext 1 rfl)) ?_; exact hK _ H)
              · clear ho; simp [know, dstAt, Region.binds] at hk
                (go_simp; refine (HR2.out _ _ _ H).mono ?_; rintro e w' ⟨rfl, H⟩; exact hK _ H)
              · clear ho; simp [know, dstAt, Region.binds] at hk; go_simp; exact hK _ H
            case ins =>
              iterate 13 (refine ⟨ins_pl rfl (fun _ _ _ => rfl), ?_⟩)
              exact trivial
            case jns =>
              iterate 13 (refine ⟨j_pl (fun _ _ _ => rfl), ?_⟩)
              exact trivial
            case fin =>
              intro E val w5 hE H
              clear HF hE
              have HF := H
              clear H
              simp [putAll, Act.put]
              go_wp2_with fail
              go_roundw
              case rel => exact ⟨m + 1, by omega, rfl, HF⟩
              case measure => simp [intOf]; omega
          · have gm : ¬ (m : Int) < ks.length := by omega
            have hw1 : IntKind.i64.wrap (cF + 1) = cF + 1 := IntWalk.i64_in _ (by have := HRF.out; omega)
            go_wp2_with fail
            apply wp_region_eff [] (fun i => (#[[], [], [], [], [], [], [], [], [], [], [], []] : Array (List Nat)).getD i []) (fun val i => (([.agg #[.slice (blkA gl) S.length (S.length + 1), .int .i64 cF, .int .i64 cP, .int .i64 cB, .int .i64 cK, .int .i64 cR], .int .i64 (cF + 1), _, .int .i64 cF, .int .i64 (cF + 1), .bool false, .bool false, .agg #[.slice (blkA gl) S.length (S.length + 1), .int .i64 cF, .int .i64 cP, .int .i64 cB, .int .i64 cK, .int .i64 cR], .agg #[.slice ads S.length caps, .int .i64 cF, .int .i64 cP, .int .i64 cB, .int .i64 cK, .int .i64 cR], .bool true, .bool false, .bool false]) : List Value).toArray.getD i undef) (fun E val => At w3 (Blk g7 (.cells #[.slice (blkA gl) S.length (S.length + 1), .int .i64 cF, .int .i64 cP, .int .i64 cB, .int .i64 cK, .int .i64 cR] 29 (0, 0)) :: Arg w3 :: [])) (by kernel_rfl) (by kernel_rfl) (by kernel_rfl) (by kernel_rfl) (HF)
            case step =>
              iterate 12 (refine ⟨eff_pl rfl (fun _ => by rfl) fun E val hn T ds w K H hk ho hK => ?_, ?_⟩; rotate_left)
              exact trivial
              · have o7 := ho 7 (by kernel_rfl); clear ho; simp [know, dstAt, Region.binds] at hk o7
                (first | (refine op_rowT (T := 29) rfl o7 a29 s29 H 0 rfl rfl ?_; exact hK _ H))
              · clear ho; simp [know, dstAt, Region.binds] at hk
                (go_simp; refine (majority H _ ⟨cF, cP, cB, cK, cR⟩ HRF.out).mono ?_; rintro e w' ⟨rfl, H⟩; exact hK _ H)
              · have o6 := ho 6 (by kernel_rfl); clear ho; simp [know, dstAt, Region.binds] at hk o6; go_simp; exact hK _ H
              · clear ho; simp [know, dstAt, Region.binds] at hk
                (refine op_load1T rfl hk (by kernel_rfl) (HB6.out _ (H.ext 1 rfl) 1 _ rfl) ?_; exact hK _ H)
              · clear ho; simp [know, dstAt, Region.binds] at hk; go_simp; exact hK _ H
              · clear ho; simp [know, dstAt, Region.binds] at hk; go_simp; exact hK _ H
              · clear ho; simp [know, dstAt, Region.binds] at hk; go_simp; exact hK _ H
              · have o7 := ho 7 (by kernel_rfl); clear ho; simp [know, dstAt, Region.binds] at hk o7
                (first | (refine op_rowT (T := 29) rfl o7 a29 s29 H 0 rfl rfl ?_; exact hK _ H))
              · have o6 := ho 6 (by kernel_rfl); clear ho; simp [know, dstAt, Region.binds] at hk o6
                (refine op_cellsT (vs := [.slice ads S.length caps, .int .i64 cF, .int .i64 cP, .int .i64 cB, .int .i64 cK, .int .i64 cR]) rfl o6 a29 s29 (HB6.out _ (H.ext 1 rfl)) ?_; exact hK _ H)
              · clear ho; simp [know, dstAt, Region.binds] at hk
                (go_simp; refine (keptF (c := ⟨cF, cP, cB, cK, cR⟩) (HG.out.ext (H.ext 1 rfl)) ((H.ext 1 rfl).cell HM.out) (HS.out.ext (X0.out.trans (H.ext 1 rfl))) HN.out H).mono ?_; rintro e w' ⟨rfl, H⟩; exact hK _ H)
              · clear ho; simp [know, dstAt, Region.binds] at hk; go_simp; exact hK _ H
              · clear ho; simp [know, dstAt, Region.binds] at hk; go_simp; exact hK _ H
            case ins =>
              iterate 12 (refine ⟨ins_pl rfl (fun _ _ _ => rfl), ?_⟩)
              exact trivial
            case jns =>
              iterate 12 (refine ⟨j_pl (fun _ _ _ => rfl), ?_⟩)
              exact trivial
            case fin =>
              intro E val w5 hE H
              clear HF hE hw1
              have HF := H
              clear H
              simp [putAll, Act.put]
              go_wp2_with fail
              go_roundw
              case rel => exact ⟨k + 1, by omega, rfl, ((HF.sel 2 [1]).lift0 HW.out).sel 3 [2]⟩
              case measure => simp [intOf]; omega
    · have gk : ¬ (k : Int) < l.length := by omega
      go_wp2_with fail
      go_ret
      exact ⟨rfl, HF.below 0 rfl⟩
end

theorem own : ownKnob Try.prog.godebug = none := by kernel_rfl

theorem lifted (os : Os) (started : os.Started) (H : Type) (enc : TypeId × Value → H) :
    ReturnsInHanded {} Try.checked os 7 .any (Rows.ringRightsSpec.pre6 enc Try.prog Try.f7 Rows.ringRightsRow.domain false) (Rows.ringRightsSpec.post enc Try.prog Try.f7 false true false false) := by
  refine frame_true (C := Try.checked) started own (by kernel_rfl) Try.func7
    (ChangeSpec.witness6 (enc := enc) (C := Try.checked) false ⟨#[], #[.slice none 0 0, .slice none 0 0], []⟩ 8 (by kernel_rfl) (by kernel_rfl) (by kernel_rfl) (by kernel_rfl)) rfl ?_ (by kernel_rfl) (by kernel_rfl) (by kernel_rfl) Try.underlying4 ?_
  · intro ds hds
    match ds, hds with
    | [_, _], _ => rfl
  · rintro W args ds p ⟨base, hval⟩ hA hwt
    have hp : Try.f7.params.toList = [22, 33] := by rw [Try.params7]
    rw [hp] at hA hwt
    obtain ⟨v0, r0, d0, e0, p0, q0, ha, rfl, rfl, h0, hA⟩ := trodAll_cons hA
    obtain ⟨v1, r1, d1, e1, p1, q1, rfl, rfl, rfl, h1, hA⟩ := trodAll_cons hA
    obtain ⟨rfl, rfl, rfl⟩ := trodAll_nil hA
    have ha2 : args = #[v0, v1] := by cases args; simp_all
    subst ha2
    simp only [DataW.weightsEach, List.all_append, Bool.and_eq_true] at hwt
    obtain ⟨a0, b0⟩ := Lw.arg_configs (hval 0 _ _ (by rw [Try.params7]; rfl) rfl) h0 hwt.1
    obtain ⟨a1, b1⟩ := Lw.arg_keys (hval 1 _ _ (by rw [Try.params7]; rfl) rfl) h1 hwt.2.1
    exact walk b0 b1

theorem over : Rows.ringRightsRow.holds Try.pinned (OpenSpec.ofChange Rows.ringRightsSpec) :=
  OpenClaim.holds_of_wide 7 Try.f7 rfl rfl rfl rfl rfl rfl rfl ⟨rfl, rfl, rfl, rfl, rfl⟩ rfl rfl rfl rfl rfl (by kernel_rfl) Try.func7 (by kernel_rfl)
    (of_decide_eq_true (by kernel_rfl)) (by unfold Func.isWrapper; first | (rw [if_pos (by decide +kernel)]; kernel_rfl) | (rw [if_neg (by decide +kernel)]; exact ⟨rfl, rfl⟩))
    (fun os started H enc _ => lifted os started H enc)

theorem proved : Rows.RingRightsSaid := over
#print axioms proved
end ringRights
end Go.Proofs.Ytohfboolicheeaa
