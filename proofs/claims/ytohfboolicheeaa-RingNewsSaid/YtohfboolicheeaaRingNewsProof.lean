/-
  For any configurations the law RingNews answers true: the error is the document's, or the ring's configuration is.
-/
import Derived.Test.YtohfboolicheeaaRgCfg
import Derived.ProofKit
namespace Go.Proofs.Ytohfboolicheeaa
open Go.Hp Go.RowKit Go.ChangeShapes Go.WideShapes
set_option linter.unusedVariables false
set_option linter.unusedSimpArgs false
set_option maxRecDepth 100000
namespace ringNews
open Rg
namespace Lw
abbrev arg_configs := @Rg.arg_configs
end Lw
section
variable {W : World}

set_option maxHeartbeats 2000000 in
theorem walk {va : Value} {l : List Cg} (ha : CfsArg W va l) :
    Calls Try.prog 10 #[va] W fun e w => e = .returned (.bool true) ∧ Below W.heap.size W w := by
  obtain ⟨hc1, hok, _⟩ := ha
  have HF := At.of W
  obtain ⟨adc, capc, rfl, c1, c2, c3⟩ := hc1.value
  rw [List.length_map] at c1 c3 hc1
  have hl63 : l.length ≤ 9223372036854775807 := by simp only [maxLen] at c2; omega
  have HC := Lib.hid hc1
  have C3 := Lib.hid c3
  have OK := Lib.hid hok
  rw [List.length_map]
  clear hc1 hok c1 c2 c3
  go_enter Try.func10, Try.ntmps10
  go_wp2_with fail
  go_loopw [3] (fun i wr => ∃ k : Nat, k ≤ l.length ∧ i = .int .i64 k ∧ At W (Arg W :: []) wr) (fun i _ => l.length - (intOf i).toNat)
  case atStart => exact ⟨0, Nat.zero_le _, rfl, HF⟩
  case round =>
    clear HF
    obtain ⟨k, hk, rfl, HF⟩ := hrel
    by_cases hlt : k < l.length
    · have gk : (k : Int) < l.length := by omega
      obtain ⟨x, hkk⟩ : ∃ x, l[k]? = some x := ⟨_, List.getElem?_eq_getElem hlt⟩
      obtain ⟨bc, rfl⟩ := C3.out (by omega)
      have Hc := Lib.hid (fun (w3 : World) (hx : Ext W w3) j u hj => hx.cell (recs_get HC.out hkk j u hj))
      have Hs := Lib.hid (show sizeT Try.prog 29 = some x.cells.length from s29)
      have HO := Lib.hid (OK.out x (List.mem_of_getElem? hkk))
      clear hkk
      obtain ⟨c, S, vs⟩ := x
      go_wp2_with ((with_reducible refine k_load (T := 29) ?_); refine st_loadCells rfl _ _ rfl _ rfl a29 (Cg.cells ⟨c, S, vs⟩) Hs.out (Hc.out _ (HF.ext 0 rfl)) ?_; (intro K hK; go_simp))
      refine (both (c := c) (HO.out.s.ext (HF.ext 0 rfl)) HO.out.n HF).mono ?_
      rintro e w4 (⟨hRC, g1, g2, rfl, HX⟩ | ⟨hRC, rfl, HX⟩)
      · clear HF
        have HF := HX
        clear HX
        have hn := hRC.n.2
        dsimp only at hn
        have HN := Lib.hid (show (sortI S).length ≤ 100000 by rw [(sortI_perm S).length_eq]; omega)
        obtain ⟨SS, hSS⟩ : ∃ SS, sortI S = SS := ⟨_, rfl⟩
        obtain ⟨pts, hpts⟩ : ∃ pts, sortP (ptsOf SS c.P.toNat) = pts := ⟨_, rfl⟩
        rw [hSS] at HF HN
        rw [hpts] at HF
        clear hn hRC hSS hpts
        have HW := Lib.hid HF
        have R1 := Lib.hid (rgf_of (HF.pick 0 rfl))
        have R2 := rgf_of (HF.pick 1 rfl)
        obtain ⟨cF, cP, cB, cK, cR⟩ := c
        obtain ⟨gr, s1, s2, s3, p1, p2, p3, hgr, hg, hS, hp⟩ := R2
        cases hgr
        have HS := Lib.hid hS
        have hcf := Lib.hid (show ∀ (w2 : World), Ext w4 w2 → ∀ j u, ([.slice s1 s2 s3, .int .i64 cF, .int .i64 cP, .int .i64 cB, .int .i64 cK, .int .i64 cR] : List Value)[j]? = some u → w2.cell? ((⟨g2, 0, none⟩ : Addr).add j) = some u from fun w2 hx j u hj => by
          refine hx.cell ?_
          refine cells_of hg j u ?_
          have hj6 : j < 6 := (List.getElem?_eq_some_iff.1 hj).1
          show ([.slice s1 s2 s3, .int .i64 cF, .int .i64 cP, .int .i64 cB, .int .i64 cK, .int .i64 cR] ++ [.slice p1 p2 p3] : List Value)[j]? = some u
          rw [List.getElem?_append_left (by simpa using hj6)]
          exact hj)
        clear hS hp hg HF
        have HF := At.of w4
        go_wp2_with fail
        apply wp_region_eff [8] (fun i => (#[[], [], [], [], [], [], [], [], [], [], [], [], [], [8], [8], [8]] : Array (List Nat)).getD i []) (fun val i => (([_, .bool true, .bool true, _, .bool true, .bool true, .bool true, _, val 8, _, .pointer (blkA g2), .pointer (blkA g2), .agg #[.slice s1 s2 s3, .int .i64 cF, .int .i64 cP, .int .i64 cB, .int .i64 cK, .int .i64 cR], .bool true, .bool false, .bool false]) : List Value).toArray.getD i undef) (fun E val => At w4 ((if E 8 = true then CfgO (val 8) ⟨cF, cP, cB, cK, cR⟩ SS else emp) :: Arg w4 :: [])) (by kernel_rfl) (by kernel_rfl) (by kernel_rfl) (by kernel_rfl) (HF.addEmp)
        case step =>
          iterate 8 (refine ⟨eff_pl rfl (fun _ => by rfl) fun E val hn T ds w K H hk ho hK => ?_, ?_⟩; rotate_left)
          refine ⟨eff_mk rfl (fun _ => by rfl) fun E val hE0 hcl hn T ds w K H hk ho hK => ?_, ?_⟩; rotate_left
          iterate 7 (refine ⟨eff_pl rfl (fun _ => by rfl) fun E val hn T ds w K H hk ho hK => ?_, ?_⟩; rotate_left)
          exact trivial
          · have o4 := ho 4 (by kernel_rfl); clear ho; simp [know, dstAt, Region.binds] at hk o4; go_simp; exact hK _ H
          · clear ho; simp [know, dstAt, Region.binds] at hk; go_simp; exact hK _ H
          · clear ho; simp [know, dstAt, Region.binds] at hk; go_simp; exact hK _ H
          · have o5 := ho 5 (by kernel_rfl); clear ho; simp [know, dstAt, Region.binds] at hk o5; go_simp; exact hK _ H
          · clear ho; simp [know, dstAt, Region.binds] at hk; go_simp; exact hK _ H
          · clear ho; simp [know, dstAt, Region.binds] at hk; go_simp; exact hK _ H
          · clear ho; simp [know, dstAt, Region.binds] at hk; go_simp; exact hK _ H
          · have o4 := ho 4 (by kernel_rfl); clear ho; simp [know, dstAt, Region.binds] at hk o4; go_simp; exact hK _ H
          · clear ho; simp [know, dstAt, Region.binds] at hk
            (simp only [hE0, Bool.false_eq_true, if_false] at H); go_simp; refine (cfg (R1.out.ext (H.ext 1 rfl)) HN.out H.drop).mono ?_; rintro e w' ⟨r, rfl, H⟩; refine hK _ _ ?_; have t8 : updE E 8 8 = true := rfl; simp only [t8, if_true]; exact H
          · have o5 := ho 5 (by kernel_rfl); clear ho; simp [know, dstAt, Region.binds] at hk o5; go_simp; exact hK _ H
          · clear ho; simp [know, dstAt, Region.binds] at hk; go_simp; exact hK _ H
          · clear ho; simp [know, dstAt, Region.binds] at hk; go_simp; exact hK _ H
          · clear ho; simp [know, dstAt, Region.binds] at hk
            (refine op_cellsT (vs := [.slice s1 s2 s3, .int .i64 cF, .int .i64 cP, .int .i64 cB, .int .i64 cK, .int .i64 cR]) rfl hk.1 a29 s29 (hcf.out _ (H.ext 1 rfl)) ?_; exact hK _ H)
          · clear ho; simp [know, dstAt, Region.binds] at hk
            (have e8 := hn 8 (by decide); have H2 := H; simp only [e8, if_true] at H2; obtain ⟨a9, n9, m9, hv8, hr9, _⟩ := cfg_open H2; have hk2 := hk; simp only [hv8, cfV] at hk2; clear hk hv8 H2; have HR9 := Lib.hid hr9; clear hr9; go_simp; refine (sameConfig (c := ⟨cF, cP, cB, cK, cR⟩) HR9.out (HS.out.ext (H.ext 1 rfl)) H).mono ?_; rintro e w' ⟨rfl, H⟩; exact hK _ H)
          · clear ho; simp [know, dstAt, Region.binds] at hk; go_simp; exact hK _ H
          · clear ho; simp [know, dstAt, Region.binds] at hk; go_simp; exact hK _ H
        case ins =>
          iterate 8 (refine ⟨ins_pl rfl (fun _ _ _ => rfl), ?_⟩)
          refine ⟨ins_mk rfl (fun _ => rfl), ?_⟩
          iterate 4 (refine ⟨ins_pl rfl (fun _ _ _ => rfl), ?_⟩)
          iterate 3 (refine ⟨ins_pl rfl (fun val val' h => by first | rfl | ((have h8 := h 8 (by decide)); first | (simp only [h8]; done) | (simp only [h8]; rfl))), ?_⟩)
          exact trivial
        case jns =>
          iterate 8 (refine ⟨j_pl (fun _ _ _ => rfl), ?_⟩)
          refine ⟨j_mk rfl, ?_⟩
          iterate 7 (refine ⟨j_pl (fun _ _ _ => rfl), ?_⟩)
          exact trivial
        case fin =>
          intro E val w6 hE HX
          have e8 := hE 8 (by decide)
          simp only [e8, if_true] at HX
          clear HF hE e8
          have HF := (HX.sel 2 [1]).lift0 HW.out
          clear HX
          simp [putAll, Act.put]
          go_wp2_with fail
          go_roundw
          case rel => exact ⟨k + 1, by omega, rfl, HF.sel 3 [2]⟩
          case measure => simp [intOf]; omega
      · clear HF hRC
        have HF := HX
        clear HX
        go_wp2_with fail
        apply wp_region_eff [] (fun i => (#[[], [], [], [], [], [], [], [], [], [], [], [], [], [], [], []] : Array (List Nat)).getD i []) (fun val i => ((_ :: .bool false :: .bool false :: undef :: undef :: .bool false :: .bool false :: undef :: undef :: undef :: undef :: undef :: undef :: undef :: undef :: .bool false :: []) : List Value).toArray.getD i undef) (fun E val => At W (Arg W :: [])) (by kernel_rfl) (by kernel_rfl) (by kernel_rfl) (by kernel_rfl) (HF)
        case step =>
          iterate 3 (refine ⟨eff_pl rfl (fun _ => by rfl) fun E val hn T ds w K H hk ho hK => ?_, ?_⟩; rotate_left)
          iterate 2 (refine ⟨eff_no rfl (fun _ => by rfl) (fun _ => rfl), ?_⟩)
          iterate 2 (refine ⟨eff_pl rfl (fun _ => by rfl) fun E val hn T ds w K H hk ho hK => ?_, ?_⟩; rotate_left)
          iterate 8 (refine ⟨eff_no rfl (fun _ => by rfl) (fun _ => rfl), ?_⟩)
          refine ⟨eff_pl rfl (fun _ => by rfl) fun E val hn T ds w K H hk ho hK => ?_, ?_⟩; rotate_left
          exact trivial
          · have o4 := ho 4 (by kernel_rfl); clear ho; simp [know, dstAt, Region.binds] at hk o4; go_simp; exact hK _ H
          · clear ho; simp [know, dstAt, Region.binds] at hk; go_simp; exact hK _ H
          · clear ho; simp [know, dstAt, Region.binds] at hk; go_simp; exact hK _ H
          · clear ho; simp [know, dstAt, Region.binds] at hk; go_simp; exact hK _ H
          · clear ho; simp [know, dstAt, Region.binds] at hk; go_simp; exact hK _ H
          · clear ho; simp [know, dstAt, Region.binds] at hk; go_simp; exact hK _ H
        case ins =>
          iterate 16 (refine ⟨ins_pl rfl (fun _ _ _ => rfl), ?_⟩)
          exact trivial
        case jns =>
          iterate 16 (refine ⟨j_pl (fun _ _ _ => rfl), ?_⟩)
          exact trivial
        case fin =>
          intro E val w6 hE HX
          clear HF hE
          have HF := HX
          clear HX
          simp [putAll, Act.put]
          go_wp2_with fail
          go_roundw
          case rel => exact ⟨k + 1, by omega, rfl, HF⟩
          case measure => simp [intOf]; omega
    · have gk : ¬ (k : Int) < l.length := by omega
      go_wp2_with fail
      refine (known HF).mono ?_
      rintro e w3 ⟨rfl, HX⟩
      go_wp2_with fail
      go_ret
      exact ⟨rfl, HX.below 0 rfl⟩
end

theorem own : ownKnob Try.prog.godebug = none := by kernel_rfl

theorem lifted (os : Os) (started : os.Started) (H : Type) (enc : TypeId × Value → H) :
    ReturnsInHanded {} Try.checked os 10 .any (Rows.ringNewsSpec.pre6 enc Try.prog Try.f10 Rows.ringNewsRow.domain false) (Rows.ringNewsSpec.post enc Try.prog Try.f10 false true false false) := by
  refine frame_true (C := Try.checked) started own (by kernel_rfl) Try.func10
    (ChangeSpec.witness6 (enc := enc) (C := Try.checked) false ⟨#[], #[.slice none 0 0], []⟩ 8 (by kernel_rfl) (by kernel_rfl) (by kernel_rfl) (by kernel_rfl)) rfl ?_ (by kernel_rfl) (by kernel_rfl) (by kernel_rfl) Try.underlying4 ?_
  · intro ds hds
    match ds, hds with
    | [_], _ => rfl
  · rintro W args ds p ⟨base, hval⟩ hA hwt
    have hp : Try.f10.params.toList = [22] := by rw [Try.params10]
    rw [hp] at hA hwt
    obtain ⟨v0, r0, d0, e0, p0, q0, ha, rfl, rfl, h0, hA⟩ := trodAll_cons hA
    obtain ⟨rfl, rfl, rfl⟩ := trodAll_nil hA
    have ha2 : args = #[v0] := by cases args; simp_all
    subst ha2
    simp only [DataW.weightsEach, List.all_append, Bool.and_eq_true] at hwt
    obtain ⟨a0, b0⟩ := Lw.arg_configs (hval 0 _ _ (by rw [Try.params10]; rfl) rfl) h0 hwt.1
    exact walk b0

theorem over : Rows.ringNewsRow.holds Try.pinned (OpenSpec.ofChange Rows.ringNewsSpec) :=
  OpenClaim.holds_of_wide 10 Try.f10 rfl rfl rfl rfl rfl rfl rfl ⟨rfl, rfl, rfl, rfl, rfl⟩ rfl rfl rfl rfl rfl (by kernel_rfl) Try.func10 (by kernel_rfl)
    (of_decide_eq_true (by kernel_rfl)) (by unfold Func.isWrapper; first | (rw [if_pos (by decide +kernel)]; kernel_rfl) | (rw [if_neg (by decide +kernel)]; exact ⟨rfl, rfl⟩))
    (fun os started H enc _ => lifted os started H enc)

theorem proved : Rows.RingNewsSaid := over
#print axioms proved
end ringNews
end Go.Proofs.Ytohfboolicheeaa
