/-
  For any configuration and any numbers the law RingShares answers true: every Share is the document's, to the last bit.
-/
import Derived.Test.YtohfboolicheeaaRgArgs
import Derived.Test.YtohfboolicheeaaRgCount
import Derived.ProofKit
namespace Go.Proofs.Ytohfboolicheeaa
open Go.Hp Go.RowKit Go.ChangeShapes Go.WideShapes
set_option linter.unusedVariables false
set_option linter.unusedSimpArgs false
set_option maxRecDepth 100000
namespace ringShares
open Rg
namespace Lw
abbrev arg_Config := @Rg.arg_Config
abbrev arg_ints := @Rg.arg_ints
end Lw
theorem oi_app {w0 w : World} {L : List HProp} {v : Value} {a b : List Int} (H : At w0 (OwnRow 3 1 v (0 + a.length + b.length) (iCs [] ++ iCs a ++ iCs b) :: L) w) : At w0 (OI v (a ++ b) :: L) w := by
  unfold OI
  rw [iCs_app, List.length_append]
  rw [Nat.zero_add] at H
  exact H
section
variable {W : World}

set_option maxHeartbeats 2000000 in
theorem walk {va vk : Value} {x : Cg} (ha : CfArg W va x) {l : List Int} (hk : IntsArg W vk l) :
    Calls Try.prog 5 #[va, vk] W fun e w => e = .returned (.bool true) ∧ Below W.heap.size W w := by
  obtain ⟨rfl, hs, hn, _⟩ := ha
  obtain ⟨c, S, vs⟩ := x
  obtain ⟨hc1, hc2⟩ := hk
  dsimp only at *
  have HF := At.of W
  obtain ⟨⟨adc, capc, rfl, c1, c2, c3, c4⟩, _⟩ := hc1
  rw [List.length_map] at c1 c3
  have C3 := Lib.hid c3
  have C4 := Lib.hid (show ∀ b, adc = some b → ∀ j u, (iCs l)[j]? = some u → W.cell? (b.add j) = some u from c4)
  have Li := Lib.hid (iCs_len l)
  have Oi := Lib.hid (iCs_one l)
  obtain ⟨ads, caps, rfl, s1, s2, s3⟩ := hs.value
  rw [List.length_map] at hs s1 s3
  rw [List.length_map, List.length_map]
  have HS := Lib.hid hs
  have HN := Lib.hid hn
  have HL8 := Lib.hid hc2
  clear hc2 c1 c2 c3 c4 hs s1 s2 s3 hn
  simp only [Cg.cells]
  go_enter Try.func5, Try.ntmps5
  go_wp2_with (first | ((with_reducible refine k_box ?_); refine st_box rfl _ _ rfl _ rfl HF ?_; (clear HF; intro g4 w HF K hK; simp only [Value.cells, Act.eval, Value.cells, Array.getD_eq_getD_getElem?, List.getElem?_toArray, List.getElem?_cons_succ, List.getElem?_cons_zero, Option.getD_some] at HF; go_simp)) | ((with_reducible refine k_load (T := 29) ?_); refine st_row rfl _ _ rfl _ rfl a29 6 s29 HF 0 rfl rfl ?_; (intro K hK; go_simp)) | ((with_reducible refine k_load (T := 29) ?_); refine st_loads rfl _ _ rfl _ _ rfl a29 6 s29 HF 0 rfl ?_ ?_; (simp); (intro K hK; go_simp)))
  refine (both (c := c) (HS.out.ext (HF.ext 1 rfl)) HN.out HF).mono ?_
  rintro e w2 (⟨hRC, g1, g2, rfl, HX⟩ | ⟨hRC, rfl, HX⟩)
  · clear HF
    have HP := Lib.hid (pts_ok hRC)
    have hSl : (sortI S).length ≤ 64 := by rw [(sortI_perm S).length_eq]; have := hRC.n; omega
    obtain ⟨pts, hpts⟩ : ∃ pts, sortP (ptsOf (sortI S) c.P.toNat) = pts := ⟨_, rfl⟩
    obtain ⟨SS, hSS⟩ : ∃ SS, sortI S = SS := ⟨_, rfl⟩
    rw [hpts] at HP HX
    rw [hSS] at HX hSl
    have HS64 := Lib.hid hSl
    clear hpts hSS hRC hSl
    have HB := Lib.hid HX
    have HF := At.of w2
    have R1 := Lib.hid (rgf_of (HX.pick 0 rfl))
    have hR2 := rgf_of (HX.pick 1 rfl)
    have R2 := Lib.hid hR2
    have XA := Lib.hid (HX.ext 3 rfl)
    clear HX
    obtain ⟨gr, s1, s2, s3, p1, p2, p3, hgr, hg, hS, hp⟩ := hR2
    cases hgr
    have Hg := Lib.hid (fun (w3 : World) (hx : Ext w2 w3) => hx.cell (show w2.cell? ⟨g2, 0, none⟩ = some (.slice s1 s2 s3) from by
      have := cells_of hg 0 (.slice s1 s2 s3) rfl
      rwa [Addr.add_lit, Nat.zero_add] at this))
    obtain ⟨⟨add, capd, hvd, d1, d2, d3, d4⟩, _⟩ := hS
    cases hvd
    rw [List.length_map] at d1 d3 Hg
    have D3 := Lib.hid d3
    have D4 := Lib.hid (show ∀ b, s1 = some b → ∀ j u, (iCs SS)[j]? = some u → w2.cell? (b.add j) = some u from d4)
    have Ld := Lib.hid (iCs_len SS)
    have Od := Lib.hid (iCs_one SS)
    clear d1 d2 d3 d4 hp hg
    go_wp2_with fail
    refine (known HF).mono ?_
    rintro e w3 ⟨rfl, HX⟩
    clear HF
    have HF := oi_nil HX
    clear HX
    go_wp2_with (first | ((with_reducible refine k_load ?_); refine st_load1 rfl _ _ rfl _ rfl rfl (Hg.out _ (HF.ext 1 rfl)) ?_; (intro K hK; go_simp))        | ((with_reducible refine k_builtin ?_); refine st_append rfl _ _ _ rfl 3 Try.underlying27 1 st3 8 bt3 _ zt3 rfl (.slice none 0 0) 0 (iCs []) rfl HF adc l.length capc (iCs l) rfl Li.out ?_ Oi.out ?_ ?_ ?_; (intro hp; obtain ⟨bb, hbb⟩ := C3.out hp; exact ⟨bb, hbb, fun j u hj => (XA.out.trans (HF.ext 1 rfl)).cell (C4.out bb hbb j u hj)⟩); ((have := HL8.out); simp only [maxLen]; omega); ((have := HL8.out); omega); (clear HF; intro v7 w HF K hK; obtain ⟨s4, t4, u4, rfl⟩ := own_form HF; go_simp))        | ((with_reducible refine k_builtin ?_); refine st_append rfl _ _ _ rfl 3 Try.underlying27 1 st3 8 bt3 _ zt3 rfl (.slice s4 t4 u4) (0 + l.length) (iCs [] ++ iCs l) rfl HF s1 SS.length s3 (iCs SS) rfl Ld.out ?_ Od.out ?_ ?_ ?_; (intro hp; obtain ⟨bb, hbb⟩ := D3.out hp; exact ⟨bb, hbb, fun j u hj => (HF.ext 1 rfl).cell (D4.out bb hbb j u hj)⟩); ((have := HL8.out); (have := HS64.out); simp only [maxLen]; omega); ((have := HL8.out); (have := HS64.out); omega); (clear HF; intro v8 w HF K hK; obtain ⟨s5, t5, u5, rfl⟩ := own_form HF; go_simp)))
    replace HF := oi_app HF
    obtain ⟨ll, hll⟩ : ∃ ll, l ++ SS = ll := ⟨_, rfl⟩
    rw [hll] at HF
    clear hll
    have HW := Lib.hid HF
    have hrl := oi_recs HF
    have X2 := Lib.hid (HF.ext 1 rfl)
    obtain ⟨adl, capl, hvl, l1, l2, l3⟩ := hrl.value
    cases hvl
    rw [List.length_map] at l1 l3 hrl
    have hl63 : ll.length ≤ 9223372036854775807 := by simp only [maxLen] at l2; omega
    have HC := Lib.hid hrl
    have L3 := Lib.hid l3
    rw [List.length_map]
    clear HF l1 l2 l3 hrl
    have HF := At.of w
    go_wp2_with fail
    go_loopw [9] (fun i wr => ∃ k : Nat, k ≤ ll.length ∧ i = .int .i64 k ∧ At w (Arg w :: []) wr) (fun i _ => ll.length - (intOf i).toNat)
    case atStart => exact ⟨0, Nat.zero_le _, rfl, HF⟩
    case round =>
      clear HF
      obtain ⟨k, hk, rfl, HF⟩ := hrel
      by_cases hlt : k < ll.length
      · have gk : (k : Int) < ll.length := by omega
        obtain ⟨x, hkk⟩ : ∃ x, ll[k]? = some x := ⟨_, List.getElem?_eq_getElem hlt⟩
        obtain ⟨bc, rfl⟩ := L3.out (by omega)
        have Hc := Lib.hid (fun (w3 : World) (hx : Ext w w3) => hx.cell (recs_int HC.out hkk))
        clear hkk
        have hcb := count_b HP.out.s HP.out.b HP.out.p x
        have hq := share_word hcb.1 hcb.2
        have hro := order_sh (a := (countS pts x).toNat) (b := (countS pts x).toNat) (by omega) (by omega)
        rw [Nat.compare_eq_eq.2 rfl] at hro
        have HSh := Lib.hid (fun (w3 : World) (M : List HProp) (hx : Ext w w3) (HM : At w M w3) => share (R1.out.ext (X2.out.trans hx)) HP.out.b HP.out.l HP.out.p x hq HM)
        have HCo := Lib.hid (fun (w3 : World) (M : List HProp) (hx : Ext w w3) (HM : At w M w3) => rcount (R2.out.ext (X2.out.trans hx)) HP.out.b HP.out.l HP.out.p x HM)
        obtain ⟨r, hr⟩ : ∃ r, shB (countS pts x).toNat = r := ⟨_, rfl⟩
        obtain ⟨n, hn⟩ : ∃ n, countS pts x = n := ⟨_, rfl⟩
        rw [hr] at hq hro HSh
        rw [hn] at hq HCo
        clear hcb hr hn
        have hf : ∀ w, (binOp .quo 46 (.float .f64 (floatOfInt .f64 n)) (.float .f64 4751297606875873280)).run Try.prog w = .ok (.float .f64 r) w := fun w => run_float_arith _ _ _ _ _ _ _ hq
        have hne : (FloatKind.f64.format.order r r != some .eq) = false := by
          have e : FloatKind.f64.format.order r r = some .eq := hro
          rw [e]; rfl
        clear hq hro
        go_wp2_with fail
        apply wp_region_eff [] (fun i => (#[[], [], [], [], [], [], [], [], [], [], [], [], [], [], []] : Array (List Nat)).getD i []) (fun val i => ((_ :: _ :: _ :: _ :: .int .i64 x :: .float .f64 r :: _ :: _ :: _ :: _ :: .int .i64 x :: .int .i64 n :: .float .f64 (floatOfInt .f64 n) :: .float .f64 r :: .bool false :: []) : List Value).toArray.getD i undef) (fun E val => At w (Arg w :: [])) (by kernel_rfl) (by kernel_rfl) (by kernel_rfl) (by kernel_rfl) (HF)
        case step =>
          iterate 15 (refine ⟨eff_pl rfl (fun _ => by rfl) fun E val hn T ds w K H hk ho hK => ?_, ?_⟩; rotate_left)
          exact trivial
          · have o5 := ho 5 (by kernel_rfl); clear ho; simp [know, dstAt, Region.binds] at hk o5; go_simp; exact hK _ H
          · have o8 := ho 8 (by kernel_rfl); clear ho; simp [know, dstAt, Region.binds] at hk o8; go_simp; exact hK _ H
          · have o9 := ho 9 (by kernel_rfl); clear ho; simp [know, dstAt, Region.binds] at hk o9; go_simp; exact hK _ H
          · clear ho; simp [know, dstAt, Region.binds] at hk; go_simp; exact hK _ H
          · clear ho; simp [know, dstAt, Region.binds] at hk
            (refine op_load1T rfl hk (by kernel_rfl) (Hc.out _ (H.ext 0 rfl)) ?_; exact hK _ H)
          · clear ho; simp [know, dstAt, Region.binds] at hk
            (go_simp; refine (HSh.out _ _ (H.ext 0 rfl) H).mono ?_; rintro e w' ⟨rfl, H⟩; exact hK _ H)
          · have o6 := ho 6 (by kernel_rfl); clear ho; simp [know, dstAt, Region.binds] at hk o6; go_simp; exact hK _ H
          · have o8 := ho 8 (by kernel_rfl); clear ho; simp [know, dstAt, Region.binds] at hk o8; go_simp; exact hK _ H
          · have o9 := ho 9 (by kernel_rfl); clear ho; simp [know, dstAt, Region.binds] at hk o9; go_simp; exact hK _ H
          · clear ho; simp [know, dstAt, Region.binds] at hk; go_simp; exact hK _ H
          · clear ho; simp [know, dstAt, Region.binds] at hk
            (refine op_load1T rfl hk (by kernel_rfl) (Hc.out _ (H.ext 0 rfl)) ?_; exact hK _ H)
          · clear ho; simp [know, dstAt, Region.binds] at hk
            (go_simp; refine (HCo.out _ _ (H.ext 0 rfl) H).mono ?_; rintro e w' ⟨rfl, H⟩; exact hK _ H)
          · clear ho; simp [know, dstAt, Region.binds] at hk; go_simp; exact hK _ H
          · clear ho; simp [know, dstAt, Region.binds] at hk; go_simp; exact hK _ H
          · clear ho; simp [know, dstAt, Region.binds] at hk; go_simp; exact hK _ H
        case ins =>
          iterate 15 (refine ⟨ins_pl rfl (fun _ _ _ => rfl), ?_⟩)
          exact trivial
        case jns =>
          iterate 15 (refine ⟨j_pl (fun _ _ _ => rfl), ?_⟩)
          exact trivial
        case fin =>
          intro E val w5 hE H
          clear HF hE hf hne
          have HF := H
          clear H
          simp [putAll, Act.put]
          go_wp2_with fail
          go_roundw
          case rel => exact ⟨k + 1, by omega, rfl, HF⟩
          case measure => simp [intOf]; omega
      · have gk : ¬ (k : Int) < ll.length := by omega
        go_wp2_with fail
        go_ret
        exact ⟨rfl, (((HF.lift0 HW.out).drop).lift0 HB.out).below 3 rfl⟩
  · clear HF
    have HF := HX
    clear HX
    go_wp2_with fail
    refine (known HF).mono ?_
    rintro e w3 ⟨rfl, HX⟩
    clear HF
    have HF := HX
    clear HX
    go_wp2_with fail
    go_ret
    exact ⟨rfl, HF.below 1 rfl⟩
end

theorem own : ownKnob Try.prog.godebug = none := by kernel_rfl

theorem lifted (os : Os) (started : os.Started) (H : Type) (enc : TypeId × Value → H) :
    ReturnsInHanded {} Try.checked os 5 .any (Rows.ringSharesSpec.pre6 enc Try.prog Try.f5 Rows.ringSharesRow.domain false) (Rows.ringSharesSpec.post enc Try.prog Try.f5 false true false false) := by
  refine frame_true (C := Try.checked) started own (by kernel_rfl) Try.func5
    (ChangeSpec.witness6 (enc := enc) (C := Try.checked) false ⟨#[], #[.agg #[.slice none 0 0, .int .i64 0, .int .i64 0, .int .i64 0, .int .i64 0, .int .i64 0], .slice none 0 0], []⟩ 8 (by kernel_rfl) (by kernel_rfl) (by kernel_rfl) (by kernel_rfl)) rfl ?_ (by kernel_rfl) (by kernel_rfl) (by kernel_rfl) Try.underlying4 ?_
  · intro ds hds
    match ds, hds with
    | [_, _], _ => rfl
  · rintro W args ds p ⟨base, hval⟩ hA hwt
    have hp : Try.f5.params.toList = [29, 27] := by rw [Try.params5]
    rw [hp] at hA hwt
    obtain ⟨v0, r0, d0, e0, p0, q0, ha, rfl, rfl, h0, hA⟩ := trodAll_cons hA
    obtain ⟨v1, r1, d1, e1, p1, q1, rfl, rfl, rfl, h1, hA⟩ := trodAll_cons hA
    obtain ⟨rfl, rfl, rfl⟩ := trodAll_nil hA
    have ha2 : args = #[v0, v1] := by cases args; simp_all
    subst ha2
    simp only [DataW.weightsEach, List.all_append, Bool.and_eq_true] at hwt
    obtain ⟨a0, b0⟩ := Lw.arg_Config (hval 0 _ _ (by rw [Try.params5]; rfl) rfl) h0 hwt.1
    obtain ⟨a1, b1⟩ := Lw.arg_ints (hval 1 _ _ (by rw [Try.params5]; rfl) rfl) h1 hwt.2.1
    exact walk b0 b1

theorem over : Rows.ringSharesRow.holds Try.pinned (OpenSpec.ofChange Rows.ringSharesSpec) :=
  OpenClaim.holds_of_wide 5 Try.f5 rfl rfl rfl rfl rfl rfl rfl ⟨rfl, rfl, rfl, rfl, rfl⟩ rfl rfl rfl rfl rfl (by kernel_rfl) Try.func5 (by kernel_rfl)
    (of_decide_eq_true (by kernel_rfl)) (by unfold Func.isWrapper; first | (rw [if_pos (by decide +kernel)]; kernel_rfl) | (rw [if_neg (by decide +kernel)]; exact ⟨rfl, rfl⟩))
    (fun os started H enc _ => lifted os started H enc)

theorem proved : Rows.RingSharesSaid := over
#print axioms proved
end ringShares
end Go.Proofs.Ytohfboolicheeaa
