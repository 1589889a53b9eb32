/-
  For any configuration and any keys the law RingGroups answers true: every Group is the document's.
-/
import Derived.Test.YtohfboolicheeaaRgArgs
import Derived.Test.YtohfboolicheeaaRgRGroup
import Derived.ProofKit
namespace Go.Proofs.Ytohfboolicheeaa
open Go.Hp Go.RowKit Go.ChangeShapes Go.WideShapes
set_option linter.unusedVariables false
set_option linter.unusedSimpArgs false
set_option maxRecDepth 100000
namespace ringGroups
open Rg
namespace Lw
abbrev arg_Config := @Rg.arg_Config
abbrev arg_keys := @Rg.arg_keys
end Lw
theorem nil_ints {w : World} : RecsAt w (.slice none 0 0) 1 (([] : List Int).map iC) := ⟨⟨none, 0, rfl, Nat.le_refl _, by simp [maxLen], fun h => absurd h (Nat.lt_irrefl _), fun b hb => by cases hb⟩, fun r hr => absurd hr List.not_mem_nil⟩
section
variable {W : World}

set_option maxHeartbeats 2000000 in
theorem walk {va vk : Value} {x : Cg} (ha : CfArg W va x) {l : List Ky} (hk : KysArg W vk l) :
    Calls Try.prog 4 #[va, vk] W fun e w => e = .returned (.bool true) ∧ Below W.heap.size W w := by
  obtain ⟨rfl, hs, hn, _⟩ := ha
  obtain ⟨c, S, vs⟩ := x
  obtain ⟨hc1, hc2⟩ := hk
  dsimp only at *
  have HF := At.of W
  obtain ⟨adc, capc, rfl, c1, c2, c3⟩ := hc1.value
  rw [List.length_map] at c1 c3 hc1
  have hl63 : l.length ≤ 9223372036854775807 := by simp only [maxLen] at c2; omega
  have HC := Lib.hid hc1
  have C3 := Lib.hid c3
  obtain ⟨ads, caps, rfl, s1, s2, s3⟩ := hs.value
  rw [List.length_map] at hs s1 s3
  rw [List.length_map]
  have HS := Lib.hid hs
  have HN := Lib.hid hn
  clear hc1 hc2 c1 c2 c3 hs s1 s2 s3 hn
  simp only [Cg.cells]
  go_enter Try.func4, Try.ntmps4
  go_wp2_with (first | ((with_reducible refine k_box ?_); refine st_box rfl _ _ rfl _ rfl HF ?_; (clear HF; intro g4 w HF K hK; simp only [Value.cells, Act.eval, Value.cells, Array.getD_eq_getD_getElem?, List.getElem?_toArray, List.getElem?_cons_succ, List.getElem?_cons_zero, Option.getD_some] at HF; go_simp)) | ((with_reducible refine k_load (T := 29) ?_); refine st_row rfl _ _ rfl _ rfl a29 6 s29 HF 0 rfl rfl ?_; (intro K hK; go_simp)) | ((with_reducible refine k_load (T := 29) ?_); refine st_loads rfl _ _ rfl _ _ rfl a29 6 s29 HF 0 rfl ?_ ?_; (simp); (intro K hK; go_simp)))
  refine (both (c := c) (HS.out.ext (HF.ext 1 rfl)) HN.out HF).mono ?_
  rintro e w2 (⟨hRC, g1, g2, rfl, HX⟩ | ⟨hRC, rfl, HX⟩)
  · clear HF
    have HP := Lib.hid (pts_ok hRC)
    have HR := Lib.hid hRC
    obtain ⟨pts, hpts⟩ : ∃ pts, sortP (ptsOf (sortI S) c.P.toNat) = pts := ⟨_, rfl⟩
    obtain ⟨SS, hSS⟩ : ∃ SS, sortI S = SS := ⟨_, rfl⟩
    rw [hpts] at HP HX
    rw [hSS] at HX
    clear hpts hSS hRC
    have HB := Lib.hid HX
    have HF := At.of w2
    have R1 := Lib.hid (rgf_of (HX.pick 0 rfl))
    have R2 := Lib.hid (rgf_of (HX.pick 1 rfl))
    have XA := Lib.hid (HX.ext 3 rfl)
    clear HX
    have HG1 := Lib.hid (fun (w3 : World) (M : List HProp) (k : Ky) (hx : Ext w2 w3) (HM : At w2 M w3) => group (R1.out.ext hx) HP.out.s HP.out.l HP.out.p HR.out.f HP.out.f k HM)
    have HG2 := Lib.hid (fun (w3 : World) (M : List HProp) (k : Ky) (hx : Ext w2 w3) (HM : At w2 M w3) => rgroup (R2.out.ext hx) HP.out.s HP.out.l HP.out.p HR.out.f HR.out.b k HM)
    go_wp2_with fail
    refine (known HF).mono ?_
    rintro e w3 ⟨rfl, HX⟩
    clear HF
    have HF := HX
    clear HX
    go_wp2_with fail
    go_loopw [8] (fun i wr => ∃ k : Nat, k ≤ l.length ∧ i = .int .i64 k ∧ At w2 (Arg w2 :: []) wr) (fun i _ => l.length - (intOf i).toNat)
    case atStart => exact ⟨0, Nat.zero_le _, rfl, HF⟩
    case round =>
      clear HF
      obtain ⟨k, hk, rfl, HF⟩ := hrel
      by_cases hlt : k < l.length
      · have gk : (k : Int) < l.length := by omega
        obtain ⟨ky, hkk⟩ : ∃ ky, l[k]? = some ky := ⟨_, List.getElem?_eq_getElem hlt⟩
        obtain ⟨bc, rfl⟩ := C3.out (by omega)
        have Hc := Lib.hid (fun (w3 : World) (hx : Ext w2 w3) j u hj => hx.cell (XA.out.cell (recs_get HC.out hkk j u hj)))
        have Hs := Lib.hid (show sizeT Try.prog 38 = some ky.cells.length from s38)
        clear hkk
        go_wp2_with ((with_reducible refine k_load (T := 38) ?_); refine st_loadCells rfl _ _ rfl _ rfl a38 ky.cells Hs.out (Hc.out _ (HF.ext 0 rfl)) ?_; (intro K hK; go_simp))
        refine (HG1.out _ _ ky (HF.ext 0 rfl) HF).mono ?_
        rintro e w4 (⟨hkr, v1, rfl, HX⟩ | ⟨hkr, rfl, HX⟩)
        · clear HF
          have HF := HX
          clear HX
          go_wp2_with ((with_reducible refine k_load (T := 38) ?_); refine st_loadCells rfl _ _ rfl _ rfl a38 ky.cells Hs.out (Hc.out _ (HF.ext 1 rfl)) ?_; (intro K hK; go_simp))
          refine (HG2.out _ _ ky (HF.ext 1 rfl) HF).mono ?_
          rintro e w5 (⟨_, v2, rfl, HX⟩ | ⟨hkn, _⟩)
          · clear HF
            have HF := HX
            clear HX
            go_wp2_with fail
            refine (sameInts (oi_recs (HF.pick 1 rfl)) (oi_recs (HF.pick 0 rfl)) HF).mono ?_
            rintro e w6 ⟨rfl, HX⟩
            clear HF
            have HF := HX
            clear HX
            go_wp2_with fail
            go_roundw
            case rel => exact ⟨k + 1, by omega, rfl, HF.sel 3 [2]⟩
            case measure => simp [intOf]; omega
          · exact absurd hkr hkn
        · clear HF
          have HF := HX
          clear HX
          go_wp2_with ((with_reducible refine k_load (T := 38) ?_); refine st_loadCells rfl _ _ rfl _ rfl a38 ky.cells Hs.out (Hc.out _ (HF.ext 0 rfl)) ?_; (intro K hK; go_simp))
          refine (HG2.out _ _ ky (HF.ext 0 rfl) HF).mono ?_
          rintro e w5 (⟨hkn, _⟩ | ⟨_, rfl, HX⟩)
          · exact absurd hkn hkr
          · clear HF
            have HF := HX
            clear HX
            go_wp2_with fail
            refine (sameInts nil_ints nil_ints HF).mono ?_
            rintro e w6 ⟨rfl, HX⟩
            clear HF
            have HF := HX
            clear HX
            go_wp2_with fail
            go_roundw
            case rel => exact ⟨k + 1, by omega, rfl, HF⟩
            case measure => simp [intOf]; omega
      · have gk : ¬ (k : Int) < l.length := by omega
        go_wp2_with fail
        go_ret
        exact ⟨rfl, (HF.lift0 HB.out).below 3 rfl⟩
  · clear HF
    have HF := HX
    clear HX
    go_wp2_with fail
    refine (known HF).mono ?_
    rintro e w3 ⟨rfl, HX⟩
    clear HF
    have HF := HX
    clear HX
    go_wp2_with fail
    go_ret
    exact ⟨rfl, HF.below 1 rfl⟩
end

theorem own : ownKnob Try.prog.godebug = none := by kernel_rfl

theorem lifted (os : Os) (started : os.Started) (H : Type) (enc : TypeId × Value → H) :
    ReturnsInHanded {} Try.checked os 4 .any (Rows.ringGroupsSpec.pre6 enc Try.prog Try.f4 Rows.ringGroupsRow.domain false) (Rows.ringGroupsSpec.post enc Try.prog Try.f4 false true false false) := by
  refine frame_true (C := Try.checked) started own (by kernel_rfl) Try.func4
    (ChangeSpec.witness6 (enc := enc) (C := Try.checked) false ⟨#[], #[.agg #[.slice none 0 0, .int .i64 0, .int .i64 0, .int .i64 0, .int .i64 0, .int .i64 0], .slice none 0 0], []⟩ 8 (by kernel_rfl) (by kernel_rfl) (by kernel_rfl) (by kernel_rfl)) rfl ?_ (by kernel_rfl) (by kernel_rfl) (by kernel_rfl) Try.underlying4 ?_
  · intro ds hds
    match ds, hds with
    | [_, _], _ => rfl
  · rintro W args ds p ⟨base, hval⟩ hA hwt
    have hp : Try.f4.params.toList = [29, 33] := by rw [Try.params4]
    rw [hp] at hA hwt
    obtain ⟨v0, r0, d0, e0, p0, q0, ha, rfl, rfl, h0, hA⟩ := trodAll_cons hA
    obtain ⟨v1, r1, d1, e1, p1, q1, rfl, rfl, rfl, h1, hA⟩ := trodAll_cons hA
    obtain ⟨rfl, rfl, rfl⟩ := trodAll_nil hA
    have ha2 : args = #[v0, v1] := by cases args; simp_all
    subst ha2
    simp only [DataW.weightsEach, List.all_append, Bool.and_eq_true] at hwt
    obtain ⟨a0, b0⟩ := Lw.arg_Config (hval 0 _ _ (by rw [Try.params4]; rfl) rfl) h0 hwt.1
    obtain ⟨a1, b1⟩ := Lw.arg_keys (hval 1 _ _ (by rw [Try.params4]; rfl) rfl) h1 hwt.2.1
    exact walk b0 b1

theorem over : Rows.ringGroupsRow.holds Try.pinned (OpenSpec.ofChange Rows.ringGroupsSpec) :=
  OpenClaim.holds_of_wide 4 Try.f4 rfl rfl rfl rfl rfl rfl rfl ⟨rfl, rfl, rfl, rfl, rfl⟩ rfl rfl rfl rfl rfl (by kernel_rfl) Try.func4 (by kernel_rfl)
    (of_decide_eq_true (by kernel_rfl)) (by unfold Func.isWrapper; first | (rw [if_pos (by decide +kernel)]; kernel_rfl) | (rw [if_neg (by decide +kernel)]; exact ⟨rfl, rfl⟩))
    (fun os started H enc _ => lifted os started H enc)

theorem proved : Rows.RingGroupsSaid := over
#print axioms proved
end ringGroups
end Go.Proofs.Ytohfboolicheeaa
