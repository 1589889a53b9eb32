/-
  For any configurations the law RingPoints answers true: a ring's points are the document's, in its order.
-/
import Derived.Test.YtohfboolicheeaaRgPts
import Derived.ProofKit
namespace Go.Proofs.Ytohfboolicheeaa
open Go.Hp Go.RowKit Go.ChangeShapes Go.WideShapes
set_option linter.unusedVariables false
set_option linter.unusedSimpArgs false
set_option maxRecDepth 100000
namespace ringPoints
open Rg
namespace Lw
abbrev arg_configs := @Rg.arg_configs
end Lw
section
variable {W : World}

set_option maxHeartbeats 2000000 in
theorem walk {va : Value} {l : List Cg} (ha : CfsArg W va l) :
    Calls Try.prog 3 #[va] W fun e w => e = .returned (.bool true) ∧ Below W.heap.size W w := by
  obtain ⟨hc1, hok, _⟩ := ha
  have HF := At.of W
  obtain ⟨adc, capc, rfl, c1, c2, c3⟩ := hc1.value
  rw [List.length_map] at c1 c3 hc1
  have hl63 : l.length ≤ 9223372036854775807 := by simp only [maxLen] at c2; omega
  have HC := Lib.hid hc1
  have C3 := Lib.hid c3
  have OK := Lib.hid hok
  rw [List.length_map]
  clear hc1 hok c1 c2 c3
  go_enter Try.func3, Try.ntmps3
  go_wp2_with fail
  go_loopw [3] (fun i wr => ∃ k : Nat, k ≤ l.length ∧ i = .int .i64 k ∧ At W (Arg W :: []) wr) (fun i _ => l.length - (intOf i).toNat)
  case atStart => exact ⟨0, Nat.zero_le _, rfl, HF⟩
  case round =>
    clear HF
    obtain ⟨k, hk, rfl, HF⟩ := hrel
    by_cases hlt : k < l.length
    · have gk : (k : Int) < l.length := by omega
      obtain ⟨x, hkk⟩ : ∃ x, l[k]? = some x := ⟨_, List.getElem?_eq_getElem hlt⟩
      obtain ⟨bc, rfl⟩ := C3.out (by omega)
      have Hc := Lib.hid (fun (w3 : World) (hx : Ext W w3) j u hj => hx.cell (recs_get HC.out hkk j u hj))
      have Hs := Lib.hid (show sizeT Try.prog 29 = some x.cells.length from s29)
      have HO := Lib.hid (OK.out x (List.mem_of_getElem? hkk))
      clear hkk
      obtain ⟨c, S, vs⟩ := x
      go_wp2_with ((with_reducible refine k_load (T := 29) ?_); refine st_loadCells rfl _ _ rfl _ rfl a29 (Cg.cells ⟨c, S, vs⟩) Hs.out (Hc.out _ (HF.ext 0 rfl)) ?_; (intro K hK; go_simp))
      refine (both (c := c) (HO.out.s.ext (HF.ext 0 rfl)) HO.out.n HF).mono ?_
      rintro e w4 (⟨hRC, g1, g2, rfl, HX⟩ | ⟨hRC, rfl, HX⟩)
      · clear HF
        have HF := HX
        clear HX
        have hp := pts_ok hRC
        have HP := Lib.hid hp.l
        clear hp hRC
        go_wp2_with fail
        refine (pointsL (rgf_of (HF.pick 0 rfl)) (rgf_of (HF.pick 1 rfl)) HP.out HF).mono ?_
        rintro e w5 ⟨rfl, HX⟩
        clear HF
        have HF := HX
        clear HX
        go_wp2_with fail
        go_roundw
        case rel => exact ⟨k + 1, by omega, rfl, HF.sel 3 [2]⟩
        case measure => simp [intOf]; omega
      · clear HF hRC
        have HF := HX
        clear HX
        go_wp2_with fail
        go_roundw
        case rel => exact ⟨k + 1, by omega, rfl, HF⟩
        case measure => simp [intOf]; omega
    · have gk : ¬ (k : Int) < l.length := by omega
      go_wp2_with fail
      refine (known HF).mono ?_
      rintro e w3 ⟨rfl, HX⟩
      go_wp2_with fail
      go_ret
      exact ⟨rfl, HX.below 0 rfl⟩
end

theorem own : ownKnob Try.prog.godebug = none := by kernel_rfl

theorem lifted (os : Os) (started : os.Started) (H : Type) (enc : TypeId × Value → H) :
    ReturnsInHanded {} Try.checked os 3 .any (Rows.ringPointsSpec.pre6 enc Try.prog Try.f3 Rows.ringPointsRow.domain false) (Rows.ringPointsSpec.post enc Try.prog Try.f3 false true false false) := by
  refine frame_true (C := Try.checked) started own (by kernel_rfl) Try.func3
    (ChangeSpec.witness6 (enc := enc) (C := Try.checked) false ⟨#[], #[.slice none 0 0], []⟩ 8 (by kernel_rfl) (by kernel_rfl) (by kernel_rfl) (by kernel_rfl)) rfl ?_ (by kernel_rfl) (by kernel_rfl) (by kernel_rfl) Try.underlying4 ?_
  · intro ds hds
    match ds, hds with
    | [_], _ => rfl
  · rintro W args ds p ⟨base, hval⟩ hA hwt
    have hp : Try.f3.params.toList = [22] := by rw [Try.params3]
    rw [hp] at hA hwt
    obtain ⟨v0, r0, d0, e0, p0, q0, ha, rfl, rfl, h0, hA⟩ := trodAll_cons hA
    obtain ⟨rfl, rfl, rfl⟩ := trodAll_nil hA
    have ha2 : args = #[v0] := by cases args; simp_all
    subst ha2
    simp only [DataW.weightsEach, List.all_append, Bool.and_eq_true] at hwt
    obtain ⟨a0, b0⟩ := Lw.arg_configs (hval 0 _ _ (by rw [Try.params3]; rfl) rfl) h0 hwt.1
    exact walk b0

theorem over : Rows.ringPointsRow.holds Try.pinned (OpenSpec.ofChange Rows.ringPointsSpec) :=
  OpenClaim.holds_of_wide 3 Try.f3 rfl rfl rfl rfl rfl rfl rfl ⟨rfl, rfl, rfl, rfl, rfl⟩ rfl rfl rfl rfl rfl (by kernel_rfl) Try.func3 (by kernel_rfl)
    (of_decide_eq_true (by kernel_rfl)) (by unfold Func.isWrapper; first | (rw [if_pos (by decide +kernel)]; kernel_rfl) | (rw [if_neg (by decide +kernel)]; exact ⟨rfl, rfl⟩))
    (fun os started H enc _ => lifted os started H enc)

theorem proved : Rows.RingPointsSaid := over
#print axioms proved
end ringPoints
end Go.Proofs.Ytohfboolicheeaa
