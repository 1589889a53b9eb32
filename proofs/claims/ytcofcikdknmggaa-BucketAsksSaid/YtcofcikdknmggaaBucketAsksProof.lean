/-
  For any bucket, any names and any clients the law BucketAsks answers true: of a bucket that may be, the program's Find, Last and Names tell what the document tells, and keep what was handed in.
-/
import Derived.Test.YtcofcikdknmggaaBkArgs2
import Derived.Test.YtcofcikdknmggaaBkAsked
import Derived.Test.YtcofcikdknmggaaBkBuk
import Derived.ProofKit
namespace Go.Proofs.Ytcofcikdknmggaa
open Go.Hp Go.RowKit Go.ChangeShapes Go.WideShapes
set_option linter.unusedVariables false
set_option linter.unusedSimpArgs false
set_option maxRecDepth 100000
namespace bucketAsks
open Bk
namespace Lw
abbrev arg_Bucket := @Bk.arg_Bucket
abbrev arg_strings := @Bk.arg_strings
abbrev arg_ints := @Bk.arg_ints
end Lw
section
variable {W : World}

set_option maxHeartbeats 2000000 in
theorem walk {va vn vc : Value} {x : Bu0} (ha : BuArg W va x) {ns : List ByteArray} (hn : StrsArg W vn ns) {cs : List Int} (hc : IntsArg W vc cs) :
    Calls Try.prog 5 #[va, vn, vc] W fun e w => e = .returned (.bool true) ∧ Below W.heap.size W w := by
  obtain ⟨hv, he, hl, hu, be, bl⟩ := ha
  obtain ⟨u, es, ls, ve, vl⟩ := x
  dsimp only at *
  obtain ⟨hn1, hn2⟩ := hn
  obtain ⟨hc1, hc2⟩ := hc
  subst hv
  have HF := At.of W
  obtain ⟨adc, capc, rfl, c1, c2, c3⟩ := hc1.value
  obtain ⟨adn, capn, rfl, n1, n2, n3⟩ := hn1.value
  rw [List.length_map] at c1 c3 hc1 n1 n3 hn1
  have He := Lib.hid he
  have Hl := Lib.hid hl
  have HC := Lib.hid hc1
  have C3 := Lib.hid c3
  have HN := Lib.hid hn1
  have N3 := Lib.hid n3
  have be2 : es.length ≤ 140737488355328 := by omega
  have bl2 : ls.length ≤ 140737488355328 := by omega
  have be3 : (es.length + 1) * 40 ≤ 140737488355328 := by omega
  have bl3 : (ls.length + 1) * 56 ≤ 140737488355328 := by omega
  have ne : ns.length ≤ 140737488355328 := by omega
  have ce : cs.length ≤ 140737488355328 := by omega
  simp only [List.length_map]
  clear he hl hc1 c3 c1 c2 hn1 n1 n2 n3 be bl hn2 hc2
  go_enter Try.func5, Try.ntmps5
  go_wp2_with (first | ((with_reducible refine k_box ?_); refine st_box rfl _ _ rfl _ rfl HF ?_; (clear HF; intro g3 w HF K hK; simp only [Value.cells, Act.eval, Value.cells, Array.getD_eq_getD_getElem?, List.getElem?_toArray, List.getElem?_cons_succ, List.getElem?_cons_zero, Option.getD_some] at HF; go_simp)) | ((with_reducible refine k_load (T := 25) ?_); refine st_row rfl _ _ rfl _ rfl a25 3 s25 HF 0 rfl rfl ?_; (intro K hK; go_simp)) | ((with_reducible refine k_load (T := 25) ?_); refine st_loads rfl _ _ rfl _ _ rfl a25 3 s25 HF 0 rfl ?_ ?_; (simp); (intro K hK; go_simp)))
  refine (bucket (b := ⟨u, es, ls⟩) (He.out.ext (HF.ext 1 rfl)) (Hl.out.ext (HF.ext 1 rfl)) be2 bl2 HF).mono ?_
  rintro e w2 ⟨r, rfl, hr, HX⟩
  clear HF
  have HF := HX
  clear HX
  have Hr := Lib.hid hr
  clear hr
  cases r with
  | false =>
    go_wp2_with fail
    refine (head HF).mono ?_
    rintro e w3 ⟨rfl, HX⟩
    clear HF
    have HF := HX
    clear HX
    go_wp2_with fail
    go_ret
    exact ⟨rfl, HF.below 1 rfl⟩
  | true =>
    have HV := Lib.hid (Hr.out.1 rfl)
    clear Hr
    go_wp2_with fail
    go_loopw [7] (fun i wr => ∃ k : Nat, k ≤ ns.length + cs.length ∧ i = .int .i64 k ∧ At W (Blk g3 (.cells #[.int .i64 u, ve, vl] 25 (0, 0)) :: Arg W :: []) wr) (fun i _ => ns.length + cs.length - (intOf i).toNat)
    case atStart => exact ⟨0, Nat.zero_le _, rfl, HF⟩
    case round =>
      clear HF
      obtain ⟨k, hk, rfl, HF⟩ := hrel
      by_cases hltn : k < ns.length
      · have g1 : (k : Int) < ns.length := by omega
        obtain ⟨s, hs⟩ : ∃ s, ns[k]? = some s := ⟨_, List.getElem?_eq_getElem hltn⟩
        obtain ⟨bn, rfl⟩ := N3.out (by omega)
        have Ns := recs_get (f := strC) (HN.out.ext (HF.ext 1 rfl)) hs 0 (.string s) rfl
        rw [Nat.mul_one] at Ns
        by_cases hltc : k < cs.length
        · have g2 : (k : Int) < cs.length := by omega
          obtain ⟨c, hcc⟩ : ∃ c, cs[k]? = some c := ⟨_, List.getElem?_eq_getElem hltc⟩
          obtain ⟨bc, rfl⟩ := C3.out (by omega)
          have Cs := recs_get (f := intC) (HC.out.ext (HF.ext 1 rfl)) hcc 0 (.int .i64 c) rfl
          rw [Nat.mul_one] at Cs
          clear hs hcc
          go_wp2_with (first | ((with_reducible refine k_load (T := 9) ?_); refine st_load1 rfl _ _ rfl _ rfl ?_ Ns ?_; (kernel_rfl); (intro K hK; go_simp)) | ((with_reducible refine k_load (T := 3) ?_); refine st_load1 rfl _ _ rfl _ rfl ?_ Cs ?_; (kernel_rfl); (intro K hK; go_simp)) | ((with_reducible refine k_load (T := 25) ?_); refine st_row rfl _ _ rfl _ rfl a25 3 s25 HF 0 rfl rfl ?_; (intro K hK; go_simp)) | ((with_reducible refine k_load (T := 25) ?_); refine st_loads rfl _ _ rfl _ _ rfl a25 3 s25 HF 0 rfl ?_ ?_; (simp); (intro K hK; go_simp)))
          refine (asked (b := ⟨u, es, ls⟩) (vb_rise HV.out) (vb_riseL HV.out) (He.out.ext (HF.ext 1 rfl)) (Hl.out.ext (HF.ext 1 rfl)) be3 bl3 HF).mono ?_
          rintro e w3 ⟨rfl, HX⟩
          clear HF
          have HF := HX
          clear HX
          go_wp2_with fail
          go_roundw
          case rel => exact ⟨k + 1, by omega, rfl, HF⟩
          case measure => simp [intOf]; omega
        · have g2 : ¬ (k : Int) < cs.length := by omega
          have Cs := Ns
          clear hs
          go_wp2_with (first | ((with_reducible refine k_load (T := 9) ?_); refine st_load1 rfl _ _ rfl _ rfl ?_ Ns ?_; (kernel_rfl); (intro K hK; go_simp)) | ((with_reducible refine k_load (T := 3) ?_); refine st_load1 rfl _ _ rfl _ rfl ?_ Cs ?_; (kernel_rfl); (intro K hK; go_simp)) | ((with_reducible refine k_load (T := 25) ?_); refine st_row rfl _ _ rfl _ rfl a25 3 s25 HF 0 rfl rfl ?_; (intro K hK; go_simp)) | ((with_reducible refine k_load (T := 25) ?_); refine st_loads rfl _ _ rfl _ _ rfl a25 3 s25 HF 0 rfl ?_ ?_; (simp); (intro K hK; go_simp)))
          refine (asked (b := ⟨u, es, ls⟩) (vb_rise HV.out) (vb_riseL HV.out) (He.out.ext (HF.ext 1 rfl)) (Hl.out.ext (HF.ext 1 rfl)) be3 bl3 HF).mono ?_
          rintro e w3 ⟨rfl, HX⟩
          clear HF
          have HF := HX
          clear HX
          go_wp2_with fail
          go_roundw
          case rel => exact ⟨k + 1, by omega, rfl, HF⟩
          case measure => simp [intOf]; omega
      · have g1 : ¬ (k : Int) < ns.length := by omega
        by_cases hltc : k < cs.length
        · have g2 : (k : Int) < cs.length := by omega
          obtain ⟨c, hcc⟩ : ∃ c, cs[k]? = some c := ⟨_, List.getElem?_eq_getElem hltc⟩
          obtain ⟨bc, rfl⟩ := C3.out (by omega)
          have Cs := recs_get (f := intC) (HC.out.ext (HF.ext 1 rfl)) hcc 0 (.int .i64 c) rfl
          rw [Nat.mul_one] at Cs
          have Ns := Cs
          clear hcc
          go_wp2_with (first | ((with_reducible refine k_load (T := 9) ?_); refine st_load1 rfl _ _ rfl _ rfl ?_ Ns ?_; (kernel_rfl); (intro K hK; go_simp)) | ((with_reducible refine k_load (T := 3) ?_); refine st_load1 rfl _ _ rfl _ rfl ?_ Cs ?_; (kernel_rfl); (intro K hK; go_simp)) | ((with_reducible refine k_load (T := 25) ?_); refine st_row rfl _ _ rfl _ rfl a25 3 s25 HF 0 rfl rfl ?_; (intro K hK; go_simp)) | ((with_reducible refine k_load (T := 25) ?_); refine st_loads rfl _ _ rfl _ _ rfl a25 3 s25 HF 0 rfl ?_ ?_; (simp); (intro K hK; go_simp)))
          refine (asked (b := ⟨u, es, ls⟩) (vb_rise HV.out) (vb_riseL HV.out) (He.out.ext (HF.ext 1 rfl)) (Hl.out.ext (HF.ext 1 rfl)) be3 bl3 HF).mono ?_
          rintro e w3 ⟨rfl, HX⟩
          clear HF
          have HF := HX
          clear HX
          go_wp2_with fail
          go_roundw
          case rel => exact ⟨k + 1, by omega, rfl, HF⟩
          case measure => simp [intOf]; omega
        · have g2 : ¬ (k : Int) < cs.length := by omega
          go_wp2_with fail
          refine (head HF).mono ?_
          rintro e w3 ⟨rfl, HX⟩
          clear HF
          have HF := HX
          clear HX
          go_wp2_with fail
          go_ret
          exact ⟨rfl, HF.below 1 rfl⟩
end

theorem own : ownKnob Try.prog.godebug = none := by kernel_rfl

theorem lifted (os : Os) (started : os.Started) (H : Type) (enc : TypeId × Value → H) :
    ReturnsInHanded {} Try.checked os 5 .any (Rows.bucketAsksSpec.pre6 enc Try.prog Try.f5 Rows.bucketAsksRow.domain false) (Rows.bucketAsksSpec.post enc Try.prog Try.f5 false true false false) := by
  refine frame_true (C := Try.checked) started own (by kernel_rfl) Try.func5
    (ChangeSpec.witness6 (enc := enc) (C := Try.checked) false ⟨#[], #[.agg #[.int .i64 0, .slice none 0 0, .slice none 0 0], .slice none 0 0, .slice none 0 0], []⟩ 8 (by kernel_rfl) (by kernel_rfl) (by kernel_rfl) (by kernel_rfl)) rfl ?_ (by kernel_rfl) (by kernel_rfl) (by kernel_rfl) Try.underlying4 ?_
  · intro ds hds
    match ds, hds with
    | [_, _, _], _ => rfl
  · rintro W args ds p ⟨base, hval⟩ hA hwt
    have hp : Try.f5.params.toList = [25, 46, 47] := by rw [Try.params5]
    rw [hp] at hA hwt
    obtain ⟨v0, r0, d0, e0, p0, q0, ha, rfl, rfl, h0, hA⟩ := trodAll_cons hA
    obtain ⟨v1, r1, d1, e1, p1, q1, rfl, rfl, rfl, h1, hA⟩ := trodAll_cons hA
    obtain ⟨v2, r2, d2, e2, p2, q2, rfl, rfl, rfl, h2, hA⟩ := trodAll_cons hA
    obtain ⟨rfl, rfl, rfl⟩ := trodAll_nil hA
    have ha2 : args = #[v0, v1, v2] := by cases args; simp_all
    subst ha2
    simp only [DataW.weightsEach, List.all_append, Bool.and_eq_true] at hwt
    obtain ⟨a0, b0⟩ := Lw.arg_Bucket (hval 0 _ _ (by rw [Try.params5]; rfl) rfl) h0 hwt.1
    obtain ⟨a1, b1⟩ := Lw.arg_strings (hval 1 _ _ (by rw [Try.params5]; rfl) rfl) h1 hwt.2.1
    obtain ⟨a2, b2⟩ := Lw.arg_ints (hval 2 _ _ (by rw [Try.params5]; rfl) rfl) h2 hwt.2.2.1
    exact walk b0 b1 b2

theorem over : Rows.bucketAsksRow.holds Try.pinned (OpenSpec.ofChange Rows.bucketAsksSpec) :=
  OpenClaim.holds_of_wide 5 Try.f5 rfl rfl rfl rfl rfl rfl rfl ⟨rfl, rfl, rfl, rfl, rfl⟩ rfl rfl rfl rfl rfl (by kernel_rfl) Try.func5 (by kernel_rfl)
    (of_decide_eq_true (by kernel_rfl)) (by unfold Func.isWrapper; first | (rw [if_pos (by decide +kernel)]; kernel_rfl) | (rw [if_neg (by decide +kernel)]; exact ⟨rfl, rfl⟩))
    (fun os started H enc _ => lifted os started H enc)

theorem proved : Rows.BucketAsksSaid := over
#print axioms proved
end bucketAsks
end Go.Proofs.Ytcofcikdknmggaa
