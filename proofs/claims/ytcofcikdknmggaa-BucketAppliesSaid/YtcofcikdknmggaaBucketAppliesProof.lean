/-
  For any bucket, any command and any room the law BucketApplies answers true: the program's Apply answers as the document says wherever the document speaks, keeps what was handed in, and refuses what must be refused.
-/
import Derived.Test.YtcofcikdknmggaaBkArgs
import Derived.Test.YtcofcikdknmggaaBkApplied
import Derived.ProofKit
namespace Go.Proofs.Ytcofcikdknmggaa
open Go.Hp Go.RowKit Go.ChangeShapes Go.WideShapes
set_option linter.unusedVariables false
set_option linter.unusedSimpArgs false
set_option maxRecDepth 100000
namespace bucketApplies
open Bk
namespace Lw
abbrev arg_Bucket := @Bk.arg_Bucket
abbrev arg_Cmd := @Bk.arg_Cmd
abbrev arg_int := @Bk.arg_int
end Lw
section
variable {W : World}

set_option maxHeartbeats 1000000 in
theorem walk {va vc vn : Value} {x : Bu0} (ha : BuArg W va x) {c : Cm} (hc : CmArg vc c) {n : Int} (hn : IntArg vn n) :
    Calls Try.prog 3 #[va, vc, vn] W fun e w => e = .returned (.bool true) ∧ Below W.heap.size W w := by
  obtain ⟨hv, he, hl, hu, be, bl⟩ := ha
  obtain ⟨u, es, ls, ve, vl⟩ := x
  dsimp only at *
  obtain rfl := hc
  obtain ⟨rfl, _⟩ := hn
  subst hv
  have HF := At.of W
  have HC := Lib.hid (fun (w2 : World) (M : List HProp) (h1 : RecsAt w2 ve 4 (es.map En.cells)) (h2 : RecsAt w2 vl 7 (ls.map La.cells)) (HM : At W M w2) => applied (b := ⟨u, es, ls⟩) (c := c) (room := n) h1 h2 hu.1 (by show (es.length + 1) * 40 ≤ _; omega) (by show (ls.length + 1) * 56 ≤ _; omega) HM)
  have He := Lib.hid he
  have Hl := Lib.hid hl
  have v1 := Lib.hid (row_one1 he.1)
  have v2 := Lib.hid (row_one1 hl.1)
  have e1 := row_cells1 he.1
  have e2 := row_cells1 hl.1
  clear he hl hu be bl
  go_enter Try.func3, Try.ntmps3
  go_wp2_with (first | ((with_reducible refine k_box (T := 25) ?_); refine st_box rfl _ _ rfl _ rfl HF ?_; (clear HF; intro g1 w HF K hK; simp only [Value.cells, Act.eval, Value.cells, Array.getD_eq_getD_getElem?, List.getElem?_toArray, List.getElem?_cons_succ, List.getElem?_cons_zero, Option.getD_some] at HF; go_simp)) | ((with_reducible refine k_box (T := 29) ?_); refine st_box rfl _ _ rfl _ rfl HF ?_; (clear HF; intro g2 w HF K hK; simp only [Value.cells, Act.eval, Value.cells, Array.getD_eq_getD_getElem?, List.getElem?_toArray, List.getElem?_cons_succ, List.getElem?_cons_zero, Option.getD_some] at HF; go_simp)) | ((with_reducible refine k_load (T := 25) ?_); (first | refine st_row rfl _ _ rfl _ rfl a25 3 s25 HF 0 rfl rfl ?_ | refine st_row rfl _ _ rfl _ rfl a25 3 s25 HF 1 rfl rfl ?_); (intro K hK; go_simp)) | ((with_reducible refine k_load (T := 25) ?_); (first | refine st_loads rfl _ _ rfl _ _ rfl a25 3 s25 HF 0 rfl ?_ ?_ | refine st_loads rfl _ _ rfl _ _ rfl a25 3 s25 HF 1 rfl ?_ ?_); (simp); (intro K hK; go_simp)) | ((with_reducible refine k_load (T := 29) ?_); (first | refine st_row rfl _ _ rfl _ rfl a29 9 s29 HF 0 rfl rfl ?_ | refine st_row rfl _ _ rfl _ rfl a29 9 s29 HF 1 rfl rfl ?_); (intro K hK; go_simp)) | ((with_reducible refine k_load (T := 29) ?_); (first | refine st_loads rfl _ _ rfl _ _ rfl a29 9 s29 HF 0 rfl ?_ ?_ | refine st_loads rfl _ _ rfl _ _ rfl a29 9 s29 HF 1 rfl ?_ ?_); (simp); (intro K hK; go_simp)))
  refine (HC.out _ _ (He.out.ext (HF.ext 2 rfl)) (Hl.out.ext (HF.ext 2 rfl)) HF).mono ?_
  rintro e w2 ⟨u2, ad1, n1, cap1, ad2, n2, cap2, rfl, HX⟩
  clear HF
  have HF := HX
  clear HX
  go_wp2_with (first | ((with_reducible refine k_alloc (T := 25) ?_); refine st_alloc rfl _ rfl _ z25 _ rfl HF ?_; (clear HF; intro g7 w HF K hK; simp only [Value.cells] at HF; go_simp)) | ((with_reducible refine k_store (T := 25) ?_); refine st_put rfl _ _ _ rfl _ rfl _ rfl ?_ s25 HF 0 rfl rfl ?_; (simp [Value.oneCell']); (clear HF; intro w HF K hK; simp only [List.set_cons_zero, List.set_cons_succ, Act.eval, Value.cells, Array.getD_eq_getD_getElem?, List.getElem?_toArray, List.getElem?_cons_succ, List.getElem?_cons_zero, Option.getD_some] at HF; go_simp)))
  refine (head HF).mono ?_
  rintro e w3 ⟨rfl, HX⟩
  clear HF
  have HF := HX
  clear HX
  go_wp2_with fail
  go_ret
  exact ⟨rfl, HF.below 3 rfl⟩
end

theorem own : ownKnob Try.prog.godebug = none := by kernel_rfl

theorem lifted (os : Os) (started : os.Started) (H : Type) (enc : TypeId × Value → H) :
    ReturnsInHanded {} Try.checked os 3 .any (Rows.bucketAppliesSpec.pre6 enc Try.prog Try.f3 Rows.bucketAppliesRow.domain false) (Rows.bucketAppliesSpec.post enc Try.prog Try.f3 false true false false) := by
  refine frame_true (C := Try.checked) started own (by kernel_rfl) Try.func3
    (ChangeSpec.witness6 (enc := enc) (C := Try.checked) false ⟨#[], #[.agg #[.int .i64 0, .slice none 0 0, .slice none 0 0], .agg #[.int .i64 0, .int .i64 0, .int .i64 0, .string ⟨#[]⟩, .int .i64 0, .int .i64 0, .int .i64 0, .int .i64 0, .int .i64 0], .int .i64 0], []⟩ 8 (by kernel_rfl) (by kernel_rfl) (by kernel_rfl) (by kernel_rfl)) rfl ?_ (by kernel_rfl) (by kernel_rfl) (by kernel_rfl) Try.underlying4 ?_
  · intro ds hds
    match ds, hds with
    | [_, _, _], _ => rfl
  · rintro W args ds p ⟨base, hval⟩ hA hwt
    have hp : Try.f3.params.toList = [25, 29, 3] := by rw [Try.params3]
    rw [hp] at hA hwt
    obtain ⟨v0, r0, d0, e0, p0, q0, ha, rfl, rfl, h0, hA⟩ := trodAll_cons hA
    obtain ⟨v1, r1, d1, e1, p1, q1, rfl, rfl, rfl, h1, hA⟩ := trodAll_cons hA
    obtain ⟨v2, r2, d2, e2, p2, q2, rfl, rfl, rfl, h2, hA⟩ := trodAll_cons hA
    obtain ⟨rfl, rfl, rfl⟩ := trodAll_nil hA
    have ha2 : args = #[v0, v1, v2] := by cases args; simp_all
    subst ha2
    simp only [DataW.weightsEach, List.all_append, Bool.and_eq_true] at hwt
    obtain ⟨a0, b0⟩ := Lw.arg_Bucket (hval 0 _ _ (by rw [Try.params3]; rfl) rfl) h0 hwt.1
    obtain ⟨a1, b1⟩ := Lw.arg_Cmd (hval 1 _ _ (by rw [Try.params3]; rfl) rfl) h1 hwt.2.1
    obtain ⟨a2, b2⟩ := Lw.arg_int (hval 2 _ _ (by rw [Try.params3]; rfl) rfl) h2 hwt.2.2.1
    exact walk b0 b1 b2

theorem over : Rows.bucketAppliesRow.holds Try.pinned (OpenSpec.ofChange Rows.bucketAppliesSpec) :=
  OpenClaim.holds_of_wide 3 Try.f3 rfl rfl rfl rfl rfl rfl rfl ⟨rfl, rfl, rfl, rfl, rfl⟩ rfl rfl rfl rfl rfl (by kernel_rfl) Try.func3 (by kernel_rfl)
    (of_decide_eq_true (by kernel_rfl)) (by unfold Func.isWrapper; first | (rw [if_pos (by decide +kernel)]; kernel_rfl) | (rw [if_neg (by decide +kernel)]; exact ⟨rfl, rfl⟩))
    (fun os started H enc _ => lifted os started H enc)

theorem proved : Rows.BucketAppliesSaid := over
#print axioms proved
end bucketApplies
end Go.Proofs.Ytcofcikdknmggaa
