/-
  The statements' own functions: may.
-/
import Derived.Test.YtjobojgmadjmfaaMdMayA
import Derived.Test.YtjobojgmadjmfaaMdMayB
namespace Go.Proofs.Ytjobojgmadjmfaa
open Go.Hp Go.RowKit
set_option linter.unusedVariables false
set_option linter.unusedSimpArgs false
set_option maxRecDepth 100000
set_option maxHeartbeats 4000000
namespace Md

section
variable {w0 w : World} {L : List HProp}

theorem may {h : Hd} {vd ve vl vr : Value} (hok : h.Ok) (hsz : h.row.length ≤ 140737488355328) (hv : HdAt w h vd ve vl vr) (be : h.ents.length * 40 ≤ 140737488355328) (bl : h.lasts.length * 56 ≤ 140737488355328) (H : At w0 L w) :
    Calls Try.prog 9 #[.agg (hdV h vd ve vl vr)] w (MayPost w0 L h) := by
  obtain ⟨W, rfl⟩ : ∃ W : World, W = w := ⟨_, rfl⟩
  have HF := At.of W
  have H0 := Lib.hid H
  obtain ⟨ad, cap, rfl, c1, c2, c3⟩ := hv.r.value
  obtain ⟨ae, ce, rfl, d1, d2, d3⟩ := hv.e.value
  obtain ⟨al, cl, rfl, e1, e2, e3⟩ := hv.l.value
  rw [List.length_map] at c1 c3
  simp only [List.length_map] at hv ⊢
  have HVV := Lib.hid hv
  have Hv := Lib.hid hv.r
  have C3 := Lib.hid c3
  have Hok := Lib.hid hok
  clear H hv c3 d3 e3 hok
  have hws : IntKind.i64.wrap ((h.ents.length : Int) + h.lasts.length) = (h.ents.length : Int) + h.lasts.length := IntWalk.i64_in _ (by omega)
  simp only [hdV]
  by_cases hu1 : h.upto < 0
  · go_enter Try.func9, Try.ntmps9
    go_wp2_with (first | ((with_reducible refine k_box (T := 44) ?_); refine st_box rfl _ _ rfl _ rfl HF ?_; (clear HF; intro g1 w HF K hK; simp only [Value.cells, Act.eval, Value.cells, Array.getD_eq_getD_getElem?, List.getElem?_toArray, List.getElem?_cons_succ, List.getElem?_cons_zero, Option.getD_some] at HF; go_simp)) | ((with_reducible refine k_load ?_); (first | refine st_load rfl _ _ rfl _ _ rfl ?_ HF 0 rfl rfl ?_ | refine st_load rfl _ _ rfl _ _ rfl ?_ HF 1 rfl rfl ?_ | refine st_load rfl _ _ rfl _ _ rfl ?_ HF 2 rfl rfl ?_); (kernel_rfl); (intro K hK; go_simp)))
    go_ret
    exact ⟨false, rfl, fun hx => Bool.noConfusion hx, (HF.sel 2 [1]).lift0 H0.out⟩
  by_cases hu2 : 1048576 < h.upto
  · go_enter Try.func9, Try.ntmps9
    go_wp2_with (first | ((with_reducible refine k_box (T := 44) ?_); refine st_box rfl _ _ rfl _ rfl HF ?_; (clear HF; intro g1 w HF K hK; simp only [Value.cells, Act.eval, Value.cells, Array.getD_eq_getD_getElem?, List.getElem?_toArray, List.getElem?_cons_succ, List.getElem?_cons_zero, Option.getD_some] at HF; go_simp)) | ((with_reducible refine k_load ?_); (first | refine st_load rfl _ _ rfl _ _ rfl ?_ HF 0 rfl rfl ?_ | refine st_load rfl _ _ rfl _ _ rfl ?_ HF 1 rfl rfl ?_ | refine st_load rfl _ _ rfl _ _ rfl ?_ HF 2 rfl rfl ?_); (kernel_rfl); (intro K hK; go_simp)))
    go_ret
    exact ⟨false, rfl, fun hx => Bool.noConfusion hx, (HF.sel 2 [1]).lift0 H0.out⟩
  by_cases hu3 : h.upto = 0 ∧ (0 : Int) < (h.ents.length : Int) + h.lasts.length
  · have hb3 : (h.upto == 0) = true := by simpa using hu3.1
    have hs3 := hu3.2
    clear hu3
    go_enter Try.func9, Try.ntmps9
    go_wp2_with (first | ((with_reducible refine k_box (T := 44) ?_); refine st_box rfl _ _ rfl _ rfl HF ?_; (clear HF; intro g1 w HF K hK; simp only [Value.cells, Act.eval, Value.cells, Array.getD_eq_getD_getElem?, List.getElem?_toArray, List.getElem?_cons_succ, List.getElem?_cons_zero, Option.getD_some] at HF; go_simp)) | ((with_reducible refine k_load ?_); (first | refine st_load rfl _ _ rfl _ _ rfl ?_ HF 0 rfl rfl ?_ | refine st_load rfl _ _ rfl _ _ rfl ?_ HF 1 rfl rfl ?_ | refine st_load rfl _ _ rfl _ _ rfl ?_ HF 2 rfl rfl ?_); (kernel_rfl); (intro K hK; go_simp)))
    go_ret
    exact ⟨false, rfl, fun hx => Bool.noConfusion hx, (HF.sel 2 [1]).lift0 H0.out⟩
  have hU : 0 ≤ h.upto ∧ h.upto ≤ 1048576 ∧ (h.upto = 0 → h.ents = [] ∧ h.lasts = []) := by
    refine ⟨by omega, by omega, fun hz => ?_⟩
    have : h.ents.length = 0 ∧ h.lasts.length = 0 := by omega
    exact ⟨List.eq_nil_of_length_eq_zero this.1, List.eq_nil_of_length_eq_zero this.2⟩
  by_cases hz : h.upto = 0
  · exact mayA hU (by simpa using hz) (fun hx => hu3 ⟨hz, hx⟩) Hok.out hsz HVV.out be bl H0.out
  · exact mayB hU (by simpa using hz) Hok.out hsz HVV.out be bl H0.out
end
end Md
end Go.Proofs.Ytjobojgmadjmfaa
