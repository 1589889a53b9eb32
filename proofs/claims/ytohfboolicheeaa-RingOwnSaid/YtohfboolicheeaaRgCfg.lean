/-
  A ring's configuration; two alike.
-/
import Derived.Test.YtohfboolicheeaaRgArgs
namespace Go.Proofs.Ytohfboolicheeaa
open Go.Hp Go.RowKit
set_option linter.unusedVariables false
set_option linter.unusedSimpArgs false
set_option maxRecDepth 100000
set_option maxHeartbeats 2000000
namespace Rg
def cfV (v : Value) (c : Cf) : Value := .agg #[v, .int .i64 c.F, .int .i64 c.P, .int .i64 c.B, .int .i64 c.K, .int .i64 c.R]
/-- A configuration with a row of its own. -/
def CfgO (v : Value) (c : Cf) (S : List Int) : HProp := fun hp => ∃ (a : Option Addr) (n m : Nat), v = cfV (.slice a n m) c ∧ OI (.slice a n m) S hp
section
variable {w0 w : World} {L : List HProp}
theorem cfg_open {v : Value} {c : Cf} {S : List Int} (H : At w0 (CfgO v c S :: L) w) : ∃ a n m, v = cfV (.slice a n m) c ∧ RecsAt w (.slice a n m) 1 (S.map iC) ∧ At w0 (OI (.slice a n m) S :: L) w := by
  obtain ⟨a, H⟩ := At.ex H
  obtain ⟨n, H⟩ := At.ex H
  obtain ⟨m, H⟩ := At.ex H
  obtain ⟨h, H⟩ := At.and H
  exact ⟨a, n, m, h, oi_recs H, H⟩

theorem cfg {v : Value} {c : Cf} {S : List Int} {pts : List Pt} (hr : RgF 84 w v c S pts) (hsz : S.length ≤ 100000) (H : At w0 L w) :
    Calls Try.prog 39 #[v] w (fun e w' => ∃ r, e = .returned r ∧ At w0 (CfgO r c S :: L) w') := by
  obtain ⟨W, rfl⟩ : ∃ W : World, W = w := ⟨_, rfl⟩
  have HF := At.of W
  have H0 := Lib.hid H
  obtain ⟨g, s1, s2, s3, p1, p2, p3, rfl, hg, hS, hp⟩ := hr
  obtain ⟨cF, cP, cB, cK, cR⟩ := c
  have HS := Lib.hid hS
  have hag := Lib.hid (show sizeT Try.prog 29 = some ([.slice s1 s2 s3, .int .i64 cF, .int .i64 cP, .int .i64 cB, .int .i64 cK, .int .i64 cR] : List Value).length from s29)
  have hcf := Lib.hid (show ∀ (w2 : World), Ext W w2 → ∀ j u, ([.slice s1 s2 s3, .int .i64 cF, .int .i64 cP, .int .i64 cB, .int .i64 cK, .int .i64 cR] : List Value)[j]? = some u → w2.cell? ((⟨g, 0, none⟩ : Addr).add j) = some u from fun w2 hx j u hj => by
    refine hx.cell ?_
    refine cells_of hg j u ?_
    have hj6 : j < 6 := (List.getElem?_eq_some_iff.1 hj).1
    show ([.slice s1 s2 s3, .int .i64 cF, .int .i64 cP, .int .i64 cB, .int .i64 cK, .int .i64 cR] ++ [.slice p1 p2 p3] : List Value)[j]? = some u
    rw [List.getElem?_append_left (by simpa using hj6)]
    exact hj)
  have tok : True := trivial
  clear H hS hp hg
  go_enter Try.func39, Try.ntmps39
  go_wp2_with (first | ((with_reducible refine k_alloc ?_); (have _t := tok); refine st_alloc rfl _ rfl _ z29 _ rfl HF ?_; (clear HF tok _t; intro g2 w HF K hK; simp only [Value.cells] at HF; go_simp)) | ((with_reducible refine k_alloc ?_); refine st_alloc rfl _ rfl _ z29 _ rfl HF ?_; (clear HF; intro g3 w HF K hK; simp only [Value.cells] at HF; go_simp))      | ((with_reducible refine k_load (T := 29) ?_); refine st_loadCells rfl _ _ rfl _ rfl a29 [.slice s1 s2 s3, .int .i64 cF, .int .i64 cP, .int .i64 cB, .int .i64 cK, .int .i64 cR] hag.out (hcf.out _ (HF.ext 1 rfl)) ?_; (intro K hK; go_simp))      | ((with_reducible refine k_load (T := 29) ?_); refine st_loadCells rfl _ _ rfl _ rfl a29 [.slice s1 s2 s3, .int .i64 cF, .int .i64 cP, .int .i64 cB, .int .i64 cK, .int .i64 cR] hag.out (hcf.out _ (HF.ext 2 rfl)) ?_; (intro K hK; go_simp)) | ((with_reducible refine k_store (T := 29) ?_); refine st_put rfl _ _ _ rfl _ rfl _ rfl ?_ s29 HF 0 rfl rfl ?_; (simp [Value.oneCell']); (clear HF; intro w HF K hK; simp only [List.set_cons_zero, List.set_cons_succ, Act.eval, Value.cells, Array.getD_eq_getD_getElem?, List.getElem?_toArray, List.getElem?_cons_succ, List.getElem?_cons_zero, Option.getD_some] at HF; go_simp)) | ((with_reducible refine k_load ?_); refine st_load rfl _ _ rfl _ _ rfl ?_ HF 0 rfl rfl ?_; (kernel_rfl); (intro K hK; go_simp)))
  refine (clI (HS.out.ext (HF.ext 2 rfl)) (by omega) HF).mono ?_
  rintro e w4 ⟨v', rfl, HX⟩
  obtain ⟨ad, n, cap, rfl⟩ := own_form HX
  clear HF
  have HF : At W (OI (.slice ad n cap) S :: Blk g3 (.cells #[.slice s1 s2 s3, .int .i64 cF, .int .i64 cP, .int .i64 cB, .int .i64 cK, .int .i64 cR] 29 (0, 0)) :: Blk g2 (.cells #[.slice none 0 0, .int .i64 0, .int .i64 0, .int .i64 0, .int .i64 0, .int .i64 0] 29 (0, 0)) :: Arg W :: []) w4 := HX
  clear HX
  go_wp2_with (first | ((with_reducible refine k_store ?_); refine st_store rfl _ _ _ rfl _ _ rfl _ rfl rfl ?_ HF 1 rfl ?_ ?_; (kernel_rfl); (simp); (clear HF; intro w HF K hK; simp only [List.set_cons_zero, List.set_cons_succ, List.setIfInBounds_toArray, Act.eval, Value.cells, Array.getD_eq_getD_getElem?, List.getElem?_toArray, List.getElem?_cons_succ, List.getElem?_cons_zero, Option.getD_some] at HF; go_simp)) | ((with_reducible refine k_load (T := 29) ?_); refine st_row rfl _ _ rfl _ rfl a29 6 s29 HF 1 rfl rfl ?_; (intro K hK; go_simp)) | ((with_reducible refine k_load (T := 29) ?_); refine st_loads rfl _ _ rfl _ _ rfl a29 6 s29 HF 1 rfl ?_ ?_; (simp); (intro K hK; go_simp)) | ((with_reducible refine k_store (T := 29) ?_); refine st_put rfl _ _ _ rfl _ rfl _ rfl ?_ s29 HF 2 rfl rfl ?_; (simp [Value.oneCell']); (clear HF; intro w HF K hK; simp only [List.set_cons_zero, List.set_cons_succ, Act.eval, Value.cells, Array.getD_eq_getD_getElem?, List.getElem?_toArray, List.getElem?_cons_succ, List.getElem?_cons_zero, Option.getD_some] at HF; go_simp)))
  refine bodyPost_ret (results_cell rfl rfl a29 s29 (HF.get 2 rfl) rfl) rfl ?_
  refine ⟨_, rfl, ?_⟩
  have HX := (HF.sel 4 [0, 3]).lift1 H0.out
  exact At.imp HX fun _ hh => ⟨_, _, _, rfl, hh⟩

theorem sameConfig {v1 v2 : Value} {c : Cf} {S : List Int} (h1 : RecsAt w v1 1 (S.map iC)) (h2 : RecsAt w v2 1 (S.map iC)) (H : At w0 L w) :
    Calls Try.prog 38 #[cfV v1 c, cfV v2 c] w (Ret w0 (.bool true) L) := by
  obtain ⟨W, rfl⟩ : ∃ W : World, W = w := ⟨_, rfl⟩
  have HF := At.of W
  have H0 := Lib.hid H
  obtain ⟨a1, m1, rfl, _⟩ := h1.value
  obtain ⟨a2, m2, rfl, _⟩ := h2.value
  rw [List.length_map] at h1 h2
  rw [List.length_map]
  have R1 := Lib.hid h1
  have R2 := Lib.hid h2
  obtain ⟨cF, cP, cB, cK, cR⟩ := c
  have tok : True := trivial
  simp only [cfV]
  clear H h1 h2
  go_enter Try.func38, Try.ntmps38
  go_wp2_with (first | ((with_reducible refine k_box (T := 29) ?_); (have _t := tok); refine st_box rfl _ _ rfl _ rfl HF ?_; (clear HF tok _t; intro g2 w HF K hK; simp only [Value.cells] at HF; go_simp)) | ((with_reducible refine k_box (T := 29) ?_); refine st_box rfl _ _ rfl _ rfl HF ?_; (clear HF; intro g3 w HF K hK; simp only [Value.cells] at HF; go_simp)) | ((with_reducible refine k_load ?_); (first | refine st_load rfl _ _ rfl _ _ rfl ?_ HF 0 rfl rfl ?_ | refine st_load rfl _ _ rfl _ _ rfl ?_ HF 1 rfl rfl ?_); (kernel_rfl); (intro K hK; go_simp)))
  refine (sameInts (R1.out.ext (HF.ext 2 rfl)) (R2.out.ext (HF.ext 2 rfl)) HF).mono ?_
  rintro e w4 ⟨rfl, HX⟩
  go_wp2_with fail
  go_ret
  exact ⟨rfl, (HX.sel 3 [2]).lift0 H0.out⟩
end
end Rg
end Go.Proofs.Ytohfboolicheeaa
