/-
  The reference's Laid.
-/
import Derived.Test.YtjobojgmadjmfaaMdRLaidB
import Derived.Test.YtjobojgmadjmfaaMdRLaidI
namespace Go.Proofs.Ytjobojgmadjmfaa
open Go.Hp Go.RowKit
set_option linter.unusedVariables false
set_option linter.unusedSimpArgs false
set_option maxRecDepth 100000
set_option maxHeartbeats 4000000
namespace Md

section
variable {w0 w : World} {L : List HProp}

theorem rlaid {h : Hd} {c : Lc} {vd ve vl vr va ve1 vl1 : Value} (hok : h.Ok) (hn : h.row.length ≤ 274877906943) (hv : HdAt w h vd ve vl vr) (ha : RowAt w va c.blk.length (bv c.blk)) (he : RecsAt w ve1 4 c.ents) (hl : RecsAt w vl1 7 c.lasts) (H : At w0 L w) :
    Calls Try.prog 23 #[.agg (hdV h vd ve vl vr), .agg (c.cells va ve1 vl1)] w (LdPost w0 L h c vd ve vl vr va ve1 vl1) := by
  obtain ⟨W, rfl⟩ : ∃ W : World, W = w := ⟨_, rfl⟩
  have HF := At.of W
  have H0 := Lib.hid H
  by_cases h1 : c.kk = 1
  case neg =>
    by_cases h2 : c.kk = 2
    · exact rlaidB h1 h2 hok hn hv ha he hl H
    · exact rlaidI h1 h2 hok hn hv ha he hl H
  obtain ⟨add, capd, hvd, -⟩ := hv.d
  obtain ⟨⟨ade, cape, hve, -⟩, -⟩ := hv.e
  obtain ⟨⟨adl, capl, hvl, -⟩, -⟩ := hv.l
  obtain ⟨ada, capa, hva, -⟩ := ha
  obtain ⟨⟨ae1, ce1, hve1, -⟩, -⟩ := he
  obtain ⟨⟨al1, cl1, hvl1, -⟩, -⟩ := hl
  obtain ⟨ad, cap, hvr, c1, c2, c3⟩ := hv.r.value
  rw [List.length_map] at hvr c1 c3
  have Hv0 := hv.r
  subst hvd hve hvl hva hve1 hvl1 hvr
  have Hv := Lib.hid Hv0
  have C3 := Lib.hid c3
  have Hok := Lib.hid hok
  clear H hv Hv0 c3 hok c1 c2
  simp only [hdV, Lc.cells]
  have tok : True := trivial
  have h1b : (c.kk == 1) = true := by simpa using h1
  have Hp : RowKit.Hid (∀ w', At W (Arg W :: []) w' → LdPost w0 L h c (.slice add h.data.length capd) (.slice ade h.ents.length cape) (.slice adl h.lasts.length capl) (.slice ad h.row.length cap) (.slice ada c.blk.length capa) (.slice ae1 c.ents.length ce1) (.slice al1 c.lasts.length cl1) (.returned (.agg #[.int .i64 c.sn, .int .i64 c.sc, .slice ada c.blk.length capa, .int .i64 h.upto, .slice ade h.ents.length cape, .slice adl h.lasts.length capl, .slice ad h.row.length cap])) w') := Lib.hid (fun w' HA => by
    refine ⟨.slice ad h.row.length cap, ?_, ?_⟩
    · have h2 : ¬ c.kk = 2 := by omega
      rw [if_pos h1, if_neg h2, if_neg h2]
      unfold laidS
      rw [if_pos h1]
      rfl
    · rw [if_pos h1]
      exact ⟨rfl, HA.lift0 H0.out⟩)
  clear h1
  go_enter Try.func23, Try.ntmps23
  go_wp2_with (first | ((with_reducible refine k_box (T := 44) ?_); refine st_box rfl _ _ rfl _ rfl HF ?_; (clear HF; intro g2 w HF K hK; simp only [Value.cells, Act.eval, Value.cells, Array.getD_eq_getD_getElem?, List.getElem?_toArray, List.getElem?_cons_succ, List.getElem?_cons_zero, Option.getD_some] at HF; go_simp)) | ((with_reducible refine k_box (T := 71) ?_); refine st_box rfl _ _ rfl _ rfl HF ?_; (clear HF; intro g3 w HF K hK; simp only [Value.cells, Act.eval, Value.cells, Array.getD_eq_getD_getElem?, List.getElem?_toArray, List.getElem?_cons_succ, List.getElem?_cons_zero, Option.getD_some] at HF; go_simp)) | ((with_reducible refine k_alloc (T := 44) ?_); (have _t := tok); refine st_alloc rfl _ rfl _ z44 _ rfl HF ?_; (clear HF tok _t; intro g4 w HF K hK; simp only [Value.cells] at HF; go_simp)) | ((with_reducible refine k_alloc (T := 44) ?_); refine st_alloc rfl _ rfl _ z44 _ rfl HF ?_; (clear HF; intro g5 w HF K hK; simp only [Value.cells] at HF; go_simp)) | ((with_reducible refine k_load (T := 41) ?_); (first | refine st_row rfl _ _ rfl _ rfl a41 3 s41 HF 0 rfl rfl ?_ | refine st_row rfl _ _ rfl _ rfl a41 3 s41 HF 1 rfl rfl ?_ | refine st_row rfl _ _ rfl _ rfl a41 3 s41 HF 2 rfl rfl ?_); (intro K hK; go_simp)) | ((with_reducible refine k_load (T := 41) ?_); (first | refine st_loads rfl _ _ rfl _ _ rfl a41 3 s41 HF 0 rfl ?_ ?_ | refine st_loads rfl _ _ rfl _ _ rfl a41 3 s41 HF 1 rfl ?_ ?_ | refine st_loads rfl _ _ rfl _ _ rfl a41 3 s41 HF 2 rfl ?_ ?_); (simp); (intro K hK; go_simp)) | ((with_reducible refine k_load (T := 36) ?_); (first | refine st_row rfl _ _ rfl _ rfl a36 3 s36 HF 0 rfl rfl ?_ | refine st_row rfl _ _ rfl _ rfl a36 3 s36 HF 1 rfl rfl ?_ | refine st_row rfl _ _ rfl _ rfl a36 3 s36 HF 2 rfl rfl ?_); (intro K hK; go_simp)) | ((with_reducible refine k_load (T := 36) ?_); (first | refine st_loads rfl _ _ rfl _ _ rfl a36 3 s36 HF 0 rfl ?_ ?_ | refine st_loads rfl _ _ rfl _ _ rfl a36 3 s36 HF 1 rfl ?_ ?_ | refine st_loads rfl _ _ rfl _ _ rfl a36 3 s36 HF 2 rfl ?_ ?_); (simp); (intro K hK; go_simp)) | ((with_reducible refine k_load (T := 44) ?_); (first | refine st_row rfl _ _ rfl _ rfl a44 7 s44 HF 0 rfl rfl ?_ | refine st_row rfl _ _ rfl _ rfl a44 7 s44 HF 1 rfl rfl ?_ | refine st_row rfl _ _ rfl _ rfl a44 7 s44 HF 2 rfl rfl ?_); (intro K hK; go_simp)) | ((with_reducible refine k_load (T := 44) ?_); (first | refine st_loads rfl _ _ rfl _ _ rfl a44 7 s44 HF 0 rfl ?_ ?_ | refine st_loads rfl _ _ rfl _ _ rfl a44 7 s44 HF 1 rfl ?_ ?_ | refine st_loads rfl _ _ rfl _ _ rfl a44 7 s44 HF 2 rfl ?_ ?_); (simp); (intro K hK; go_simp)) | ((with_reducible refine k_store (T := 44) ?_); refine st_put rfl _ _ _ rfl _ rfl _ rfl ?_ s44 HF 0 rfl rfl ?_; (simp [Value.oneCell']); (clear HF; intro w HF K hK; simp only [List.set_cons_zero, List.set_cons_succ, Act.eval, Value.cells, Array.getD_eq_getD_getElem?, List.getElem?_toArray, List.getElem?_cons_succ, List.getElem?_cons_zero, Option.getD_some] at HF; go_simp)) | ((with_reducible refine k_store (T := 44) ?_); refine st_put rfl _ _ _ rfl _ rfl _ rfl ?_ s44 HF 1 rfl rfl ?_; (simp [Value.oneCell']); (clear HF; intro w HF K hK; simp only [List.set_cons_zero, List.set_cons_succ, Act.eval, Value.cells, Array.getD_eq_getD_getElem?, List.getElem?_toArray, List.getElem?_cons_succ, List.getElem?_cons_zero, Option.getD_some] at HF; go_simp)) | ((with_reducible refine k_store (T := 41) ?_); refine st_stores rfl _ _ _ rfl _ _ rfl _ rfl ?_ s41 HF 0 rfl ?_ ?_; (simp [Value.oneCell']); (simp); (clear HF; intro w HF K hK; simp only [List.set_cons_zero, List.set_cons_succ, List.take_succ_cons, List.take_zero, List.drop_succ_cons, List.drop_zero, List.cons_append, List.nil_append, List.size_toArray, List.length_cons, List.length_nil, Nat.reduceAdd, Act.eval, Value.cells, Array.getD_eq_getD_getElem?, List.getElem?_toArray, List.getElem?_cons_succ, List.getElem?_cons_zero, Option.getD_some] at HF; go_simp)) | ((with_reducible refine k_load ?_); (first | refine st_load rfl _ _ rfl _ _ rfl ?_ HF 2 rfl rfl ?_ | refine st_load rfl _ _ rfl _ _ rfl ?_ HF 3 rfl rfl ?_); (kernel_rfl); (intro K hK; go_simp)) | ((with_reducible refine k_store ?_); refine st_store rfl _ _ _ rfl _ _ rfl _ rfl rfl ?_ HF 0 rfl ?_ ?_; (kernel_rfl); (simp); (clear HF; intro w HF K hK; simp only [List.set_cons_zero, List.set_cons_succ, List.setIfInBounds_toArray, Act.eval, Value.cells, Array.getD_eq_getD_getElem?, List.getElem?_toArray, List.getElem?_cons_succ, List.getElem?_cons_zero, Option.getD_some] at HF; go_simp)))
  refine bodyPost_ret (results_cell rfl rfl a44 s44 (HF.get 1 rfl) rfl) rfl ?_
  exact Hp.out _ (HF.sel 5 [4])
end
end Md
end Go.Proofs.Ytjobojgmadjmfaa
