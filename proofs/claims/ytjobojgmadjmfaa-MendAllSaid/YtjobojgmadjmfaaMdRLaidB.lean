/-
  The reference's Laid: a bucket.
-/
import Derived.Test.YtjobojgmadjmfaaMdLaidD
namespace Go.Proofs.Ytjobojgmadjmfaa
open Go.Hp Go.RowKit
set_option linter.unusedVariables false
set_option linter.unusedSimpArgs false
set_option maxRecDepth 100000
set_option maxHeartbeats 4000000
namespace Md

section
variable {w0 w : World} {L : List HProp}

theorem rlaidB {h : Hd} {c : Lc} {vd ve vl vr va ve1 vl1 : Value} (h1 : ¬ c.kk = 1) (h2 : c.kk = 2) (hok : h.Ok) (hn : h.row.length ≤ 274877906943) (hv : HdAt w h vd ve vl vr) (ha : RowAt w va c.blk.length (bv c.blk)) (he : RecsAt w ve1 4 c.ents) (hl : RecsAt w vl1 7 c.lasts) (H : At w0 L w) :
    Calls Try.prog 23 #[.agg (hdV h vd ve vl vr), .agg (c.cells va ve1 vl1)] w (LdPost w0 L h c vd ve vl vr va ve1 vl1) := by
  obtain ⟨W, rfl⟩ : ∃ W : World, W = w := ⟨_, rfl⟩
  have HF := At.of W
  have H0 := Lib.hid H
  obtain ⟨add, capd, hvd, -⟩ := hv.d
  obtain ⟨⟨ade, cape, hve, -⟩, -⟩ := hv.e
  obtain ⟨⟨adl, capl, hvl, -⟩, -⟩ := hv.l
  obtain ⟨ada, capa, hva, -⟩ := ha
  obtain ⟨⟨ae1, ce1, hve1, -⟩, -⟩ := he
  obtain ⟨⟨al1, cl1, hvl1, -⟩, -⟩ := hl
  obtain ⟨ad, cap, hvr, c1, c2, c3⟩ := hv.r.value
  rw [List.length_map] at hvr c1 c3
  have Hv0 := hv.r
  subst hvd hve hvl hva hve1 hvl1 hvr
  have Hv := Lib.hid Hv0
  have C3 := Lib.hid c3
  have Hok := Lib.hid hok
  clear H hv Hv0 c3 hok c1 c2
  simp only [hdV, Lc.cells]
  have tok : True := trivial
  have h1b : (c.kk == 1) = false := by simpa using h1
  have h2b : (c.kk == 2) = true := by simpa using h2
  have Hend : RowKit.Hid (∀ w' (l : List Pl), laidRow c.upto c.pl true h.row = l → ∀ (vo : Value), At W (OwnRow 88 15 vo l.length (l.map Pl.cells).flatten :: Arg W :: []) w' → LdPost w0 L h c (.slice add h.data.length capd) (.slice ade h.ents.length cape) (.slice adl h.lasts.length capl) (.slice ad h.row.length cap) (.slice ada c.blk.length capa) (.slice ae1 c.ents.length ce1) (.slice al1 c.lasts.length cl1) (.returned (.agg #[.int .i64 h.sn, .int .i64 h.sc, .slice add h.data.length capd, .int .i64 c.upto, .slice ae1 c.ents.length ce1, .slice al1 c.lasts.length cl1, vo])) w') := Lib.hid (fun w' l hl vo HA => by
    refine ⟨vo, ?_, ?_⟩
    · rw [if_neg h1, if_pos h2, if_pos h2]
      unfold laidS
      rw [if_neg h1, if_pos h2]
      rfl
    · rw [if_neg h1]
      have e : (laidS h c).row = l := by unfold laidS; rw [if_neg h1, if_pos h2]; exact hl
      rw [e]
      exact (show At W ([Hold _ _ _] ++ [Arg W]) _ from hold_of own_own HA).lift H0.out)
  clear h1 h2
  go_enter Try.func23, Try.ntmps23
  go_wp2_with (first | ((with_reducible refine k_box (T := 44) ?_); refine st_box rfl _ _ rfl _ rfl HF ?_; (clear HF; intro g2 w HF K hK; simp only [Value.cells, Act.eval, Value.cells, Array.getD_eq_getD_getElem?, List.getElem?_toArray, List.getElem?_cons_succ, List.getElem?_cons_zero, Option.getD_some] at HF; go_simp)) | ((with_reducible refine k_box (T := 71) ?_); refine st_box rfl _ _ rfl _ rfl HF ?_; (clear HF; intro g3 w HF K hK; simp only [Value.cells, Act.eval, Value.cells, Array.getD_eq_getD_getElem?, List.getElem?_toArray, List.getElem?_cons_succ, List.getElem?_cons_zero, Option.getD_some] at HF; go_simp)) | ((with_reducible refine k_alloc (T := 44) ?_); (have _t := tok); refine st_alloc rfl _ rfl _ z44 _ rfl HF ?_; (clear HF tok _t; intro g4 w HF K hK; simp only [Value.cells] at HF; go_simp)) | ((with_reducible refine k_alloc (T := 44) ?_); refine st_alloc rfl _ rfl _ z44 _ rfl HF ?_; (clear HF; intro g5 w HF K hK; simp only [Value.cells] at HF; go_simp)) | ((with_reducible refine k_load (T := 41) ?_); refine st_row rfl _ _ rfl _ rfl a41 3 s41 HF 2 rfl rfl ?_; (intro K hK; go_simp)) | ((with_reducible refine k_load (T := 41) ?_); refine st_loads rfl _ _ rfl _ _ rfl a41 3 s41 HF 2 rfl ?_ ?_; (simp); (intro K hK; go_simp)) | ((with_reducible refine k_load (T := 36) ?_); refine st_row rfl _ _ rfl _ rfl a36 3 s36 HF 2 rfl rfl ?_; (intro K hK; go_simp)) | ((with_reducible refine k_load (T := 36) ?_); refine st_loads rfl _ _ rfl _ _ rfl a36 3 s36 HF 2 rfl ?_ ?_; (simp); (intro K hK; go_simp)) | ((with_reducible refine k_store (T := 44) ?_); refine st_put rfl _ _ _ rfl _ rfl _ rfl ?_ s44 HF 0 rfl rfl ?_; (simp [Value.oneCell']); (clear HF; intro w HF K hK; simp only [List.set_cons_zero, List.set_cons_succ, Act.eval, Value.cells, Array.getD_eq_getD_getElem?, List.getElem?_toArray, List.getElem?_cons_succ, List.getElem?_cons_zero, Option.getD_some] at HF; go_simp)) | ((with_reducible refine k_store (T := 36) ?_); refine st_stores rfl _ _ _ rfl _ _ rfl _ rfl ?_ s36 HF 0 rfl ?_ ?_; (simp [Value.oneCell']); (simp); (clear HF; intro w HF K hK; simp only [List.set_cons_zero, List.set_cons_succ, List.take_succ_cons, List.take_zero, List.drop_succ_cons, List.drop_zero, List.cons_append, List.nil_append, List.size_toArray, List.length_cons, List.length_nil, Nat.reduceAdd, Act.eval, Value.cells, Array.getD_eq_getD_getElem?, List.getElem?_toArray, List.getElem?_cons_succ, List.getElem?_cons_zero, Option.getD_some] at HF; go_simp)) | ((with_reducible refine k_load ?_); (first | refine st_load rfl _ _ rfl _ _ rfl ?_ HF 2 rfl rfl ?_ | refine st_load rfl _ _ rfl _ _ rfl ?_ HF 3 rfl rfl ?_); (kernel_rfl); (intro K hK; go_simp)))
  have HN := own_nil HF 88 15
  clear HF
  have HF : At W (OwnRow 88 15 nl ([] : List Pl).length (([] : List Pl).map Pl.cells).flatten :: Blk g5 (.cells #[.int .i64 h.sn, .int .i64 h.sc, .slice add h.data.length capd, .int .i64 c.upto, .slice ae1 c.ents.length ce1, .slice al1 c.lasts.length cl1, nl] 44 (0, 0)) :: Blk g4 (.cells #[.int .i64 0, .int .i64 0, .slice none 0 0, .int .i64 0, .slice none 0 0, .slice none 0 0, .slice none 0 0] 44 (0, 0)) :: Blk g3 (.cells #[.int .i64 c.kk, .int .i64 c.ka, .int .i64 c.kb, .int .i64 c.kc, .int .i64 c.sn, .int .i64 c.sc, .slice ada c.blk.length capa, .int .i64 c.a1, .int .i64 c.a2, .int .i64 c.a3, .int .i64 c.a4, .int .i64 c.cmd.k, .int .i64 c.cmd.cl, .int .i64 c.cmd.op, .string c.cmd.nm, .int .i64 c.cmd.f1, .int .i64 c.cmd.f2, .int .i64 c.cmd.n1, .int .i64 c.cmd.n2, .int .i64 c.cmd.sz, .bool c.dec, .int .i64 c.upto, .slice ae1 c.ents.length ce1, .slice al1 c.lasts.length cl1] 71 (0, 0)) :: Blk g2 (.cells #[.int .i64 h.sn, .int .i64 h.sc, .slice add h.data.length capd, .int .i64 h.upto, .slice ade h.ents.length cape, .slice adl h.lasts.length capl, .slice ad h.row.length cap] 44 (0, 0)) :: Arg W :: []) _ := HN
  clear HN
  go_loopw [6, 7] (fun bb i wr => ∃ (k : Nat) (st : Bool × List Pl), k ≤ h.row.length ∧ i = .int .i64 k ∧ bb = .bool st.1 ∧ st = (h.row.take k).foldl (laidStep c.upto c.pl) (true, []) ∧ ∃ vo, At W (OwnRow 88 15 vo st.2.length (st.2.map Pl.cells).flatten :: Blk g5 (.cells #[.int .i64 h.sn, .int .i64 h.sc, .slice add h.data.length capd, .int .i64 c.upto, .slice ae1 c.ents.length ce1, .slice al1 c.lasts.length cl1, vo] 44 (0, 0)) :: Blk g4 (.cells #[.int .i64 0, .int .i64 0, .slice none 0 0, .int .i64 0, .slice none 0 0, .slice none 0 0, .slice none 0 0] 44 (0, 0)) :: Blk g3 (.cells #[.int .i64 c.kk, .int .i64 c.ka, .int .i64 c.kb, .int .i64 c.kc, .int .i64 c.sn, .int .i64 c.sc, .slice ada c.blk.length capa, .int .i64 c.a1, .int .i64 c.a2, .int .i64 c.a3, .int .i64 c.a4, .int .i64 c.cmd.k, .int .i64 c.cmd.cl, .int .i64 c.cmd.op, .string c.cmd.nm, .int .i64 c.cmd.f1, .int .i64 c.cmd.f2, .int .i64 c.cmd.n1, .int .i64 c.cmd.n2, .int .i64 c.cmd.sz, .bool c.dec, .int .i64 c.upto, .slice ae1 c.ents.length ce1, .slice al1 c.lasts.length cl1] 71 (0, 0)) :: Blk g2 (.cells #[.int .i64 h.sn, .int .i64 h.sc, .slice add h.data.length capd, .int .i64 h.upto, .slice ade h.ents.length cape, .slice adl h.lasts.length capl, .slice ad h.row.length cap] 44 (0, 0)) :: Arg W :: []) wr) (fun _ i _ => h.row.length - (intOf i).toNat)
  case atStart => exact ⟨0, (true, []), Nat.zero_le _, rfl, rfl, rfl, nl, HF⟩
  case round =>
    clear HF
    obtain ⟨k, ⟨pl, acc⟩, hk, rfl, rfl, hfo, vo, HF⟩ := hrel
    have hpl : pl = true := by
      have := laid_true c.upto c.pl (h.row.take k) []
      rw [← hfo] at this
      exact this
    subst hpl
    dsimp only at HF hfo ⊢
    have hal : acc.length ≤ 2 * h.row.length := by
      have := laid_len c.upto c.pl true (h.row.take k)
      rw [← hfo] at this
      simp only [List.length_take] at this
      omega
    obtain ⟨va2, vcap, hvc, -⟩ := own_value HF
    subst hvc
    by_cases hlt : k < h.row.length
    · have g1x : (k : Int) < h.row.length := by omega
      obtain ⟨b, rfl⟩ := C3.out (by omega)
      obtain ⟨⟨pn, ppa, pcmd, pd⟩, hp⟩ : ∃ p, h.row[k]? = some p := ⟨_, List.getElem?_eq_getElem hlt⟩
      have hpo := Hok.out.row _ (List.mem_of_getElem? hp)
      obtain ⟨a1, a2, a3, a4, hpa⟩ := pa_cases hpo.pa
      obtain ⟨⟨xk, xcl, xop, xnm, xf1, xf2, xn1, xn2, xsz⟩, hpc⟩ := cmd_cases hpo.cmd
      dsimp only at hpa hpc
      subst hpa hpc
      have hr : (h.row.map Pl.cells)[k]? = some [.int .i64 pn, .int .i64 a1, .int .i64 a2, .int .i64 a3, .int .i64 a4, .int .i64 xk, .int .i64 xcl, .int .i64 xop, .string xnm, .int .i64 xf1, .int .i64 xf2, .int .i64 xn1, .int .i64 xn2, .int .i64 xsz, .bool pd] := by rw [List.getElem?_map, hp]; rfl
      have HcX := Lib.hid (fun j u (hj : ([.int .i64 pn, .int .i64 a1, .int .i64 a2, .int .i64 a3, .int .i64 a4, .int .i64 xk, .int .i64 xcl, .int .i64 xop, .string xnm, .int .i64 xf1, .int .i64 xf2, .int .i64 xn1, .int .i64 xn2, .int .i64 xsz, .bool pd] : List Value)[j]? = some u) => (show W.cell? ((b.add (k * 15)).add j) = some u by
        rw [Addr.add_add]
        exact Hv.out.cell (by rw [List.length_map]) hr hj))
      have Hst := Lib.hid (show (h.row.take (k + 1)).foldl (laidStep c.upto c.pl) (true, []) = laidStep c.upto c.pl (true, acc) ⟨pn, [.int .i64 a1, .int .i64 a2, .int .i64 a3, .int .i64 a4], Cm.cells ⟨xk, xcl, xop, xnm, xf1, xf2, xn1, xn2, xsz⟩, pd⟩ by
        rw [List.take_add_one, hp, List.foldl_append, ← hfo]
        rfl)
      clear hr hp hpo hfo
      by_cases hu : c.upto < pn
      · skip
        go_wp2_with (first | ((with_reducible refine k_alloc (T := 88) ?_); refine st_alloc rfl _ rfl _ z88 _ rfl HF ?_; (clear HF; intro g8 w HF K hK; simp only [Value.cells] at HF; go_simp)) | ((with_reducible refine k_store (T := 88) ?_); refine st_put rfl _ _ _ rfl _ rfl _ rfl ?_ s88 HF 0 rfl rfl ?_; (simp [Value.oneCell']); (clear HF; intro w HF K hK; simp only [List.set_cons_zero, List.set_cons_succ, Act.eval, Value.cells, Array.getD_eq_getD_getElem?, List.getElem?_toArray, List.getElem?_cons_succ, List.getElem?_cons_zero, Option.getD_some] at HF; go_simp)) | ((with_reducible refine k_load (T := 88) ?_); refine st_loadCells rfl _ _ rfl _ rfl a88 [.int .i64 pn, .int .i64 a1, .int .i64 a2, .int .i64 a3, .int .i64 a4, .int .i64 xk, .int .i64 xcl, .int .i64 xop, .string xnm, .int .i64 xf1, .int .i64 xf2, .int .i64 xn1, .int .i64 xn2, .int .i64 xsz, .bool pd] s88 (fun j u hj => (HF.ext 5 rfl).cell (HcX.out j u hj)) ?_; (intro K hK; go_simp)) | ((with_reducible refine k_load (T := 88) ?_); refine st_row rfl _ _ rfl _ rfl a88 15 s88 HF 0 rfl rfl ?_; (intro K hK; go_simp)) | ((with_reducible refine k_lit ?_); refine st_lit1 rfl _ _ rfl ([.int .i64 pn, .int .i64 a1, .int .i64 a2, .int .i64 a3, .int .i64 a4, .int .i64 xk, .int .i64 xcl, .int .i64 xop, .string xnm, .int .i64 xf1, .int .i64 xf2, .int .i64 xn1, .int .i64 xn2, .int .i64 xsz, .bool pd] : List Value).toArray rfl 88 Try.underlying42 15 s88 zP.toArray ?_ rfl rfl (by decide) (by decide) HF ?_; (kernel_rfl); (clear HF; intro gl w6 HF K hK; first | replace HF : At W (OwnRow _ _ _ _ _ :: _) w6 := HF.pick 2 rfl | replace HF : At W (OwnRow _ _ _ _ _ :: _) w6 := HF.pick 1 rfl; go_simp)) | ((with_reducible refine k_builtin ?_); refine st_append rfl _ _ _ rfl 88 Try.underlying42 15 s88 128 ?_ (.agg zP.toArray) ?_ rfl _ _ _ rfl HF (some ⟨gl, 0, none⟩) 1 1 ([.int .i64 pn, .int .i64 a1, .int .i64 a2, .int .i64 a3, .int .i64 a4, .int .i64 xk, .int .i64 xcl, .int .i64 xop, .string xnm, .int .i64 xf1, .int .i64 xf2, .int .i64 xn1, .int .i64 xn2, .int .i64 xsz, .bool pd] : List Value) rfl rfl ?_ ?_ ?_ ?_ ?_; (kernel_rfl); (kernel_rfl); (intro _; exact ⟨_, rfl, cells_of (HF.get 1 rfl)⟩); (simp [Value.oneCell']); (simp only [maxLen]; omega); (omega); (clear HF; intro vc2 w7 HF K hK; have ho2 := own_one HF; go_simp)) | ((with_reducible refine k_store (T := 42) ?_); refine st_store rfl _ _ _ rfl _ _ rfl _ rfl ho2 ?_ HF 3 rfl ?_ ?_; (kernel_rfl); (simp); (clear HF; intro w8 HF K hK; simp only [List.set_cons_zero, List.set_cons_succ, List.setIfInBounds_toArray, Act.eval, Value.cells, Array.getD_eq_getD_getElem?, List.getElem?_toArray, List.getElem?_cons_succ, List.getElem?_cons_zero, Option.getD_some] at HF; go_simp)) | ((with_reducible refine k_load ?_); (first | refine st_load rfl _ _ rfl _ _ rfl ?_ HF 0 rfl rfl ?_ | refine st_load rfl _ _ rfl _ _ rfl ?_ HF 2 rfl rfl ?_ | refine st_load rfl _ _ rfl _ _ rfl ?_ HF 3 rfl rfl ?_ | refine st_load rfl _ _ rfl _ _ rfl ?_ HF 4 rfl rfl ?_ | refine st_load rfl _ _ rfl _ _ rfl ?_ HF 5 rfl rfl ?_ | refine st_load rfl _ _ rfl _ _ rfl ?_ HF 6 rfl rfl ?_); (kernel_rfl); (intro K hK; go_simp)))
        go_roundw
        case rel =>
          refine ⟨k + 1, (true, acc ++ [⟨pn, [.int .i64 a1, .int .i64 a2, .int .i64 a3, .int .i64 a4], Cm.cells ⟨xk, xcl, xop, xnm, xf1, xf2, xn1, xn2, xsz⟩, pd⟩]), by omega, by go_num, rfl, ?_, ?_⟩
          · rw [Hst.out]
            unfold laidStep
            simp [Lc.pl, hu]
          · apply Exists.intro
            try simp only [List.length_append, List.map_append, List.flatten_append, List.map_cons, List.map_nil, List.flatten_cons, List.flatten_nil, List.append_nil, List.length_cons, List.length_nil, Nat.zero_add]
            exact HF.sel 8 [0, 3, 4, 5, 6, 7]
        case measure => simp [intOf]; omega
      · skip
        go_wp2_with (first | ((with_reducible refine k_alloc (T := 88) ?_); refine st_alloc rfl _ rfl _ z88 _ rfl HF ?_; (clear HF; intro g8 w HF K hK; simp only [Value.cells] at HF; go_simp)) | ((with_reducible refine k_store (T := 88) ?_); refine st_put rfl _ _ _ rfl _ rfl _ rfl ?_ s88 HF 0 rfl rfl ?_; (simp [Value.oneCell']); (clear HF; intro w HF K hK; simp only [List.set_cons_zero, List.set_cons_succ, Act.eval, Value.cells, Array.getD_eq_getD_getElem?, List.getElem?_toArray, List.getElem?_cons_succ, List.getElem?_cons_zero, Option.getD_some] at HF; go_simp)) | ((with_reducible refine k_load (T := 88) ?_); refine st_loadCells rfl _ _ rfl _ rfl a88 [.int .i64 pn, .int .i64 a1, .int .i64 a2, .int .i64 a3, .int .i64 a4, .int .i64 xk, .int .i64 xcl, .int .i64 xop, .string xnm, .int .i64 xf1, .int .i64 xf2, .int .i64 xn1, .int .i64 xn2, .int .i64 xsz, .bool pd] s88 (fun j u hj => (HF.ext 5 rfl).cell (HcX.out j u hj)) ?_; (intro K hK; go_simp)) | ((with_reducible refine k_load ?_); (first | refine st_load rfl _ _ rfl _ _ rfl ?_ HF 0 rfl rfl ?_ | refine st_load rfl _ _ rfl _ _ rfl ?_ HF 2 rfl rfl ?_ | refine st_load rfl _ _ rfl _ _ rfl ?_ HF 4 rfl rfl ?_); (kernel_rfl); (intro K hK; go_simp)))
        go_roundw
        case rel =>
          refine ⟨k + 1, (true, acc), by omega, by go_num, rfl, ?_, ?_⟩
          · rw [Hst.out]
            unfold laidStep
            simp [Lc.pl, hu]
          · apply Exists.intro
            try simp only [List.length_append, List.map_append, List.flatten_append, List.map_cons, List.map_nil, List.flatten_cons, List.flatten_nil, List.append_nil, List.length_cons, List.length_nil, Nat.zero_add]
            exact HF.sel 7 [1, 2, 3, 4, 5, 6]
        case measure => simp [intOf]; omega
    · have g1x : ¬ (k : Int) < h.row.length := by omega
      have hkn : h.row.take k = h.row := List.take_of_length_le (by omega)
      rw [hkn] at hfo
      have Hfo := Lib.hid hfo
      clear hfo hkn
      have hs := Lib.hid (show laidRow c.upto c.pl true h.row = acc by unfold laidRow; rw [← Hfo.out]; rfl)
      go_wp2_with (first | ((with_reducible refine k_load (T := 44) ?_); refine st_row rfl _ _ rfl _ rfl a44 7 s44 HF 1 rfl rfl ?_; (intro K hK; go_simp)) | ((with_reducible refine k_load (T := 44) ?_); refine st_loads rfl _ _ rfl _ _ rfl a44 7 s44 HF 1 rfl ?_ ?_; (simp); (intro K hK; go_simp)) | ((with_reducible refine k_store (T := 44) ?_); refine st_put rfl _ _ _ rfl _ rfl _ rfl ?_ s44 HF 2 rfl rfl ?_; (simp [Value.oneCell']); (clear HF; intro w HF K hK; simp only [List.set_cons_zero, List.set_cons_succ, Act.eval, Value.cells, Array.getD_eq_getD_getElem?, List.getElem?_toArray, List.getElem?_cons_succ, List.getElem?_cons_zero, Option.getD_some] at HF; go_simp)) | ((with_reducible refine k_load ?_); (first | refine st_load rfl _ _ rfl _ _ rfl ?_ HF 1 rfl rfl ?_ | refine st_load rfl _ _ rfl _ _ rfl ?_ HF 2 rfl rfl ?_ | refine st_load rfl _ _ rfl _ _ rfl ?_ HF 3 rfl rfl ?_ | refine st_load rfl _ _ rfl _ _ rfl ?_ HF 4 rfl rfl ?_); (kernel_rfl); (intro K hK; go_simp)))
      refine bodyPost_ret (results_cell rfl rfl a44 s44 (HF.get 2 rfl) rfl) rfl ?_
      exact Hend.out _ acc hs.out _ (HF.sel 6 [0, 5])
end
end Md
end Go.Proofs.Ytjobojgmadjmfaa
