/-
  The statements' own functions: may, a case.
-/
import Derived.Test.YtjobojgmadjmfaaMdMay0
namespace Go.Proofs.Ytjobojgmadjmfaa
open Go.Hp Go.RowKit
set_option linter.unusedVariables false
set_option linter.unusedSimpArgs false
set_option maxRecDepth 100000
set_option maxHeartbeats 4000000
namespace Md

section
variable {w0 w : World} {L : List HProp}

theorem mayB {h : Hd} {vd ve vl vr : Value} (hU : 0 ≤ h.upto ∧ h.upto ≤ 1048576 ∧ (h.upto = 0 → h.ents = [] ∧ h.lasts = [])) (hbz : (h.upto == 0) = false) (hok : h.Ok) (hsz : h.row.length ≤ 140737488355328) (hv : HdAt w h vd ve vl vr) (be : h.ents.length * 40 ≤ 140737488355328) (bl : h.lasts.length * 56 ≤ 140737488355328) (H : At w0 L w) :
    Calls Try.prog 9 #[.agg (hdV h vd ve vl vr)] w (MayPost w0 L h) := by
  obtain ⟨W, rfl⟩ : ∃ W : World, W = w := ⟨_, rfl⟩
  have HF := At.of W
  have H0 := Lib.hid H
  obtain ⟨ad, cap, rfl, c1, c2, c3⟩ := hv.r.value
  obtain ⟨ae, ce, rfl, d1, d2, d3⟩ := hv.e.value
  obtain ⟨al, cl, rfl, e1, e2, e3⟩ := hv.l.value
  rw [List.length_map] at c1 c3
  simp only [List.length_map] at hv ⊢
  have Hv := Lib.hid hv.r
  have C3 := Lib.hid c3
  have Hok := Lib.hid hok
  clear H hv c3 d3 e3 hok
  have hws : IntKind.i64.wrap ((h.ents.length : Int) + h.lasts.length) = (h.ents.length : Int) + h.lasts.length := IntWalk.i64_in _ (by omega)
  have HU := Lib.hid hU
  have hu1 : ¬ h.upto < 0 := by omega
  have hu2 : ¬ 1048576 < h.upto := by omega
  clear hU
  simp only [hdV]
  go_enter Try.func9, Try.ntmps9
  go_wp2_with (first | ((with_reducible refine k_box (T := 44) ?_); refine st_box rfl _ _ rfl _ rfl HF ?_; (clear HF; intro g1 w HF K hK; simp only [Value.cells, Act.eval, Value.cells, Array.getD_eq_getD_getElem?, List.getElem?_toArray, List.getElem?_cons_succ, List.getElem?_cons_zero, Option.getD_some] at HF; go_simp)) | ((with_reducible refine k_alloc (T := 27) ?_); refine st_alloc rfl _ rfl _ z27 _ rfl HF ?_; (clear HF; intro g4 w HF K hK; simp only [Value.cells] at HF; go_simp)) | ((with_reducible refine k_store (T := 27) ?_); refine st_put rfl _ _ _ rfl _ rfl _ rfl ?_ s27 HF 0 rfl rfl ?_; (simp [Value.oneCell']); (clear HF; intro w HF K hK; simp only [List.set_cons_zero, List.set_cons_succ, Act.eval, Value.cells, Array.getD_eq_getD_getElem?, List.getElem?_toArray, List.getElem?_cons_succ, List.getElem?_cons_zero, Option.getD_some] at HF; go_simp)) | ((with_reducible refine k_load ?_); (first | refine st_load rfl _ _ rfl _ _ rfl ?_ HF 0 rfl rfl ?_ | refine st_load rfl _ _ rfl _ _ rfl ?_ HF 1 rfl rfl ?_ | refine st_load rfl _ _ rfl _ _ rfl ?_ HF 2 rfl rfl ?_); (kernel_rfl); (intro K hK; go_simp)))
  go_loopw [5] (fun i wr => ∃ k : Nat, k ≤ h.row.length ∧ i = .int .i64 k ∧ (∀ (j : Nat) (q : Pl), j < k → h.row[j]? = some q → MayRow h j q) ∧ At W (Blk g4 (.cells #[.int .i64 0, .int .i64 0] 27 (0, 0)) :: Blk g1 (.cells #[.int .i64 h.sn, .int .i64 h.sc, vd, .int .i64 h.upto, .slice ae h.ents.length ce, .slice al h.lasts.length cl, .slice ad h.row.length cap] 44 (0, 0)) :: Arg W :: []) wr) (fun i _ => h.row.length - (intOf i).toNat)
  case atStart => exact ⟨0, Nat.zero_le _, rfl, fun j q hj => absurd hj (Nat.not_lt_zero _), HF⟩
  case round =>
    clear HF
    obtain ⟨k, hk, rfl, hb, HF⟩ := hrel
    have Hb := Lib.hid hb
    clear hb
    by_cases hlt : k < h.row.length
    · have g1x : (k : Int) < h.row.length := by omega
      obtain ⟨b, rfl⟩ := C3.out (by omega)
      obtain ⟨⟨pn, ppa, pcmd, pd⟩, hp⟩ : ∃ p, h.row[k]? = some p := ⟨_, List.getElem?_eq_getElem hlt⟩
      have hpo := Hok.out.row _ (List.mem_of_getElem? hp)
      obtain ⟨a1, a2, a3, a4, hpa⟩ := pa_cases hpo.pa
      obtain ⟨⟨xk, xcl, xop, xnm, xf1, xf2, xn1, xn2, xsz⟩, hpc⟩ := cmd_cases hpo.cmd
      dsimp only at hpa hpc
      subst hpa hpc
      have hr : (h.row.map Pl.cells)[k]? = some [.int .i64 pn, .int .i64 a1, .int .i64 a2, .int .i64 a3, .int .i64 a4, .int .i64 xk, .int .i64 xcl, .int .i64 xop, .string xnm, .int .i64 xf1, .int .i64 xf2, .int .i64 xn1, .int .i64 xn2, .int .i64 xsz, .bool pd] := by rw [List.getElem?_map, hp]; rfl
      have HcN := Lib.hid (show W.cell? (b.add (k * 15)) = some (.int .i64 pn) from Hv.out.cell (by rw [List.length_map]) hr (j := 0) rfl)
      have HcI := Lib.hid (fun j u (hj : ([.int .i64 a1, .int .i64 a2, .int .i64 a3, .int .i64 a4, .int .i64 xk, .int .i64 xcl, .int .i64 xop, .string xnm, .int .i64 xf1, .int .i64 xf2, .int .i64 xn1, .int .i64 xn2, .int .i64 xsz, .bool pd] : List Value)[j]? = some u) => (show W.cell? (b.add (k * 15 + (1 + j))) = some u from Hv.out.cell (by rw [List.length_map]) hr (by rw [Nat.add_comm, List.getElem?_cons_succ]; exact hj)))
      obtain ⟨r, -, hz0, -⟩ := run_two fInst a69 (xs := [.int .i64 a1, .int .i64 a2, .int .i64 a3, .int .i64 a4, .int .i64 xk, .int .i64 xcl, .int .i64 xop, .string xnm, .int .i64 xf1, .int .i64 xf2, .int .i64 xn1, .int .i64 xn2, .int .i64 xsz, .bool pd]) (ys := [.int .i64 0, .int .i64 0, .int .i64 0, .int .i64 0, .int .i64 0, .int .i64 0, .int .i64 0, .string ⟨#[]⟩, .int .i64 0, .int .i64 0, .int .i64 0, .int .i64 0, .int .i64 0, .bool false]) (fits_inst hpo) zI_fits
      have Hp := Lib.hid hp
      have Hn0 : RowKit.Hid (h.upto < pn → pn ≤ 1048576 → (∀ q, 0 < k → h.row[k - 1]? = some q → q.n < pn) → (pd = true → 1 ≤ xk) → ∀ (j : Nat) (q : Pl), j < k + 1 → h.row[j]? = some q → MayRow h j q) := Lib.hid (fun q1 q2 q3 q4 j q hj hq => by
        by_cases hjk : j = k
        · subst hjk
          rw [Hp.out] at hq
          cases hq
          exact ⟨q1, q2, fun hd hc => by have := q4 hd; simp [Cm.cells, zc] at hc; omega, q3⟩
        · exact Hb.out j q (by omega) hq)
      clear hr hp hpo Hb
      go_wp2_with (first | ((with_reducible refine k_load ?_); refine st_load rfl _ _ rfl _ _ rfl ?_ HF 1 rfl rfl ?_; (kernel_rfl); (intro K hK; go_simp)) | ((with_reducible refine k_alloc (T := 69) ?_); refine st_alloc rfl _ rfl _ z69 _ rfl HF ?_; (clear HF; intro g6 w HF K hK; simp only [Value.cells] at HF; go_simp)) | ((with_reducible refine k_store (T := 69) ?_); refine st_put rfl _ _ _ rfl _ rfl _ rfl ?_ s69 HF 0 rfl rfl ?_; (simp [Value.oneCell']); (clear HF; intro w HF K hK; simp only [List.set_cons_zero, List.set_cons_succ, Act.eval, Value.cells, Array.getD_eq_getD_getElem?, List.getElem?_toArray, List.getElem?_cons_succ, List.getElem?_cons_zero, Option.getD_some] at HF; go_simp)) | ((with_reducible refine k_load (T := 69) ?_); refine st_loadCells rfl _ _ rfl _ rfl a69 [.int .i64 a1, .int .i64 a2, .int .i64 a3, .int .i64 a4, .int .i64 xk, .int .i64 xcl, .int .i64 xop, .string xnm, .int .i64 xf1, .int .i64 xf2, .int .i64 xn1, .int .i64 xn2, .int .i64 xsz, .bool pd] s69 (fun j u hj => (HF.ext 2 rfl).cell (by have := HcI.out j u hj; rwa [← Addr.add_add, ← Addr.add_add] at this)) ?_; (intro K hK; go_simp)))
      by_cases hd1 : pn ≤ h.upto
      · skip
        apply wp_region_eff [] (fun i => (#[[], [], [], [], [], [], [], [], [], [], [], [], [], [], [], [], [], [], [], [], [], [], [], [], [], [], [], [], [], [], [], [], [], [], [], [], [], [], [], [], [], []] : Array (List Nat)).getD i []) (fun val i => ((_ :: _ :: _ :: _ :: _ :: _ :: _ :: _ :: .bool true :: undef :: undef :: undef :: undef :: undef :: undef :: undef :: _ :: .bool true :: undef :: undef :: undef :: undef :: undef :: undef :: undef :: undef :: undef :: undef :: undef :: undef :: undef :: undef :: undef :: undef :: undef :: undef :: _ :: .bool true :: undef :: undef :: undef :: _ :: []) : List Value).toArray.getD i undef) (fun E val => At W (Blk g6 (.cells #[.int .i64 a1, .int .i64 a2, .int .i64 a3, .int .i64 a4, .int .i64 xk, .int .i64 xcl, .int .i64 xop, .string xnm, .int .i64 xf1, .int .i64 xf2, .int .i64 xn1, .int .i64 xn2, .int .i64 xsz, .bool pd] 69 (0, 0)) :: Blk g4 (.cells #[.int .i64 0, .int .i64 0] 27 (0, 0)) :: Blk g1 (.cells #[.int .i64 h.sn, .int .i64 h.sc, vd, .int .i64 h.upto, .slice ae h.ents.length ce, .slice al h.lasts.length cl, .slice (some b) h.row.length cap] 44 (0, 0)) :: Arg W :: [])) (by kernel_rfl) (by kernel_rfl) (by kernel_rfl) (by kernel_rfl) (HF)
        case step =>
          iterate 9 (refine ⟨eff_pl rfl (fun _ => by rfl) fun E val hn T ds w K H hk ho hK => ?_, ?_⟩; rotate_left)
          iterate 7 (refine ⟨eff_no rfl (fun _ => by rfl) (fun _ => rfl), ?_⟩)
          iterate 2 (refine ⟨eff_pl rfl (fun _ => by rfl) fun E val hn T ds w K H hk ho hK => ?_, ?_⟩; rotate_left)
          iterate 18 (refine ⟨eff_no rfl (fun _ => by rfl) (fun _ => rfl), ?_⟩)
          iterate 2 (refine ⟨eff_pl rfl (fun _ => by rfl) fun E val hn T ds w K H hk ho hK => ?_, ?_⟩; rotate_left)
          iterate 3 (refine ⟨eff_no rfl (fun _ => by rfl) (fun _ => rfl), ?_⟩)
          refine ⟨eff_pl rfl (fun _ => by rfl) fun E val hn T ds w K H hk ho hK => ?_, ?_⟩; rotate_left
          exact trivial
          · have o1 := ho 1 (by kernel_rfl); clear ho; simp [know, dstAt, Region.binds] at hk o1; go_simp; exact hK _ H
          · clear ho; simp [know, dstAt, Region.binds] at hk
            first | (refine op_loadT (v := .slice (some b) h.row.length cap) rfl hk (by kernel_rfl) H 2 rfl rfl ?_; exact hK _ H) | (refine op_load1T rfl hk (by kernel_rfl) ((H.ext 3 rfl).cell HcN.out) ?_; exact hK _ H) | (refine op_load1T rfl hk (by kernel_rfl) ((H.ext 3 rfl).cell HcP.out) ?_; exact hK _ H)
          · have o5 := ho 5 (by kernel_rfl); clear ho; simp [know, dstAt, Region.binds] at hk o5; go_simp; exact hK _ H
          · clear ho; simp [know, dstAt, Region.binds] at hk; go_simp; exact hK _ H
          · clear ho; simp [know, dstAt, Region.binds] at hk; go_simp; exact hK _ H
          · clear ho; simp [know, dstAt, Region.binds] at hk
            first | (refine op_loadT (v := .slice (some b) h.row.length cap) rfl hk (by kernel_rfl) H 2 rfl rfl ?_; exact hK _ H) | (refine op_load1T rfl hk (by kernel_rfl) ((H.ext 3 rfl).cell HcN.out) ?_; exact hK _ H) | (refine op_load1T rfl hk (by kernel_rfl) ((H.ext 3 rfl).cell HcP.out) ?_; exact hK _ H)
          · have o3 := ho 3 (by kernel_rfl); clear ho; simp [know, dstAt, Region.binds] at hk o3; go_simp; exact hK _ H
          · clear ho; simp [know, dstAt, Region.binds] at hk; go_simp; exact hK _ H
          · clear ho; simp [know, dstAt, Region.binds] at hk; go_simp; exact hK _ H
          · clear ho; simp [know, dstAt, Region.binds] at hk; go_simp; exact hK _ H
          · clear ho; simp [know, dstAt, Region.binds] at hk; go_simp; exact hK _ H
          · clear ho; simp [know, dstAt, Region.binds] at hk; go_simp; exact hK _ H
          · clear ho; simp [know, dstAt, Region.binds] at hk; go_simp; exact hK _ H
          · clear ho; simp [know, dstAt, Region.binds] at hk; go_simp; exact hK _ H
        case ins =>
          iterate 42 (refine ⟨ins_pl rfl (fun _ _ _ => rfl), ?_⟩)
          exact trivial
        case jns =>
          iterate 42 (refine ⟨j_pl (fun _ _ _ => rfl), ?_⟩)
          exact trivial
        case fin =>
          intro E val w3 hE H
          clear HF hE
          have HF := H
          clear H
          simp [putAll, Act.put]
          go_wp2_with (first | ((with_reducible refine k_load (T := 27) ?_); (first | refine st_row rfl _ _ rfl _ rfl a27 2 s27 HF 0 rfl rfl ?_ | refine st_row rfl _ _ rfl _ rfl a27 2 s27 HF 1 rfl rfl ?_); (intro K hK; go_simp)) | ((with_reducible refine k_load (T := 27) ?_); (first | refine st_loads rfl _ _ rfl _ _ rfl a27 2 s27 HF 0 rfl ?_ ?_ | refine st_loads rfl _ _ rfl _ _ rfl a27 2 s27 HF 1 rfl ?_ ?_); (simp); (intro K hK; go_simp)) | ((with_reducible refine k_load ?_); (first | refine st_load rfl _ _ rfl _ _ rfl ?_ HF 0 rfl rfl ?_ | refine st_load rfl _ _ rfl _ _ rfl ?_ HF 1 rfl rfl ?_ | refine st_load rfl _ _ rfl _ _ rfl ?_ HF 2 rfl rfl ?_); (kernel_rfl); (intro K hK; go_simp)))
          go_ret
          exact ⟨false, rfl, fun hx => Bool.noConfusion hx, (HF.sel 4 [3]).lift0 H0.out⟩
      by_cases hd2 : 1048576 < pn
      · skip
        apply wp_region_eff [] (fun i => (#[[], [], [], [], [], [], [], [], [], [], [], [], [], [], [], [], [], [], [], [], [], [], [], [], [], [], [], [], [], [], [], [], [], [], [], [], [], [], [], [], [], []] : Array (List Nat)).getD i []) (fun val i => ((_ :: _ :: _ :: _ :: _ :: _ :: _ :: _ :: .bool false :: _ :: _ :: _ :: _ :: _ :: _ :: _ :: _ :: .bool true :: undef :: undef :: undef :: undef :: undef :: undef :: undef :: undef :: undef :: undef :: undef :: undef :: undef :: undef :: undef :: undef :: undef :: undef :: _ :: .bool true :: undef :: undef :: undef :: _ :: []) : List Value).toArray.getD i undef) (fun E val => At W (Blk g6 (.cells #[.int .i64 a1, .int .i64 a2, .int .i64 a3, .int .i64 a4, .int .i64 xk, .int .i64 xcl, .int .i64 xop, .string xnm, .int .i64 xf1, .int .i64 xf2, .int .i64 xn1, .int .i64 xn2, .int .i64 xsz, .bool pd] 69 (0, 0)) :: Blk g4 (.cells #[.int .i64 0, .int .i64 0] 27 (0, 0)) :: Blk g1 (.cells #[.int .i64 h.sn, .int .i64 h.sc, vd, .int .i64 h.upto, .slice ae h.ents.length ce, .slice al h.lasts.length cl, .slice (some b) h.row.length cap] 44 (0, 0)) :: Arg W :: [])) (by kernel_rfl) (by kernel_rfl) (by kernel_rfl) (by kernel_rfl) (HF)
        case step =>
          iterate 18 (refine ⟨eff_pl rfl (fun _ => by rfl) fun E val hn T ds w K H hk ho hK => ?_, ?_⟩; rotate_left)
          iterate 18 (refine ⟨eff_no rfl (fun _ => by rfl) (fun _ => rfl), ?_⟩)
          iterate 2 (refine ⟨eff_pl rfl (fun _ => by rfl) fun E val hn T ds w K H hk ho hK => ?_, ?_⟩; rotate_left)
          iterate 3 (refine ⟨eff_no rfl (fun _ => by rfl) (fun _ => rfl), ?_⟩)
          refine ⟨eff_pl rfl (fun _ => by rfl) fun E val hn T ds w K H hk ho hK => ?_, ?_⟩; rotate_left
          exact trivial
          · have o1 := ho 1 (by kernel_rfl); clear ho; simp [know, dstAt, Region.binds] at hk o1; go_simp; exact hK _ H
          · clear ho; simp [know, dstAt, Region.binds] at hk
            first | (refine op_loadT (v := .slice (some b) h.row.length cap) rfl hk (by kernel_rfl) H 2 rfl rfl ?_; exact hK _ H) | (refine op_load1T rfl hk (by kernel_rfl) ((H.ext 3 rfl).cell HcN.out) ?_; exact hK _ H) | (refine op_load1T rfl hk (by kernel_rfl) ((H.ext 3 rfl).cell HcP.out) ?_; exact hK _ H)
          · have o5 := ho 5 (by kernel_rfl); clear ho; simp [know, dstAt, Region.binds] at hk o5; go_simp; exact hK _ H
          · clear ho; simp [know, dstAt, Region.binds] at hk; go_simp; exact hK _ H
          · clear ho; simp [know, dstAt, Region.binds] at hk; go_simp; exact hK _ H
          · clear ho; simp [know, dstAt, Region.binds] at hk
            first | (refine op_loadT (v := .slice (some b) h.row.length cap) rfl hk (by kernel_rfl) H 2 rfl rfl ?_; exact hK _ H) | (refine op_load1T rfl hk (by kernel_rfl) ((H.ext 3 rfl).cell HcN.out) ?_; exact hK _ H) | (refine op_load1T rfl hk (by kernel_rfl) ((H.ext 3 rfl).cell HcP.out) ?_; exact hK _ H)
          · have o3 := ho 3 (by kernel_rfl); clear ho; simp [know, dstAt, Region.binds] at hk o3; go_simp; exact hK _ H
          · clear ho; simp [know, dstAt, Region.binds] at hk; go_simp; exact hK _ H
          · clear ho; simp [know, dstAt, Region.binds] at hk; go_simp; exact hK _ H
          · have o1 := ho 1 (by kernel_rfl); clear ho; simp [know, dstAt, Region.binds] at hk o1; go_simp; exact hK _ H
          · clear ho; simp [know, dstAt, Region.binds] at hk
            first | (refine op_loadT (v := .slice (some b) h.row.length cap) rfl hk.1 (by kernel_rfl) H 2 rfl rfl ?_; exact hK _ H) | (refine op_load1T rfl hk.1 (by kernel_rfl) ((H.ext 3 rfl).cell HcN.out) ?_; exact hK _ H) | (refine op_load1T rfl hk.1 (by kernel_rfl) ((H.ext 3 rfl).cell HcP.out) ?_; exact hK _ H)
          · have o5 := ho 5 (by kernel_rfl); clear ho; simp [know, dstAt, Region.binds] at hk o5; go_simp; exact hK _ H
          · clear ho; simp [know, dstAt, Region.binds] at hk; go_simp; exact hK _ H
          · clear ho; simp [know, dstAt, Region.binds] at hk; go_simp; exact hK _ H
          · clear ho; simp [know, dstAt, Region.binds] at hk
            first | (refine op_loadT (v := .slice (some b) h.row.length cap) rfl hk.1 (by kernel_rfl) H 2 rfl rfl ?_; exact hK _ H) | (refine op_load1T rfl hk.1 (by kernel_rfl) ((H.ext 3 rfl).cell HcN.out) ?_; exact hK _ H) | (refine op_load1T rfl hk.1 (by kernel_rfl) ((H.ext 3 rfl).cell HcP.out) ?_; exact hK _ H)
          · clear ho; simp [know, dstAt, Region.binds] at hk; go_simp; exact hK _ H
          · clear ho; simp [know, dstAt, Region.binds] at hk; go_simp; exact hK _ H
          · clear ho; simp [know, dstAt, Region.binds] at hk; go_simp; exact hK _ H
          · clear ho; simp [know, dstAt, Region.binds] at hk; go_simp; exact hK _ H
          · clear ho; simp [know, dstAt, Region.binds] at hk; go_simp; exact hK _ H
          · clear ho; simp [know, dstAt, Region.binds] at hk; go_simp; exact hK _ H
        case ins =>
          iterate 42 (refine ⟨ins_pl rfl (fun _ _ _ => rfl), ?_⟩)
          exact trivial
        case jns =>
          iterate 42 (refine ⟨j_pl (fun _ _ _ => rfl), ?_⟩)
          exact trivial
        case fin =>
          intro E val w3 hE H
          clear HF hE
          have HF := H
          clear H
          simp [putAll, Act.put]
          go_wp2_with (first | ((with_reducible refine k_load (T := 27) ?_); (first | refine st_row rfl _ _ rfl _ rfl a27 2 s27 HF 0 rfl rfl ?_ | refine st_row rfl _ _ rfl _ rfl a27 2 s27 HF 1 rfl rfl ?_); (intro K hK; go_simp)) | ((with_reducible refine k_load (T := 27) ?_); (first | refine st_loads rfl _ _ rfl _ _ rfl a27 2 s27 HF 0 rfl ?_ ?_ | refine st_loads rfl _ _ rfl _ _ rfl a27 2 s27 HF 1 rfl ?_ ?_); (simp); (intro K hK; go_simp)) | ((with_reducible refine k_load ?_); (first | refine st_load rfl _ _ rfl _ _ rfl ?_ HF 0 rfl rfl ?_ | refine st_load rfl _ _ rfl _ _ rfl ?_ HF 1 rfl rfl ?_ | refine st_load rfl _ _ rfl _ _ rfl ?_ HF 2 rfl rfl ?_); (kernel_rfl); (intro K hK; go_simp)))
          go_ret
          exact ⟨false, rfl, fun hx => Bool.noConfusion hx, (HF.sel 4 [3]).lift0 H0.out⟩
      by_cases hk0 : k = 0
      · have g0 : ¬ (0 : Int) < (k : Int) := by omega
        have g0' : ¬ 0 < k := by omega
        have Hnext := Lib.hid (Hn0.out (by omega) (by omega) (fun q hq => absurd hq g0'))
        clear hk0
        apply wp_region_eff [] (fun i => (#[[], [], [], [], [], [], [], [], [], [], [], [], [], [], [], [], [], [], [], [], [], [], [], [], [], [], [], [], [], [], [], [], [], [], [], [], [], [], [], [], [], []] : Array (List Nat)).getD i []) (fun val i => ((_ :: _ :: _ :: _ :: _ :: _ :: _ :: _ :: .bool false :: _ :: _ :: _ :: _ :: _ :: _ :: _ :: _ :: .bool false :: _ :: _ :: .bool false :: undef :: undef :: undef :: undef :: undef :: undef :: undef :: undef :: undef :: undef :: undef :: undef :: undef :: undef :: _ :: _ :: .bool false :: _ :: _ :: _ :: _ :: []) : List Value).toArray.getD i undef) (fun E val => At W (Blk g6 (.cells #[.int .i64 a1, .int .i64 a2, .int .i64 a3, .int .i64 a4, .int .i64 xk, .int .i64 xcl, .int .i64 xop, .string xnm, .int .i64 xf1, .int .i64 xf2, .int .i64 xn1, .int .i64 xn2, .int .i64 xsz, .bool pd] 69 (0, 0)) :: Blk g4 (.cells #[.int .i64 0, .int .i64 0] 27 (0, 0)) :: Blk g1 (.cells #[.int .i64 h.sn, .int .i64 h.sc, vd, .int .i64 h.upto, .slice ae h.ents.length ce, .slice al h.lasts.length cl, .slice (some b) h.row.length cap] 44 (0, 0)) :: Arg W :: [])) (by kernel_rfl) (by kernel_rfl) (by kernel_rfl) (by kernel_rfl) (HF)
        case step =>
          iterate 21 (refine ⟨eff_pl rfl (fun _ => by rfl) fun E val hn T ds w K H hk ho hK => ?_, ?_⟩; rotate_left)
          iterate 14 (refine ⟨eff_no rfl (fun _ => by rfl) (fun _ => rfl), ?_⟩)
          iterate 7 (refine ⟨eff_pl rfl (fun _ => by rfl) fun E val hn T ds w K H hk ho hK => ?_, ?_⟩; rotate_left)
          exact trivial
          · have o1 := ho 1 (by kernel_rfl); clear ho; simp [know, dstAt, Region.binds] at hk o1; go_simp; exact hK _ H
          · clear ho; simp [know, dstAt, Region.binds] at hk
            first | (refine op_loadT (v := .slice (some b) h.row.length cap) rfl hk (by kernel_rfl) H 2 rfl rfl ?_; exact hK _ H) | (refine op_load1T rfl hk (by kernel_rfl) ((H.ext 3 rfl).cell HcN.out) ?_; exact hK _ H) | (refine op_load1T rfl hk (by kernel_rfl) ((H.ext 3 rfl).cell HcP.out) ?_; exact hK _ H)
          · have o5 := ho 5 (by kernel_rfl); clear ho; simp [know, dstAt, Region.binds] at hk o5; go_simp; exact hK _ H
          · clear ho; simp [know, dstAt, Region.binds] at hk; go_simp; exact hK _ H
          · clear ho; simp [know, dstAt, Region.binds] at hk; go_simp; exact hK _ H
          · clear ho; simp [know, dstAt, Region.binds] at hk
            first | (refine op_loadT (v := .slice (some b) h.row.length cap) rfl hk (by kernel_rfl) H 2 rfl rfl ?_; exact hK _ H) | (refine op_load1T rfl hk (by kernel_rfl) ((H.ext 3 rfl).cell HcN.out) ?_; exact hK _ H) | (refine op_load1T rfl hk (by kernel_rfl) ((H.ext 3 rfl).cell HcP.out) ?_; exact hK _ H)
          · have o3 := ho 3 (by kernel_rfl); clear ho; simp [know, dstAt, Region.binds] at hk o3; go_simp; exact hK _ H
          · clear ho; simp [know, dstAt, Region.binds] at hk; go_simp; exact hK _ H
          · clear ho; simp [know, dstAt, Region.binds] at hk; go_simp; exact hK _ H
          · have o1 := ho 1 (by kernel_rfl); clear ho; simp [know, dstAt, Region.binds] at hk o1; go_simp; exact hK _ H
          · clear ho; simp [know, dstAt, Region.binds] at hk
            first | (refine op_loadT (v := .slice (some b) h.row.length cap) rfl hk.1 (by kernel_rfl) H 2 rfl rfl ?_; exact hK _ H) | (refine op_load1T rfl hk.1 (by kernel_rfl) ((H.ext 3 rfl).cell HcN.out) ?_; exact hK _ H) | (refine op_load1T rfl hk.1 (by kernel_rfl) ((H.ext 3 rfl).cell HcP.out) ?_; exact hK _ H)
          · have o5 := ho 5 (by kernel_rfl); clear ho; simp [know, dstAt, Region.binds] at hk o5; go_simp; exact hK _ H
          · clear ho; simp [know, dstAt, Region.binds] at hk; go_simp; exact hK _ H
          · clear ho; simp [know, dstAt, Region.binds] at hk; go_simp; exact hK _ H
          · clear ho; simp [know, dstAt, Region.binds] at hk
            first | (refine op_loadT (v := .slice (some b) h.row.length cap) rfl hk.1 (by kernel_rfl) H 2 rfl rfl ?_; exact hK _ H) | (refine op_load1T rfl hk.1 (by kernel_rfl) ((H.ext 3 rfl).cell HcN.out) ?_; exact hK _ H) | (refine op_load1T rfl hk.1 (by kernel_rfl) ((H.ext 3 rfl).cell HcP.out) ?_; exact hK _ H)
          · clear ho; simp [know, dstAt, Region.binds] at hk; go_simp; exact hK _ H
          · clear ho; simp [know, dstAt, Region.binds] at hk; go_simp; exact hK _ H
          · clear ho; simp [know, dstAt, Region.binds] at hk; go_simp; exact hK _ H
          · have o5 := ho 5 (by kernel_rfl); clear ho; simp [know, dstAt, Region.binds] at hk o5; go_simp; exact hK _ H
          · clear ho; simp [know, dstAt, Region.binds] at hk; go_simp; exact hK _ H
          · clear ho; simp [know, dstAt, Region.binds] at hk; go_simp; exact hK _ H
          · clear ho; simp [know, dstAt, Region.binds] at hk; go_simp; exact hK _ H
          · clear ho; simp [know, dstAt, Region.binds] at hk; go_simp; exact hK _ H
          · clear ho; simp [know, dstAt, Region.binds] at hk; go_simp; exact hK _ H
          · have o6 := ho 6 (by kernel_rfl); clear ho; simp [know, dstAt, Region.binds] at hk o6
            (refine op_rowT (T := 69) rfl o6 a69 s69 H 0 rfl rfl ?_; exact hK _ H)
          · clear ho; simp [know, dstAt, Region.binds] at hk; go_simp; exact hK _ H
          · clear ho; simp [know, dstAt, Region.binds] at hk; go_simp; exact hK _ H
          · clear ho; simp [know, dstAt, Region.binds] at hk; go_simp; exact hK _ H
        case ins =>
          iterate 42 (refine ⟨ins_pl rfl (fun _ _ _ => rfl), ?_⟩)
          exact trivial
        case jns =>
          iterate 42 (refine ⟨j_pl (fun _ _ _ => rfl), ?_⟩)
          exact trivial
        case fin =>
          intro E val w3 hE H
          clear HF hE
          have HF := H
          clear H
          simp [putAll, Act.put]
          cases r with
          | true =>
            go_wp2_with (first | ((with_reducible refine k_load (T := 27) ?_); (first | refine st_row rfl _ _ rfl _ rfl a27 2 s27 HF 0 rfl rfl ?_ | refine st_row rfl _ _ rfl _ rfl a27 2 s27 HF 1 rfl rfl ?_); (intro K hK; go_simp)) | ((with_reducible refine k_load (T := 27) ?_); (first | refine st_loads rfl _ _ rfl _ _ rfl a27 2 s27 HF 0 rfl ?_ ?_ | refine st_loads rfl _ _ rfl _ _ rfl a27 2 s27 HF 1 rfl ?_ ?_); (simp); (intro K hK; go_simp)) | ((with_reducible refine k_load ?_); (first | refine st_load rfl _ _ rfl _ _ rfl ?_ HF 0 rfl rfl ?_ | refine st_load rfl _ _ rfl _ _ rfl ?_ HF 1 rfl rfl ?_ | refine st_load rfl _ _ rfl _ _ rfl ?_ HF 2 rfl rfl ?_); (kernel_rfl); (intro K hK; go_simp)))
            go_ret
            exact ⟨false, rfl, fun hx => Bool.noConfusion hx, (HF.sel 4 [3]).lift0 H0.out⟩
          | false =>
            cases pd with
            | false =>
              have hnext := Hnext.out (fun hx => Bool.noConfusion hx)
              go_wp2_with (first | ((with_reducible refine k_load (T := 27) ?_); (first | refine st_row rfl _ _ rfl _ rfl a27 2 s27 HF 0 rfl rfl ?_ | refine st_row rfl _ _ rfl _ rfl a27 2 s27 HF 1 rfl rfl ?_); (intro K hK; go_simp)) | ((with_reducible refine k_load (T := 27) ?_); (first | refine st_loads rfl _ _ rfl _ _ rfl a27 2 s27 HF 0 rfl ?_ ?_ | refine st_loads rfl _ _ rfl _ _ rfl a27 2 s27 HF 1 rfl ?_ ?_); (simp); (intro K hK; go_simp)) | ((with_reducible refine k_load ?_); (first | refine st_load rfl _ _ rfl _ _ rfl ?_ HF 0 rfl rfl ?_ | refine st_load rfl _ _ rfl _ _ rfl ?_ HF 1 rfl rfl ?_ | refine st_load rfl _ _ rfl _ _ rfl ?_ HF 2 rfl rfl ?_); (kernel_rfl); (intro K hK; go_simp)))
              go_roundw
              case rel => exact ⟨k + 1, by omega, rfl, hnext, HF.sel 4 [1, 2, 3]⟩
              case measure => simp [intOf]; omega
            | true =>
              by_cases q1 : a1 = 0
              · subst q1
                by_cases q2 : a2 = 0
                · subst q2
                  by_cases q3 : a3 = 0
                  · subst q3
                    by_cases q4 : a4 = 0
                    · subst q4
                      by_cases hk1 : xk < 1
                      · skip
                        go_wp2_with (first | ((with_reducible refine k_load (T := 27) ?_); (first | refine st_row rfl _ _ rfl _ rfl a27 2 s27 HF 0 rfl rfl ?_ | refine st_row rfl _ _ rfl _ rfl a27 2 s27 HF 1 rfl rfl ?_); (intro K hK; go_simp)) | ((with_reducible refine k_load (T := 27) ?_); (first | refine st_loads rfl _ _ rfl _ _ rfl a27 2 s27 HF 0 rfl ?_ ?_ | refine st_loads rfl _ _ rfl _ _ rfl a27 2 s27 HF 1 rfl ?_ ?_); (simp); (intro K hK; go_simp)) | ((with_reducible refine k_load ?_); (first | refine st_load rfl _ _ rfl _ _ rfl ?_ HF 0 rfl rfl ?_ | refine st_load rfl _ _ rfl _ _ rfl ?_ HF 1 rfl rfl ?_ | refine st_load rfl _ _ rfl _ _ rfl ?_ HF 2 rfl rfl ?_); (kernel_rfl); (intro K hK; go_simp)))
                        go_ret
                        exact ⟨false, rfl, fun hx => Bool.noConfusion hx, (HF.sel 4 [3]).lift0 H0.out⟩
                      · have hnext := Hnext.out (fun _ => by omega)
                        go_wp2_with (first | ((with_reducible refine k_load (T := 27) ?_); (first | refine st_row rfl _ _ rfl _ rfl a27 2 s27 HF 0 rfl rfl ?_ | refine st_row rfl _ _ rfl _ rfl a27 2 s27 HF 1 rfl rfl ?_); (intro K hK; go_simp)) | ((with_reducible refine k_load (T := 27) ?_); (first | refine st_loads rfl _ _ rfl _ _ rfl a27 2 s27 HF 0 rfl ?_ ?_ | refine st_loads rfl _ _ rfl _ _ rfl a27 2 s27 HF 1 rfl ?_ ?_); (simp); (intro K hK; go_simp)) | ((with_reducible refine k_load ?_); (first | refine st_load rfl _ _ rfl _ _ rfl ?_ HF 0 rfl rfl ?_ | refine st_load rfl _ _ rfl _ _ rfl ?_ HF 1 rfl rfl ?_ | refine st_load rfl _ _ rfl _ _ rfl ?_ HF 2 rfl rfl ?_); (kernel_rfl); (intro K hK; go_simp)))
                        go_roundw
                        case rel => exact ⟨k + 1, by omega, rfl, hnext, HF.sel 4 [1, 2, 3]⟩
                        case measure => simp [intOf]; omega
                    · skip
                      go_wp2_with (first | ((with_reducible refine k_load (T := 27) ?_); (first | refine st_row rfl _ _ rfl _ rfl a27 2 s27 HF 0 rfl rfl ?_ | refine st_row rfl _ _ rfl _ rfl a27 2 s27 HF 1 rfl rfl ?_); (intro K hK; go_simp)) | ((with_reducible refine k_load (T := 27) ?_); (first | refine st_loads rfl _ _ rfl _ _ rfl a27 2 s27 HF 0 rfl ?_ ?_ | refine st_loads rfl _ _ rfl _ _ rfl a27 2 s27 HF 1 rfl ?_ ?_); (simp); (intro K hK; go_simp)) | ((with_reducible refine k_load ?_); (first | refine st_load rfl _ _ rfl _ _ rfl ?_ HF 0 rfl rfl ?_ | refine st_load rfl _ _ rfl _ _ rfl ?_ HF 1 rfl rfl ?_ | refine st_load rfl _ _ rfl _ _ rfl ?_ HF 2 rfl rfl ?_); (kernel_rfl); (intro K hK; go_simp)))
                      go_ret
                      exact ⟨false, rfl, fun hx => Bool.noConfusion hx, (HF.sel 4 [3]).lift0 H0.out⟩
                  · skip
                    go_wp2_with (first | ((with_reducible refine k_load (T := 27) ?_); (first | refine st_row rfl _ _ rfl _ rfl a27 2 s27 HF 0 rfl rfl ?_ | refine st_row rfl _ _ rfl _ rfl a27 2 s27 HF 1 rfl rfl ?_); (intro K hK; go_simp)) | ((with_reducible refine k_load (T := 27) ?_); (first | refine st_loads rfl _ _ rfl _ _ rfl a27 2 s27 HF 0 rfl ?_ ?_ | refine st_loads rfl _ _ rfl _ _ rfl a27 2 s27 HF 1 rfl ?_ ?_); (simp); (intro K hK; go_simp)) | ((with_reducible refine k_load ?_); (first | refine st_load rfl _ _ rfl _ _ rfl ?_ HF 0 rfl rfl ?_ | refine st_load rfl _ _ rfl _ _ rfl ?_ HF 1 rfl rfl ?_ | refine st_load rfl _ _ rfl _ _ rfl ?_ HF 2 rfl rfl ?_); (kernel_rfl); (intro K hK; go_simp)))
                    go_ret
                    exact ⟨false, rfl, fun hx => Bool.noConfusion hx, (HF.sel 4 [3]).lift0 H0.out⟩
                · skip
                  go_wp2_with (first | ((with_reducible refine k_load (T := 27) ?_); (first | refine st_row rfl _ _ rfl _ rfl a27 2 s27 HF 0 rfl rfl ?_ | refine st_row rfl _ _ rfl _ rfl a27 2 s27 HF 1 rfl rfl ?_); (intro K hK; go_simp)) | ((with_reducible refine k_load (T := 27) ?_); (first | refine st_loads rfl _ _ rfl _ _ rfl a27 2 s27 HF 0 rfl ?_ ?_ | refine st_loads rfl _ _ rfl _ _ rfl a27 2 s27 HF 1 rfl ?_ ?_); (simp); (intro K hK; go_simp)) | ((with_reducible refine k_load ?_); (first | refine st_load rfl _ _ rfl _ _ rfl ?_ HF 0 rfl rfl ?_ | refine st_load rfl _ _ rfl _ _ rfl ?_ HF 1 rfl rfl ?_ | refine st_load rfl _ _ rfl _ _ rfl ?_ HF 2 rfl rfl ?_); (kernel_rfl); (intro K hK; go_simp)))
                  go_ret
                  exact ⟨false, rfl, fun hx => Bool.noConfusion hx, (HF.sel 4 [3]).lift0 H0.out⟩
              · skip
                go_wp2_with (first | ((with_reducible refine k_load (T := 27) ?_); (first | refine st_row rfl _ _ rfl _ rfl a27 2 s27 HF 0 rfl rfl ?_ | refine st_row rfl _ _ rfl _ rfl a27 2 s27 HF 1 rfl rfl ?_); (intro K hK; go_simp)) | ((with_reducible refine k_load (T := 27) ?_); (first | refine st_loads rfl _ _ rfl _ _ rfl a27 2 s27 HF 0 rfl ?_ ?_ | refine st_loads rfl _ _ rfl _ _ rfl a27 2 s27 HF 1 rfl ?_ ?_); (simp); (intro K hK; go_simp)) | ((with_reducible refine k_load ?_); (first | refine st_load rfl _ _ rfl _ _ rfl ?_ HF 0 rfl rfl ?_ | refine st_load rfl _ _ rfl _ _ rfl ?_ HF 1 rfl rfl ?_ | refine st_load rfl _ _ rfl _ _ rfl ?_ HF 2 rfl rfl ?_); (kernel_rfl); (intro K hK; go_simp)))
                go_ret
                exact ⟨false, rfl, fun hx => Bool.noConfusion hx, (HF.sel 4 [3]).lift0 H0.out⟩
      · have g0 : (0 : Int) < (k : Int) := by omega
        have g0' : 0 < k := by omega
        obtain ⟨k', hk'⟩ : ∃ k' : Nat, k = k' + 1 := ⟨k - 1, by omega⟩
        obtain ⟨⟨qn, qpa, qcmd, qd⟩, hq⟩ : ∃ q, h.row[k']? = some q := ⟨_, List.getElem?_eq_getElem (by omega)⟩
        have hpm : (k : Int) - 1 = (k' : Int) := by omega
        have hwk : IntKind.i64.wrap (k' : Int) = (k' : Int) := IntWalk.i64_in _ (by omega)
        have hlt' : (k' : Int) < h.row.length := by omega
        have HcP := Lib.hid (show W.cell? (b.add (k' * 15)) = some (.int .i64 qn) from Hv.out.cell (by rw [List.length_map]) (show (h.row.map Pl.cells)[k']? = some _ by rw [List.getElem?_map, hq]; rfl) (j := 0) rfl)
        have Hq := Lib.hid (show ∀ q, h.row[k - 1]? = some q → q.n = qn from fun q hx => by
          rw [hk', Nat.add_sub_cancel, hq] at hx
          cases hx
          rfl)
        clear hk' hk0 hq
        by_cases hd3 : pn ≤ qn
        · skip
          apply wp_region_eff [] (fun i => (#[[], [], [], [], [], [], [], [], [], [], [], [], [], [], [], [], [], [], [], [], [], [], [], [], [], [], [], [], [], [], [], [], [], [], [], [], [], [], [], [], [], []] : Array (List Nat)).getD i []) (fun val i => ((_ :: _ :: _ :: _ :: _ :: _ :: _ :: _ :: .bool false :: _ :: _ :: _ :: _ :: _ :: _ :: _ :: _ :: .bool false :: _ :: _ :: .bool true :: _ :: _ :: _ :: _ :: _ :: _ :: _ :: _ :: _ :: _ :: _ :: _ :: _ :: _ :: _ :: _ :: .bool true :: undef :: undef :: undef :: _ :: []) : List Value).toArray.getD i undef) (fun E val => At W (Blk g6 (.cells #[.int .i64 a1, .int .i64 a2, .int .i64 a3, .int .i64 a4, .int .i64 xk, .int .i64 xcl, .int .i64 xop, .string xnm, .int .i64 xf1, .int .i64 xf2, .int .i64 xn1, .int .i64 xn2, .int .i64 xsz, .bool pd] 69 (0, 0)) :: Blk g4 (.cells #[.int .i64 0, .int .i64 0] 27 (0, 0)) :: Blk g1 (.cells #[.int .i64 h.sn, .int .i64 h.sc, vd, .int .i64 h.upto, .slice ae h.ents.length ce, .slice al h.lasts.length cl, .slice (some b) h.row.length cap] 44 (0, 0)) :: Arg W :: [])) (by kernel_rfl) (by kernel_rfl) (by kernel_rfl) (by kernel_rfl) (HF)
          case step =>
            iterate 38 (refine ⟨eff_pl rfl (fun _ => by rfl) fun E val hn T ds w K H hk ho hK => ?_, ?_⟩; rotate_left)
            iterate 3 (refine ⟨eff_no rfl (fun _ => by rfl) (fun _ => rfl), ?_⟩)
            refine ⟨eff_pl rfl (fun _ => by rfl) fun E val hn T ds w K H hk ho hK => ?_, ?_⟩; rotate_left
            exact trivial
            · have o1 := ho 1 (by kernel_rfl); clear ho; simp [know, dstAt, Region.binds] at hk o1; go_simp; exact hK _ H
            · clear ho; simp [know, dstAt, Region.binds] at hk
              first | (refine op_loadT (v := .slice (some b) h.row.length cap) rfl hk (by kernel_rfl) H 2 rfl rfl ?_; exact hK _ H) | (refine op_load1T rfl hk (by kernel_rfl) ((H.ext 3 rfl).cell HcN.out) ?_; exact hK _ H) | (refine op_load1T rfl hk (by kernel_rfl) ((H.ext 3 rfl).cell HcP.out) ?_; exact hK _ H)
            · have o5 := ho 5 (by kernel_rfl); clear ho; simp [know, dstAt, Region.binds] at hk o5; go_simp; exact hK _ H
            · clear ho; simp [know, dstAt, Region.binds] at hk; go_simp; exact hK _ H
            · clear ho; simp [know, dstAt, Region.binds] at hk; go_simp; exact hK _ H
            · clear ho; simp [know, dstAt, Region.binds] at hk
              first | (refine op_loadT (v := .slice (some b) h.row.length cap) rfl hk (by kernel_rfl) H 2 rfl rfl ?_; exact hK _ H) | (refine op_load1T rfl hk (by kernel_rfl) ((H.ext 3 rfl).cell HcN.out) ?_; exact hK _ H) | (refine op_load1T rfl hk (by kernel_rfl) ((H.ext 3 rfl).cell HcP.out) ?_; exact hK _ H)
            · have o3 := ho 3 (by kernel_rfl); clear ho; simp [know, dstAt, Region.binds] at hk o3; go_simp; exact hK _ H
            · clear ho; simp [know, dstAt, Region.binds] at hk; go_simp; exact hK _ H
            · clear ho; simp [know, dstAt, Region.binds] at hk; go_simp; exact hK _ H
            · have o1 := ho 1 (by kernel_rfl); clear ho; simp [know, dstAt, Region.binds] at hk o1; go_simp; exact hK _ H
            · clear ho; simp [know, dstAt, Region.binds] at hk
              first | (refine op_loadT (v := .slice (some b) h.row.length cap) rfl hk.1 (by kernel_rfl) H 2 rfl rfl ?_; exact hK _ H) | (refine op_load1T rfl hk.1 (by kernel_rfl) ((H.ext 3 rfl).cell HcN.out) ?_; exact hK _ H) | (refine op_load1T rfl hk.1 (by kernel_rfl) ((H.ext 3 rfl).cell HcP.out) ?_; exact hK _ H)
            · have o5 := ho 5 (by kernel_rfl); clear ho; simp [know, dstAt, Region.binds] at hk o5; go_simp; exact hK _ H
            · clear ho; simp [know, dstAt, Region.binds] at hk; go_simp; exact hK _ H
            · clear ho; simp [know, dstAt, Region.binds] at hk; go_simp; exact hK _ H
            · clear ho; simp [know, dstAt, Region.binds] at hk
              first | (refine op_loadT (v := .slice (some b) h.row.length cap) rfl hk.1 (by kernel_rfl) H 2 rfl rfl ?_; exact hK _ H) | (refine op_load1T rfl hk.1 (by kernel_rfl) ((H.ext 3 rfl).cell HcN.out) ?_; exact hK _ H) | (refine op_load1T rfl hk.1 (by kernel_rfl) ((H.ext 3 rfl).cell HcP.out) ?_; exact hK _ H)
            · clear ho; simp [know, dstAt, Region.binds] at hk; go_simp; exact hK _ H
            · clear ho; simp [know, dstAt, Region.binds] at hk; go_simp; exact hK _ H
            · clear ho; simp [know, dstAt, Region.binds] at hk; go_simp; exact hK _ H
            · have o5 := ho 5 (by kernel_rfl); clear ho; simp [know, dstAt, Region.binds] at hk o5; go_simp; exact hK _ H
            · clear ho; simp [know, dstAt, Region.binds] at hk; go_simp; exact hK _ H
            · clear ho; simp [know, dstAt, Region.binds] at hk; go_simp; exact hK _ H
            · have o1 := ho 1 (by kernel_rfl); clear ho; simp [know, dstAt, Region.binds] at hk o1; go_simp; exact hK _ H
            · clear ho; simp [know, dstAt, Region.binds] at hk
              first | (refine op_loadT (v := .slice (some b) h.row.length cap) rfl hk.1 (by kernel_rfl) H 2 rfl rfl ?_; exact hK _ H) | (refine op_load1T rfl hk.1 (by kernel_rfl) ((H.ext 3 rfl).cell HcN.out) ?_; exact hK _ H) | (refine op_load1T rfl hk.1 (by kernel_rfl) ((H.ext 3 rfl).cell HcP.out) ?_; exact hK _ H)
            · have o5 := ho 5 (by kernel_rfl); clear ho; simp [know, dstAt, Region.binds] at hk o5; go_simp; exact hK _ H
            · clear ho; simp [know, dstAt, Region.binds] at hk; go_simp; exact hK _ H
            · clear ho; simp [know, dstAt, Region.binds] at hk; go_simp; exact hK _ H
            · clear ho; simp [know, dstAt, Region.binds] at hk
              first | (refine op_loadT (v := .slice (some b) h.row.length cap) rfl hk.1 (by kernel_rfl) H 2 rfl rfl ?_; exact hK _ H) | (refine op_load1T rfl hk.1 (by kernel_rfl) ((H.ext 3 rfl).cell HcN.out) ?_; exact hK _ H) | (refine op_load1T rfl hk.1 (by kernel_rfl) ((H.ext 3 rfl).cell HcP.out) ?_; exact hK _ H)
            · have o1 := ho 1 (by kernel_rfl); clear ho; simp [know, dstAt, Region.binds] at hk o1; go_simp; exact hK _ H
            · clear ho; simp [know, dstAt, Region.binds] at hk
              first | (refine op_loadT (v := .slice (some b) h.row.length cap) rfl hk.1 (by kernel_rfl) H 2 rfl rfl ?_; exact hK _ H) | (refine op_load1T rfl hk.1 (by kernel_rfl) ((H.ext 3 rfl).cell HcN.out) ?_; exact hK _ H) | (refine op_load1T rfl hk.1 (by kernel_rfl) ((H.ext 3 rfl).cell HcP.out) ?_; exact hK _ H)
            · have o5 := ho 5 (by kernel_rfl); clear ho; simp [know, dstAt, Region.binds] at hk o5; go_simp; exact hK _ H
            · clear ho; simp [know, dstAt, Region.binds] at hk; go_simp; exact hK _ H
            · clear ho; simp [know, dstAt, Region.binds] at hk; go_simp; exact hK _ H
            · clear ho; simp [know, dstAt, Region.binds] at hk; go_simp; exact hK _ H
            · clear ho; simp [know, dstAt, Region.binds] at hk
              first | (refine op_loadT (v := .slice (some b) h.row.length cap) rfl hk.1 (by kernel_rfl) H 2 rfl rfl ?_; exact hK _ H) | (refine op_load1T rfl hk.1 (by kernel_rfl) ((H.ext 3 rfl).cell HcN.out) ?_; exact hK _ H) | (refine op_load1T rfl hk.1 (by kernel_rfl) ((H.ext 3 rfl).cell HcP.out) ?_; exact hK _ H)
            · clear ho; simp [know, dstAt, Region.binds] at hk; go_simp; exact hK _ H
            · clear ho; simp [know, dstAt, Region.binds] at hk; go_simp; exact hK _ H
            · clear ho; simp [know, dstAt, Region.binds] at hk; go_simp; exact hK _ H
            · clear ho; simp [know, dstAt, Region.binds] at hk; go_simp; exact hK _ H
            · clear ho; simp [know, dstAt, Region.binds] at hk; go_simp; exact hK _ H
          case ins =>
            iterate 42 (refine ⟨ins_pl rfl (fun _ _ _ => rfl), ?_⟩)
            exact trivial
          case jns =>
            iterate 42 (refine ⟨j_pl (fun _ _ _ => rfl), ?_⟩)
            exact trivial
          case fin =>
            intro E val w3 hE H
            clear HF hE
            have HF := H
            clear H
            simp [putAll, Act.put]
            go_wp2_with (first | ((with_reducible refine k_load (T := 27) ?_); (first | refine st_row rfl _ _ rfl _ rfl a27 2 s27 HF 0 rfl rfl ?_ | refine st_row rfl _ _ rfl _ rfl a27 2 s27 HF 1 rfl rfl ?_); (intro K hK; go_simp)) | ((with_reducible refine k_load (T := 27) ?_); (first | refine st_loads rfl _ _ rfl _ _ rfl a27 2 s27 HF 0 rfl ?_ ?_ | refine st_loads rfl _ _ rfl _ _ rfl a27 2 s27 HF 1 rfl ?_ ?_); (simp); (intro K hK; go_simp)) | ((with_reducible refine k_load ?_); (first | refine st_load rfl _ _ rfl _ _ rfl ?_ HF 0 rfl rfl ?_ | refine st_load rfl _ _ rfl _ _ rfl ?_ HF 1 rfl rfl ?_ | refine st_load rfl _ _ rfl _ _ rfl ?_ HF 2 rfl rfl ?_); (kernel_rfl); (intro K hK; go_simp)))
            go_ret
            exact ⟨false, rfl, fun hx => Bool.noConfusion hx, (HF.sel 4 [3]).lift0 H0.out⟩
        · have Hnext := Lib.hid (Hn0.out (by omega) (by omega) (fun q _ hq => by rw [Hq.out q hq]; omega))
          apply wp_region_eff [] (fun i => (#[[], [], [], [], [], [], [], [], [], [], [], [], [], [], [], [], [], [], [], [], [], [], [], [], [], [], [], [], [], [], [], [], [], [], [], [], [], [], [], [], [], []] : Array (List Nat)).getD i []) (fun val i => ((_ :: _ :: _ :: _ :: _ :: _ :: _ :: _ :: .bool false :: _ :: _ :: _ :: _ :: _ :: _ :: _ :: _ :: .bool false :: _ :: _ :: .bool true :: _ :: _ :: _ :: _ :: _ :: _ :: _ :: _ :: _ :: _ :: _ :: _ :: _ :: _ :: _ :: _ :: .bool false :: _ :: _ :: _ :: _ :: []) : List Value).toArray.getD i undef) (fun E val => At W (Blk g6 (.cells #[.int .i64 a1, .int .i64 a2, .int .i64 a3, .int .i64 a4, .int .i64 xk, .int .i64 xcl, .int .i64 xop, .string xnm, .int .i64 xf1, .int .i64 xf2, .int .i64 xn1, .int .i64 xn2, .int .i64 xsz, .bool pd] 69 (0, 0)) :: Blk g4 (.cells #[.int .i64 0, .int .i64 0] 27 (0, 0)) :: Blk g1 (.cells #[.int .i64 h.sn, .int .i64 h.sc, vd, .int .i64 h.upto, .slice ae h.ents.length ce, .slice al h.lasts.length cl, .slice (some b) h.row.length cap] 44 (0, 0)) :: Arg W :: [])) (by kernel_rfl) (by kernel_rfl) (by kernel_rfl) (by kernel_rfl) (HF)
          case step =>
            iterate 42 (refine ⟨eff_pl rfl (fun _ => by rfl) fun E val hn T ds w K H hk ho hK => ?_, ?_⟩; rotate_left)
            exact trivial
            · have o1 := ho 1 (by kernel_rfl); clear ho; simp [know, dstAt, Region.binds] at hk o1; go_simp; exact hK _ H
            · clear ho; simp [know, dstAt, Region.binds] at hk
              first | (refine op_loadT (v := .slice (some b) h.row.length cap) rfl hk (by kernel_rfl) H 2 rfl rfl ?_; exact hK _ H) | (refine op_load1T rfl hk (by kernel_rfl) ((H.ext 3 rfl).cell HcN.out) ?_; exact hK _ H) | (refine op_load1T rfl hk (by kernel_rfl) ((H.ext 3 rfl).cell HcP.out) ?_; exact hK _ H)
            · have o5 := ho 5 (by kernel_rfl); clear ho; simp [know, dstAt, Region.binds] at hk o5; go_simp; exact hK _ H
            · clear ho; simp [know, dstAt, Region.binds] at hk; go_simp; exact hK _ H
            · clear ho; simp [know, dstAt, Region.binds] at hk; go_simp; exact hK _ H
            · clear ho; simp [know, dstAt, Region.binds] at hk
              first | (refine op_loadT (v := .slice (some b) h.row.length cap) rfl hk (by kernel_rfl) H 2 rfl rfl ?_; exact hK _ H) | (refine op_load1T rfl hk (by kernel_rfl) ((H.ext 3 rfl).cell HcN.out) ?_; exact hK _ H) | (refine op_load1T rfl hk (by kernel_rfl) ((H.ext 3 rfl).cell HcP.out) ?_; exact hK _ H)
            · have o3 := ho 3 (by kernel_rfl); clear ho; simp [know, dstAt, Region.binds] at hk o3; go_simp; exact hK _ H
            · clear ho; simp [know, dstAt, Region.binds] at hk; go_simp; exact hK _ H
            · clear ho; simp [know, dstAt, Region.binds] at hk; go_simp; exact hK _ H
            · have o1 := ho 1 (by kernel_rfl); clear ho; simp [know, dstAt, Region.binds] at hk o1; go_simp; exact hK _ H
            · clear ho; simp [know, dstAt, Region.binds] at hk
              first | (refine op_loadT (v := .slice (some b) h.row.length cap) rfl hk.1 (by kernel_rfl) H 2 rfl rfl ?_; exact hK _ H) | (refine op_load1T rfl hk.1 (by kernel_rfl) ((H.ext 3 rfl).cell HcN.out) ?_; exact hK _ H) | (refine op_load1T rfl hk.1 (by kernel_rfl) ((H.ext 3 rfl).cell HcP.out) ?_; exact hK _ H)
            · have o5 := ho 5 (by kernel_rfl); clear ho; simp [know, dstAt, Region.binds] at hk o5; go_simp; exact hK _ H
            · clear ho; simp [know, dstAt, Region.binds] at hk; go_simp; exact hK _ H
            · clear ho; simp [know, dstAt, Region.binds] at hk; go_simp; exact hK _ H
            · clear ho; simp [know, dstAt, Region.binds] at hk
              first | (refine op_loadT (v := .slice (some b) h.row.length cap) rfl hk.1 (by kernel_rfl) H 2 rfl rfl ?_; exact hK _ H) | (refine op_load1T rfl hk.1 (by kernel_rfl) ((H.ext 3 rfl).cell HcN.out) ?_; exact hK _ H) | (refine op_load1T rfl hk.1 (by kernel_rfl) ((H.ext 3 rfl).cell HcP.out) ?_; exact hK _ H)
            · clear ho; simp [know, dstAt, Region.binds] at hk; go_simp; exact hK _ H
            · clear ho; simp [know, dstAt, Region.binds] at hk; go_simp; exact hK _ H
            · clear ho; simp [know, dstAt, Region.binds] at hk; go_simp; exact hK _ H
            · have o5 := ho 5 (by kernel_rfl); clear ho; simp [know, dstAt, Region.binds] at hk o5; go_simp; exact hK _ H
            · clear ho; simp [know, dstAt, Region.binds] at hk; go_simp; exact hK _ H
            · clear ho; simp [know, dstAt, Region.binds] at hk; go_simp; exact hK _ H
            · have o1 := ho 1 (by kernel_rfl); clear ho; simp [know, dstAt, Region.binds] at hk o1; go_simp; exact hK _ H
            · clear ho; simp [know, dstAt, Region.binds] at hk
              first | (refine op_loadT (v := .slice (some b) h.row.length cap) rfl hk.1 (by kernel_rfl) H 2 rfl rfl ?_; exact hK _ H) | (refine op_load1T rfl hk.1 (by kernel_rfl) ((H.ext 3 rfl).cell HcN.out) ?_; exact hK _ H) | (refine op_load1T rfl hk.1 (by kernel_rfl) ((H.ext 3 rfl).cell HcP.out) ?_; exact hK _ H)
            · have o5 := ho 5 (by kernel_rfl); clear ho; simp [know, dstAt, Region.binds] at hk o5; go_simp; exact hK _ H
            · clear ho; simp [know, dstAt, Region.binds] at hk; go_simp; exact hK _ H
            · clear ho; simp [know, dstAt, Region.binds] at hk; go_simp; exact hK _ H
            · clear ho; simp [know, dstAt, Region.binds] at hk
              first | (refine op_loadT (v := .slice (some b) h.row.length cap) rfl hk.1 (by kernel_rfl) H 2 rfl rfl ?_; exact hK _ H) | (refine op_load1T rfl hk.1 (by kernel_rfl) ((H.ext 3 rfl).cell HcN.out) ?_; exact hK _ H) | (refine op_load1T rfl hk.1 (by kernel_rfl) ((H.ext 3 rfl).cell HcP.out) ?_; exact hK _ H)
            · have o1 := ho 1 (by kernel_rfl); clear ho; simp [know, dstAt, Region.binds] at hk o1; go_simp; exact hK _ H
            · clear ho; simp [know, dstAt, Region.binds] at hk
              first | (refine op_loadT (v := .slice (some b) h.row.length cap) rfl hk.1 (by kernel_rfl) H 2 rfl rfl ?_; exact hK _ H) | (refine op_load1T rfl hk.1 (by kernel_rfl) ((H.ext 3 rfl).cell HcN.out) ?_; exact hK _ H) | (refine op_load1T rfl hk.1 (by kernel_rfl) ((H.ext 3 rfl).cell HcP.out) ?_; exact hK _ H)
            · have o5 := ho 5 (by kernel_rfl); clear ho; simp [know, dstAt, Region.binds] at hk o5; go_simp; exact hK _ H
            · clear ho; simp [know, dstAt, Region.binds] at hk; go_simp; exact hK _ H
            · clear ho; simp [know, dstAt, Region.binds] at hk; go_simp; exact hK _ H
            · clear ho; simp [know, dstAt, Region.binds] at hk; go_simp; exact hK _ H
            · clear ho; simp [know, dstAt, Region.binds] at hk
              first | (refine op_loadT (v := .slice (some b) h.row.length cap) rfl hk.1 (by kernel_rfl) H 2 rfl rfl ?_; exact hK _ H) | (refine op_load1T rfl hk.1 (by kernel_rfl) ((H.ext 3 rfl).cell HcN.out) ?_; exact hK _ H) | (refine op_load1T rfl hk.1 (by kernel_rfl) ((H.ext 3 rfl).cell HcP.out) ?_; exact hK _ H)
            · clear ho; simp [know, dstAt, Region.binds] at hk; go_simp; exact hK _ H
            · clear ho; simp [know, dstAt, Region.binds] at hk; go_simp; exact hK _ H
            · clear ho; simp [know, dstAt, Region.binds] at hk; go_simp; exact hK _ H
            · clear ho; simp [know, dstAt, Region.binds] at hk; go_simp; exact hK _ H
            · have o6 := ho 6 (by kernel_rfl); clear ho; simp [know, dstAt, Region.binds] at hk o6
              (refine op_rowT (T := 69) rfl o6 a69 s69 H 0 rfl rfl ?_; exact hK _ H)
            · clear ho; simp [know, dstAt, Region.binds] at hk; go_simp; exact hK _ H
            · clear ho; simp [know, dstAt, Region.binds] at hk; go_simp; exact hK _ H
            · clear ho; simp [know, dstAt, Region.binds] at hk; go_simp; exact hK _ H
          case ins =>
            iterate 42 (refine ⟨ins_pl rfl (fun _ _ _ => rfl), ?_⟩)
            exact trivial
          case jns =>
            iterate 42 (refine ⟨j_pl (fun _ _ _ => rfl), ?_⟩)
            exact trivial
          case fin =>
            intro E val w3 hE H
            clear HF hE
            have HF := H
            clear H
            simp [putAll, Act.put]
            cases r with
            | true =>
              go_wp2_with (first | ((with_reducible refine k_load (T := 27) ?_); (first | refine st_row rfl _ _ rfl _ rfl a27 2 s27 HF 0 rfl rfl ?_ | refine st_row rfl _ _ rfl _ rfl a27 2 s27 HF 1 rfl rfl ?_); (intro K hK; go_simp)) | ((with_reducible refine k_load (T := 27) ?_); (first | refine st_loads rfl _ _ rfl _ _ rfl a27 2 s27 HF 0 rfl ?_ ?_ | refine st_loads rfl _ _ rfl _ _ rfl a27 2 s27 HF 1 rfl ?_ ?_); (simp); (intro K hK; go_simp)) | ((with_reducible refine k_load ?_); (first | refine st_load rfl _ _ rfl _ _ rfl ?_ HF 0 rfl rfl ?_ | refine st_load rfl _ _ rfl _ _ rfl ?_ HF 1 rfl rfl ?_ | refine st_load rfl _ _ rfl _ _ rfl ?_ HF 2 rfl rfl ?_); (kernel_rfl); (intro K hK; go_simp)))
              go_ret
              exact ⟨false, rfl, fun hx => Bool.noConfusion hx, (HF.sel 4 [3]).lift0 H0.out⟩
            | false =>
              cases pd with
              | false =>
                have hnext := Hnext.out (fun hx => Bool.noConfusion hx)
                go_wp2_with (first | ((with_reducible refine k_load (T := 27) ?_); (first | refine st_row rfl _ _ rfl _ rfl a27 2 s27 HF 0 rfl rfl ?_ | refine st_row rfl _ _ rfl _ rfl a27 2 s27 HF 1 rfl rfl ?_); (intro K hK; go_simp)) | ((with_reducible refine k_load (T := 27) ?_); (first | refine st_loads rfl _ _ rfl _ _ rfl a27 2 s27 HF 0 rfl ?_ ?_ | refine st_loads rfl _ _ rfl _ _ rfl a27 2 s27 HF 1 rfl ?_ ?_); (simp); (intro K hK; go_simp)) | ((with_reducible refine k_load ?_); (first | refine st_load rfl _ _ rfl _ _ rfl ?_ HF 0 rfl rfl ?_ | refine st_load rfl _ _ rfl _ _ rfl ?_ HF 1 rfl rfl ?_ | refine st_load rfl _ _ rfl _ _ rfl ?_ HF 2 rfl rfl ?_); (kernel_rfl); (intro K hK; go_simp)))
                go_roundw
                case rel => exact ⟨k + 1, by omega, rfl, hnext, HF.sel 4 [1, 2, 3]⟩
                case measure => simp [intOf]; omega
              | true =>
                by_cases q1 : a1 = 0
                · subst q1
                  by_cases q2 : a2 = 0
                  · subst q2
                    by_cases q3 : a3 = 0
                    · subst q3
                      by_cases q4 : a4 = 0
                      · subst q4
                        by_cases hk1 : xk < 1
                        · skip
                          go_wp2_with (first | ((with_reducible refine k_load (T := 27) ?_); (first | refine st_row rfl _ _ rfl _ rfl a27 2 s27 HF 0 rfl rfl ?_ | refine st_row rfl _ _ rfl _ rfl a27 2 s27 HF 1 rfl rfl ?_); (intro K hK; go_simp)) | ((with_reducible refine k_load (T := 27) ?_); (first | refine st_loads rfl _ _ rfl _ _ rfl a27 2 s27 HF 0 rfl ?_ ?_ | refine st_loads rfl _ _ rfl _ _ rfl a27 2 s27 HF 1 rfl ?_ ?_); (simp); (intro K hK; go_simp)) | ((with_reducible refine k_load ?_); (first | refine st_load rfl _ _ rfl _ _ rfl ?_ HF 0 rfl rfl ?_ | refine st_load rfl _ _ rfl _ _ rfl ?_ HF 1 rfl rfl ?_ | refine st_load rfl _ _ rfl _ _ rfl ?_ HF 2 rfl rfl ?_); (kernel_rfl); (intro K hK; go_simp)))
                          go_ret
                          exact ⟨false, rfl, fun hx => Bool.noConfusion hx, (HF.sel 4 [3]).lift0 H0.out⟩
                        · have hnext := Hnext.out (fun _ => by omega)
                          go_wp2_with (first | ((with_reducible refine k_load (T := 27) ?_); (first | refine st_row rfl _ _ rfl _ rfl a27 2 s27 HF 0 rfl rfl ?_ | refine st_row rfl _ _ rfl _ rfl a27 2 s27 HF 1 rfl rfl ?_); (intro K hK; go_simp)) | ((with_reducible refine k_load (T := 27) ?_); (first | refine st_loads rfl _ _ rfl _ _ rfl a27 2 s27 HF 0 rfl ?_ ?_ | refine st_loads rfl _ _ rfl _ _ rfl a27 2 s27 HF 1 rfl ?_ ?_); (simp); (intro K hK; go_simp)) | ((with_reducible refine k_load ?_); (first | refine st_load rfl _ _ rfl _ _ rfl ?_ HF 0 rfl rfl ?_ | refine st_load rfl _ _ rfl _ _ rfl ?_ HF 1 rfl rfl ?_ | refine st_load rfl _ _ rfl _ _ rfl ?_ HF 2 rfl rfl ?_); (kernel_rfl); (intro K hK; go_simp)))
                          go_roundw
                          case rel => exact ⟨k + 1, by omega, rfl, hnext, HF.sel 4 [1, 2, 3]⟩
                          case measure => simp [intOf]; omega
                      · skip
                        go_wp2_with (first | ((with_reducible refine k_load (T := 27) ?_); (first | refine st_row rfl _ _ rfl _ rfl a27 2 s27 HF 0 rfl rfl ?_ | refine st_row rfl _ _ rfl _ rfl a27 2 s27 HF 1 rfl rfl ?_); (intro K hK; go_simp)) | ((with_reducible refine k_load (T := 27) ?_); (first | refine st_loads rfl _ _ rfl _ _ rfl a27 2 s27 HF 0 rfl ?_ ?_ | refine st_loads rfl _ _ rfl _ _ rfl a27 2 s27 HF 1 rfl ?_ ?_); (simp); (intro K hK; go_simp)) | ((with_reducible refine k_load ?_); (first | refine st_load rfl _ _ rfl _ _ rfl ?_ HF 0 rfl rfl ?_ | refine st_load rfl _ _ rfl _ _ rfl ?_ HF 1 rfl rfl ?_ | refine st_load rfl _ _ rfl _ _ rfl ?_ HF 2 rfl rfl ?_); (kernel_rfl); (intro K hK; go_simp)))
                        go_ret
                        exact ⟨false, rfl, fun hx => Bool.noConfusion hx, (HF.sel 4 [3]).lift0 H0.out⟩
                    · skip
                      go_wp2_with (first | ((with_reducible refine k_load (T := 27) ?_); (first | refine st_row rfl _ _ rfl _ rfl a27 2 s27 HF 0 rfl rfl ?_ | refine st_row rfl _ _ rfl _ rfl a27 2 s27 HF 1 rfl rfl ?_); (intro K hK; go_simp)) | ((with_reducible refine k_load (T := 27) ?_); (first | refine st_loads rfl _ _ rfl _ _ rfl a27 2 s27 HF 0 rfl ?_ ?_ | refine st_loads rfl _ _ rfl _ _ rfl a27 2 s27 HF 1 rfl ?_ ?_); (simp); (intro K hK; go_simp)) | ((with_reducible refine k_load ?_); (first | refine st_load rfl _ _ rfl _ _ rfl ?_ HF 0 rfl rfl ?_ | refine st_load rfl _ _ rfl _ _ rfl ?_ HF 1 rfl rfl ?_ | refine st_load rfl _ _ rfl _ _ rfl ?_ HF 2 rfl rfl ?_); (kernel_rfl); (intro K hK; go_simp)))
                      go_ret
                      exact ⟨false, rfl, fun hx => Bool.noConfusion hx, (HF.sel 4 [3]).lift0 H0.out⟩
                  · skip
                    go_wp2_with (first | ((with_reducible refine k_load (T := 27) ?_); (first | refine st_row rfl _ _ rfl _ rfl a27 2 s27 HF 0 rfl rfl ?_ | refine st_row rfl _ _ rfl _ rfl a27 2 s27 HF 1 rfl rfl ?_); (intro K hK; go_simp)) | ((with_reducible refine k_load (T := 27) ?_); (first | refine st_loads rfl _ _ rfl _ _ rfl a27 2 s27 HF 0 rfl ?_ ?_ | refine st_loads rfl _ _ rfl _ _ rfl a27 2 s27 HF 1 rfl ?_ ?_); (simp); (intro K hK; go_simp)) | ((with_reducible refine k_load ?_); (first | refine st_load rfl _ _ rfl _ _ rfl ?_ HF 0 rfl rfl ?_ | refine st_load rfl _ _ rfl _ _ rfl ?_ HF 1 rfl rfl ?_ | refine st_load rfl _ _ rfl _ _ rfl ?_ HF 2 rfl rfl ?_); (kernel_rfl); (intro K hK; go_simp)))
                    go_ret
                    exact ⟨false, rfl, fun hx => Bool.noConfusion hx, (HF.sel 4 [3]).lift0 H0.out⟩
                · skip
                  go_wp2_with (first | ((with_reducible refine k_load (T := 27) ?_); (first | refine st_row rfl _ _ rfl _ rfl a27 2 s27 HF 0 rfl rfl ?_ | refine st_row rfl _ _ rfl _ rfl a27 2 s27 HF 1 rfl rfl ?_); (intro K hK; go_simp)) | ((with_reducible refine k_load (T := 27) ?_); (first | refine st_loads rfl _ _ rfl _ _ rfl a27 2 s27 HF 0 rfl ?_ ?_ | refine st_loads rfl _ _ rfl _ _ rfl a27 2 s27 HF 1 rfl ?_ ?_); (simp); (intro K hK; go_simp)) | ((with_reducible refine k_load ?_); (first | refine st_load rfl _ _ rfl _ _ rfl ?_ HF 0 rfl rfl ?_ | refine st_load rfl _ _ rfl _ _ rfl ?_ HF 1 rfl rfl ?_ | refine st_load rfl _ _ rfl _ _ rfl ?_ HF 2 rfl rfl ?_); (kernel_rfl); (intro K hK; go_simp)))
                  go_ret
                  exact ⟨false, rfl, fun hx => Bool.noConfusion hx, (HF.sel 4 [3]).lift0 H0.out⟩
    · have g1x : ¬ (k : Int) < h.row.length := by omega
      go_wp2_with (first | ((with_reducible refine k_load ?_); refine st_load rfl _ _ rfl _ _ rfl ?_ HF 1 rfl rfl ?_; (kernel_rfl); (intro K hK; go_simp)))
      go_ret
      exact ⟨true, rfl, fun _ => may_all HU.out (fun j q hq => Hb.out j q (by have := (List.getElem?_eq_some_iff.1 hq).1; omega) hq), (HF.sel 3 [2]).lift0 H0.out⟩
end
end Md
end Go.Proofs.Ytjobojgmadjmfaa
