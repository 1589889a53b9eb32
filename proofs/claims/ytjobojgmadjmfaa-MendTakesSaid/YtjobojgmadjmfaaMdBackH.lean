/-
  The statements' own functions: what is held, as it was lent; then it is written over.
-/
import Derived.Test.YtjobojgmadjmfaaMdLendH
namespace Go.Proofs.Ytjobojgmadjmfaa
open Go.Hp Go.RowKit
set_option linter.unusedVariables false
set_option linter.unusedSimpArgs false
set_option maxRecDepth 100000
set_option maxHeartbeats 4000000
namespace Md

theorem mkP_fits (i : Int) : Fits placeK (mkP i) := ⟨⟨_, rfl⟩, ⟨_, rfl⟩, ⟨_, rfl⟩, ⟨_, rfl⟩, ⟨_, rfl⟩, ⟨_, rfl⟩, ⟨_, rfl⟩, ⟨_, rfl⟩, ⟨_, rfl⟩, ⟨_, rfl⟩, ⟨_, rfl⟩, ⟨_, rfl⟩, ⟨_, rfl⟩, ⟨_, rfl⟩, ⟨_, rfl⟩, trivial⟩
theorem cells_len15 {h : Hd} (hok : h.Ok) : ∀ r ∈ h.row.map Pl.cells, r.length = 15 := by
  intro r hr
  obtain ⟨p, hp, rfl⟩ := List.mem_map.1 hr
  have hpo := hok.row p hp
  have e1 : p.pa.length = 4 := hpo.pa.len
  have e2 : p.cmd.length = 9 := hpo.cmd.len
  simp [Pl.cells, Pl.inst, e1, e2]

theorem lentB_len (l : List UInt8) : (bv l ++ List.replicate 67 (Value.int .u8 201)).length = l.length + 67 := by rw [List.length_append, length_bv, List.length_replicate]
theorem lentB_get {l : List UInt8} {j : Nat} (h : j < l.length) : ∃ x : Int, (bv l ++ List.replicate 67 (Value.int .u8 201))[j]? = some (.int .u8 x) := by
  rw [List.getElem?_append_left (by rw [length_bv]; exact h)]
  unfold bv
  rw [List.getElem?_map, List.getElem?_eq_getElem h]
  exact ⟨_, rfl⟩

section
variable {w0 w : World} {L : List HProp}

theorem backH {h : Hd} {vd ve vl vr : Value} {gd ge gl gr : Nat} (hok : h.Ok) (br : h.row.length * 128 ≤ 140737488355328) (hv : HdAt w h vd ve vl vr) (bd : h.data.length ≤ 140737488355328) (be : h.ents.length * 40 ≤ 140737488355328) (bl : h.lasts.length * 56 ≤ 140737488355328)
    (H : At w0 (Blk gd (.cells (lentB h.data) 5 (0, 0)) :: Blk ge (.cells (lentE h.ents) 101 (0, 0)) :: Blk gl (.cells (lentL h.lasts) 104 (0, 0)) :: Blk gr (.cells (lentP (h.row.map Pl.cells)) 86 (0, 0)) :: L) w) :
    Calls Try.prog 14 #[.agg (hdV h (.slice (some ⟨gd, 0, none⟩) h.data.length (h.data.length + 67)) (.slice (some ⟨ge, 0, none⟩) h.ents.length (h.ents.length + 67)) (.slice (some ⟨gl, 0, none⟩) h.lasts.length (h.lasts.length + 67)) (.slice (some ⟨gr, 0, none⟩) h.row.length (h.row.length + 67))), .agg (hdV h vd ve vl vr)] w (fun e w' => e = .returned (.bool true) ∧ At w0 L w') := by
  obtain ⟨W, rfl⟩ : ∃ W : World, W = w := ⟨_, rfl⟩
  have HF := At.of W
  have H0 := Lib.hid H
  have HV := Lib.hid hv
  have FB := Lib.hid (lentB_of bd H)
  have FE := Lib.hid (lent_of (mk := mkE) (fun r hr => (hok.ents r hr).len) (fun _ => rfl) (by omega) (H.pick 1 rfl))
  have FL := Lib.hid (lent_of (mk := mkL) (fun r hr => (hok.lasts r hr).len) (fun _ => rfl) (by omega) (H.pick 2 rfl))
  have FP := lent_of (mk := mkP) (cells_len15 hok) (fun _ => rfl) (by rw [List.length_map]; omega) (H.pick 3 rfl)
  have FP2 := FP.2
  have FP1 := FP.1
  rw [List.length_map] at FP1 FP2
  have P1 := Lib.hid FP1
  have P2 := Lib.hid FP2
  obtain ⟨ad, cap, rfl, c1, c2, c3⟩ := hv.r.value
  rw [List.length_map] at c1 c3
  simp only [List.length_map] at hv HV ⊢
  have Hv := Lib.hid hv.r
  have C3 := Lib.hid c3
  have Hok := Lib.hid hok
  clear H hv c3 hok FP FP1 FP2
  have hn : ((h.row.length : Int) + 67).toNat = h.row.length + 67 := by omega
  have Bd := Lib.hid bd
  have Be := Lib.hid be
  have Bl := Lib.hid bl
  have hrl : h.row.length ≤ 1099511627776 := by omega
  have C12 := Lib.hid (And.intro c1 c2)
  clear bd be bl br c1 c2
  simp only [hdV]
  go_enter Try.func14, Try.ntmps14
  go_wp2_with (first | ((with_reducible refine k_box (T := 49) ?_); refine st_box rfl _ _ rfl _ rfl HF ?_; (clear HF; intro g2 w HF K hK; simp only [Value.cells, Act.eval, Value.cells, Array.getD_eq_getD_getElem?, List.getElem?_toArray, List.getElem?_cons_succ, List.getElem?_cons_zero, Option.getD_some] at HF; go_simp)) | ((with_reducible refine k_box (T := 44) ?_); refine st_box rfl _ _ rfl _ rfl HF ?_; (clear HF; intro g3 w HF K hK; simp only [Value.cells, Act.eval, Value.cells, Array.getD_eq_getD_getElem?, List.getElem?_toArray, List.getElem?_cons_succ, List.getElem?_cons_zero, Option.getD_some] at HF; go_simp)) | ((with_reducible refine k_load ?_); refine st_load rfl _ _ rfl _ _ rfl ?_ HF 0 rfl rfl ?_; (kernel_rfl); (intro K hK; go_simp)) | ((with_reducible refine k_load ?_); refine st_load rfl _ _ rfl _ _ rfl ?_ HF 1 rfl rfl ?_; (kernel_rfl); (intro K hK; go_simp)))
  refine (backB2 (FB.out.ext (HF.ext 2 rfl)) (HV.out.d.ext (HF.ext 2 rfl)) Bd.out HF).mono ?_
  rintro e w3 ⟨rfl, HX⟩
  replace HF := HX
  clear HX
  go_wp2_with (first | ((with_reducible refine k_load (T := 36) ?_); refine st_row rfl _ _ rfl _ rfl a36 3 s36 HF 0 rfl rfl ?_; (intro K hK; go_simp)) | ((with_reducible refine k_load (T := 36) ?_); refine st_row rfl _ _ rfl _ rfl a36 3 s36 HF 1 rfl rfl ?_; (intro K hK; go_simp)) | ((with_reducible refine k_load (T := 36) ?_); refine st_loads rfl _ _ rfl _ _ rfl a36 3 s36 HF 0 rfl ?_ ?_; (simp); (intro K hK; go_simp)) | ((with_reducible refine k_load (T := 36) ?_); refine st_loads rfl _ _ rfl _ _ rfl a36 3 s36 HF 1 rfl ?_ ?_; (simp); (intro K hK; go_simp)) | ((with_reducible refine k_load ?_); refine st_load rfl _ _ rfl _ _ rfl ?_ HF 0 rfl rfl ?_; (kernel_rfl); (intro K hK; go_simp)) | ((with_reducible refine k_load ?_); refine st_load rfl _ _ rfl _ _ rfl ?_ HF 1 rfl rfl ?_; (kernel_rfl); (intro K hK; go_simp)))
  refine (backK (FE.out.ext (HF.ext 2 rfl)) (FL.out.ext (HF.ext 2 rfl)) (HV.out.e.ext (HF.ext 2 rfl)) (HV.out.l.ext (HF.ext 2 rfl)) Hok.out.ents Hok.out.lasts Be.out Bl.out HF).mono ?_
  rintro e w4 ⟨rfl, HX⟩
  replace HF := HX
  clear HX
  go_wp2_with (first | ((with_reducible refine k_load ?_); refine st_load rfl _ _ rfl _ _ rfl ?_ HF 0 rfl rfl ?_; (kernel_rfl); (intro K hK; go_simp)) | ((with_reducible refine k_load ?_); refine st_load rfl _ _ rfl _ _ rfl ?_ HF 1 rfl rfl ?_; (kernel_rfl); (intro K hK; go_simp)))
  go_loopw [6] (fun i wr => ∃ k : Nat, k ≤ h.row.length + 67 ∧ i = .int .i64 k ∧ At W (Blk g3 (.cells #[.int .i64 h.sn, .int .i64 h.sc, vd, .int .i64 h.upto, ve, vl, .slice ad h.row.length cap] 44 (0, 0)) :: Blk g2 (.cells #[.int .i64 h.sn, .int .i64 h.sc, .slice (some ⟨gd, 0, none⟩) h.data.length (h.data.length + 67), .int .i64 h.upto, .slice (some ⟨ge, 0, none⟩) h.ents.length (h.ents.length + 67), .slice (some ⟨gl, 0, none⟩) h.lasts.length (h.lasts.length + 67), .slice (some ⟨gr, 0, none⟩) h.row.length (h.row.length + 67)] 49 (0, 0)) :: Arg W :: []) wr) (fun i _ => h.row.length + 67 - (intOf i).toNat)
  case atStart => exact ⟨0, Nat.zero_le _, rfl, HF⟩
  case round =>
    clear HF
    obtain ⟨k, hk, rfl, HF⟩ := hrel
    by_cases hlt : k < h.row.length + 67
    · have hkb : (k : Int) ≤ 1099511627843 := by omega
      have hlt2 : (k : Int) < (h.row.length : Int) + 67 := by omega
      by_cases hin : k < h.row.length
      · have g1x : (k : Int) < h.row.length := by omega
        have g1y : ¬ (h.row.length : Int) ≤ k := by omega
        obtain ⟨b, rfl⟩ := C3.out (by omega)
        obtain ⟨⟨pn, ppa, pcmd, pd⟩, hp⟩ : ∃ p, h.row[k]? = some p := ⟨_, List.getElem?_eq_getElem hin⟩
        have hpo := Hok.out.row _ (List.mem_of_getElem? hp)
        obtain ⟨a1, a2, a3, a4, hpa⟩ := pa_cases hpo.pa
        obtain ⟨⟨xk, xcl, xop, xnm, xf1, xf2, xn1, xn2, xsz⟩, hpc⟩ := cmd_cases hpo.cmd
        dsimp only at hpa hpc
        subst hpa hpc
        have hr : (h.row.map Pl.cells)[k]? = some [.int .i64 pn, .int .i64 a1, .int .i64 a2, .int .i64 a3, .int .i64 a4, .int .i64 xk, .int .i64 xcl, .int .i64 xop, .string xnm, .int .i64 xf1, .int .i64 xf2, .int .i64 xn1, .int .i64 xn2, .int .i64 xsz, .bool pd] := by rw [List.getElem?_map, hp]; rfl
        have HcN := Lib.hid (show W.cell? (b.add (k * 15)) = some (.int .i64 pn) from Hv.out.cell (by rw [List.length_map]) hr (j := 0) rfl)
        have HcI := Lib.hid (fun j u (hj : ([.int .i64 a1, .int .i64 a2, .int .i64 a3, .int .i64 a4, .int .i64 xk, .int .i64 xcl, .int .i64 xop, .string xnm, .int .i64 xf1, .int .i64 xf2, .int .i64 xn1, .int .i64 xn2, .int .i64 xsz, .bool pd] : List Value)[j]? = some u) => (show W.cell? (b.add (k * 15 + (1 + j))) = some u from Hv.out.cell (by rw [List.length_map]) hr (by rw [Nat.add_comm, List.getElem?_cons_succ]; exact hj)))
        have HqN := Lib.hid (show W.cell? ⟨gr, k * 15, none⟩ = some (.int .i64 pn) by
          have := P1.out.cell (by rw [List.length_map]) hr (j := 0) rfl
          rwa [Addr.add_lit, Nat.zero_add] at this)
        have HqI := Lib.hid (fun j u (hj : ([.int .i64 a1, .int .i64 a2, .int .i64 a3, .int .i64 a4, .int .i64 xk, .int .i64 xcl, .int .i64 xop, .string xnm, .int .i64 xf1, .int .i64 xf2, .int .i64 xn1, .int .i64 xn2, .int .i64 xsz, .bool pd] : List Value)[j]? = some u) => (show W.cell? ⟨gr, k * 15 + (1 + j), none⟩ = some u by
          have := P1.out.cell (by rw [List.length_map]) hr (j := 1 + j) (u := u) (by rw [Nat.add_comm, List.getElem?_cons_succ]; exact hj)
          rwa [Addr.add_lit, Nat.zero_add] at this))
        have hz := run_neq_self fInst a69 (fits_inst hpo)
        simp only [Pl.inst, Cm.cells, List.cons_append, List.nil_append] at hz
        have hz2 : (pn != pn) = false := by simp
        have Hk := Lib.hid hk
        have Hrl := Lib.hid hrl
        have Hlt := Lib.hid hlt
        have hinn : ¬ h.row.length ≤ k := by omega
        clear hr hp hpo hk hrl hlt HV FB FE FL P1 P2 Hv C3 Hok C12 Bd Be Bl
        go_wp2_with (first | ((with_reducible refine k_load ?_); refine st_load rfl _ _ rfl _ _ rfl ?_ HF 0 rfl rfl ?_; (kernel_rfl); (intro K hK; go_simp)) | ((with_reducible refine k_load ?_); refine st_load rfl _ _ rfl _ _ rfl ?_ HF 1 rfl rfl ?_; (kernel_rfl); (intro K hK; go_simp)))
        apply wp_region_eff [] (fun i => (#[[], [], [], [], [], [], [], [], [], [], [], [], [], [], [], [], [], [], [], [], [], [], [], [], [], [], [], [], [], [], [], [], [], [], [], [], [], [], [], [], [], [], [], [], [], [], [], [], [], []] : Array (List Nat)).getD i []) (fun val i => (([.int .i64 (k : Int), .pointer (some ⟨g3, 6, none⟩), .slice (some b) h.row.length cap, .int .i64 (h.row.length : Int), .bool true, .bool true, .slice (some ⟨gr, 0, none⟩) (h.row.length + 67) (h.row.length + 67), .int .i64 (k : Int), .pointer (some ⟨gr, k * 15, none⟩), .pointer (some ⟨gr, k * 15, none⟩), .int .i64 pn, .pointer (some ⟨g3, 6, none⟩), .slice (some b) h.row.length cap, .int .i64 (k : Int), .pointer (some (b.add (k * 15))), .pointer (some (b.add (k * 15))), .int .i64 pn, .bool false, .bool false, .slice (some ⟨gr, 0, none⟩) (h.row.length + 67) (h.row.length + 67), .int .i64 (k : Int), .pointer (some ⟨gr, k * 15, none⟩), .pointer (some ⟨gr, k * 15 + 1, none⟩), .agg #[.int .i64 a1, .int .i64 a2, .int .i64 a3, .int .i64 a4, .int .i64 xk, .int .i64 xcl, .int .i64 xop, .string xnm, .int .i64 xf1, .int .i64 xf2, .int .i64 xn1, .int .i64 xn2, .int .i64 xsz, .bool pd], .pointer (some ⟨g3, 6, none⟩), .slice (some b) h.row.length cap, .int .i64 (k : Int), .pointer (some (b.add (k * 15))), .pointer (some ((b.add (k * 15)).add 1)), .agg #[.int .i64 a1, .int .i64 a2, .int .i64 a3, .int .i64 a4, .int .i64 xk, .int .i64 xcl, .int .i64 xop, .string xnm, .int .i64 xf1, .int .i64 xf2, .int .i64 xn1, .int .i64 xn2, .int .i64 xsz, .bool pd], .bool false, .bool false, .bool false, .bool false, .int .i64 (k : Int), .pointer (some ⟨g3, 6, none⟩), .slice (some b) h.row.length cap, .int .i64 (h.row.length : Int), .bool false, .bool false, undef, undef, undef, undef, undef, undef, undef, undef, .bool false, .bool false]) : List Value).toArray.getD i undef) (fun E val => At W (Blk g3 (.cells #[.int .i64 h.sn, .int .i64 h.sc, vd, .int .i64 h.upto, ve, vl, .slice (some b) h.row.length cap] 44 (0, 0)) :: Blk g2 (.cells #[.int .i64 h.sn, .int .i64 h.sc, .slice (some ⟨gd, 0, none⟩) h.data.length (h.data.length + 67), .int .i64 h.upto, .slice (some ⟨ge, 0, none⟩) h.ents.length (h.ents.length + 67), .slice (some ⟨gl, 0, none⟩) h.lasts.length (h.lasts.length + 67), .slice (some ⟨gr, 0, none⟩) h.row.length (h.row.length + 67)] 49 (0, 0)) :: Arg W :: [])) (by kernel_rfl) (by kernel_rfl) (by kernel_rfl) (by kernel_rfl) (HF)
        case step =>
          refine ⟨eff_pl (i := 0) rfl (fun _ => by rfl) ?_, eff_pl (i := 1) rfl (fun _ => by rfl) ?_, eff_pl (i := 2) rfl (fun _ => by rfl) ?_, eff_pl (i := 3) rfl (fun _ => by rfl) ?_, eff_pl (i := 4) rfl (fun _ => by rfl) ?_, eff_pl (i := 5) rfl (fun _ => by rfl) ?_, eff_pl (i := 6) rfl (fun _ => by rfl) ?_, eff_pl (i := 7) rfl (fun _ => by rfl) ?_, eff_pl (i := 8) rfl (fun _ => by rfl) ?_, eff_pl (i := 9) rfl (fun _ => by rfl) ?_, eff_pl (i := 10) rfl (fun _ => by rfl) ?_, eff_pl (i := 11) rfl (fun _ => by rfl) ?_, eff_pl (i := 12) rfl (fun _ => by rfl) ?_, eff_pl (i := 13) rfl (fun _ => by rfl) ?_, eff_pl (i := 14) rfl (fun _ => by rfl) ?_, eff_pl (i := 15) rfl (fun _ => by rfl) ?_, eff_pl (i := 16) rfl (fun _ => by rfl) ?_, eff_pl (i := 17) rfl (fun _ => by rfl) ?_, eff_pl (i := 18) rfl (fun _ => by rfl) ?_, eff_pl (i := 19) rfl (fun _ => by rfl) ?_, eff_pl (i := 20) rfl (fun _ => by rfl) ?_, eff_pl (i := 21) rfl (fun _ => by rfl) ?_, eff_pl (i := 22) rfl (fun _ => by rfl) ?_, eff_pl (i := 23) rfl (fun _ => by rfl) ?_, eff_pl (i := 24) rfl (fun _ => by rfl) ?_, eff_pl (i := 25) rfl (fun _ => by rfl) ?_, eff_pl (i := 26) rfl (fun _ => by rfl) ?_, eff_pl (i := 27) rfl (fun _ => by rfl) ?_, eff_pl (i := 28) rfl (fun _ => by rfl) ?_, eff_pl (i := 29) rfl (fun _ => by rfl) ?_, eff_pl (i := 30) rfl (fun _ => by rfl) ?_, eff_pl (i := 31) rfl (fun _ => by rfl) ?_, eff_pl (i := 32) rfl (fun _ => by rfl) ?_, eff_pl (i := 33) rfl (fun _ => by rfl) ?_, eff_pl (i := 34) rfl (fun _ => by rfl) ?_, eff_pl (i := 35) rfl (fun _ => by rfl) ?_, eff_pl (i := 36) rfl (fun _ => by rfl) ?_, eff_pl (i := 37) rfl (fun _ => by rfl) ?_, eff_pl (i := 38) rfl (fun _ => by rfl) ?_, eff_pl (i := 39) rfl (fun _ => by rfl) ?_, eff_no (i := 40) rfl (fun _ => by rfl) (fun _ => rfl), eff_no (i := 41) rfl (fun _ => by rfl) (fun _ => rfl), eff_no (i := 42) rfl (fun _ => by rfl) (fun _ => rfl), eff_no (i := 43) rfl (fun _ => by rfl) (fun _ => rfl), eff_no (i := 44) rfl (fun _ => by rfl) (fun _ => rfl), eff_no (i := 45) rfl (fun _ => by rfl) (fun _ => rfl), eff_no (i := 46) rfl (fun _ => by rfl) (fun _ => rfl), eff_no (i := 47) rfl (fun _ => by rfl) (fun _ => rfl), eff_pl (i := 48) rfl (fun _ => by rfl) ?_, eff_pl (i := 49) rfl (fun _ => by rfl) ?_, trivial⟩
          · (intro E val hn T ds w K H hk ho hK); ((have o6 := ho 6 (by kernel_rfl))); (clear ho; simp [know, dstAt, Region.binds] at hk o6)
            (go_simp; exact hK _ H)
          · (intro E val hn T ds w K H hk ho hK); ((have o3 := ho 3 (by kernel_rfl))); (clear ho; simp [know, dstAt, Region.binds] at hk o3)
            (go_simp; exact hK _ H)
          · (intro E val hn T ds w K H hk ho hK); (skip); (clear ho; simp [know, dstAt, Region.binds] at hk)
            first | (refine op_loadT (v := .slice (some b) h.row.length cap) rfl hk (by kernel_rfl) H 0 rfl rfl ?_; exact hK _ H) | (refine op_load1T rfl hk (by kernel_rfl) ((H.ext 2 rfl).cell HcN.out) ?_; exact hK _ H) | (refine op_load1T rfl hk (by kernel_rfl) ((H.ext 2 rfl).cell HqN.out) ?_; exact hK _ H)
          · (intro E val hn T ds w K H hk ho hK); (skip); (clear ho; simp [know, dstAt, Region.binds] at hk)
            (go_simp; exact hK _ H)
          · (intro E val hn T ds w K H hk ho hK); (skip); (clear ho; simp [know, dstAt, Region.binds] at hk)
            (go_simp; exact hK _ H)
          · (intro E val hn T ds w K H hk ho hK); (skip); (clear ho; simp [know, dstAt, Region.binds] at hk)
            (go_simp; exact hK _ H)
          · (intro E val hn T ds w K H hk ho hK); ((have o5 := ho 5 (by kernel_rfl))); (clear ho; simp [know, dstAt, Region.binds] at hk o5)
            (go_simp; exact hK _ H)
          · (intro E val hn T ds w K H hk ho hK); ((have o6 := ho 6 (by kernel_rfl))); (clear ho; simp [know, dstAt, Region.binds] at hk o6)
            (go_simp; exact hK _ H)
          · (intro E val hn T ds w K H hk ho hK); (skip); (clear ho; simp [know, dstAt, Region.binds] at hk)
            (go_simp; exact hK _ H)
          · (intro E val hn T ds w K H hk ho hK); (skip); (clear ho; simp [know, dstAt, Region.binds] at hk)
            (go_simp; exact hK _ H)
          · (intro E val hn T ds w K H hk ho hK); (skip); (clear ho; simp [know, dstAt, Region.binds] at hk)
            first | (refine op_loadT (v := .slice (some b) h.row.length cap) rfl hk.1 (by kernel_rfl) H 0 rfl rfl ?_; exact hK _ H) | (refine op_load1T rfl hk.1 (by kernel_rfl) ((H.ext 2 rfl).cell HcN.out) ?_; exact hK _ H) | (refine op_load1T rfl hk.1 (by kernel_rfl) ((H.ext 2 rfl).cell HqN.out) ?_; exact hK _ H)
          · (intro E val hn T ds w K H hk ho hK); ((have o3 := ho 3 (by kernel_rfl))); (clear ho; simp [know, dstAt, Region.binds] at hk o3)
            (go_simp; exact hK _ H)
          · (intro E val hn T ds w K H hk ho hK); (skip); (clear ho; simp [know, dstAt, Region.binds] at hk)
            first | (refine op_loadT (v := .slice (some b) h.row.length cap) rfl hk.1 (by kernel_rfl) H 0 rfl rfl ?_; exact hK _ H) | (refine op_load1T rfl hk.1 (by kernel_rfl) ((H.ext 2 rfl).cell HcN.out) ?_; exact hK _ H) | (refine op_load1T rfl hk.1 (by kernel_rfl) ((H.ext 2 rfl).cell HqN.out) ?_; exact hK _ H)
          · (intro E val hn T ds w K H hk ho hK); ((have o6 := ho 6 (by kernel_rfl))); (clear ho; simp [know, dstAt, Region.binds] at hk o6)
            (go_simp; exact hK _ H)
          · (intro E val hn T ds w K H hk ho hK); (skip); (clear ho; simp [know, dstAt, Region.binds] at hk)
            (go_simp; exact hK _ H)
          · (intro E val hn T ds w K H hk ho hK); (skip); (clear ho; simp [know, dstAt, Region.binds] at hk)
            (go_simp; exact hK _ H)
          · (intro E val hn T ds w K H hk ho hK); (skip); (clear ho; simp [know, dstAt, Region.binds] at hk)
            first | (refine op_loadT (v := .slice (some b) h.row.length cap) rfl hk.1 (by kernel_rfl) H 0 rfl rfl ?_; exact hK _ H) | (refine op_load1T rfl hk.1 (by kernel_rfl) ((H.ext 2 rfl).cell HcN.out) ?_; exact hK _ H) | (refine op_load1T rfl hk.1 (by kernel_rfl) ((H.ext 2 rfl).cell HqN.out) ?_; exact hK _ H)
          · (intro E val hn T ds w K H hk ho hK); (skip); (clear ho; simp [know, dstAt, Region.binds] at hk)
            (go_simp; exact hK _ H)
          · (intro E val hn T ds w K H hk ho hK); (skip); (clear ho; simp [know, dstAt, Region.binds] at hk)
            (go_simp; exact hK _ H)
          · (intro E val hn T ds w K H hk ho hK); ((have o5 := ho 5 (by kernel_rfl))); (clear ho; simp [know, dstAt, Region.binds] at hk o5)
            (go_simp; exact hK _ H)
          · (intro E val hn T ds w K H hk ho hK); ((have o6 := ho 6 (by kernel_rfl))); (clear ho; simp [know, dstAt, Region.binds] at hk o6)
            (go_simp; exact hK _ H)
          · (intro E val hn T ds w K H hk ho hK); (skip); (clear ho; simp [know, dstAt, Region.binds] at hk)
            (go_simp; exact hK _ H)
          · (intro E val hn T ds w K H hk ho hK); (skip); (clear ho; simp [know, dstAt, Region.binds] at hk)
            (go_simp; exact hK _ H)
          · (intro E val hn T ds w K H hk ho hK); (skip); (clear ho; simp [know, dstAt, Region.binds] at hk)
            first | (refine op_cellsT (vs := [.int .i64 a1, .int .i64 a2, .int .i64 a3, .int .i64 a4, .int .i64 xk, .int .i64 xcl, .int .i64 xop, .string xnm, .int .i64 xf1, .int .i64 xf2, .int .i64 xn1, .int .i64 xn2, .int .i64 xsz, .bool pd]) rfl hk.1 a69 s69 (fun j u hj => (H.ext 2 rfl).cell (by have := HcI.out j u hj; rwa [← Addr.add_add, ← Addr.add_add] at this)) ?_; exact hK _ H) | (refine op_cellsT (vs := [.int .i64 a1, .int .i64 a2, .int .i64 a3, .int .i64 a4, .int .i64 xk, .int .i64 xcl, .int .i64 xop, .string xnm, .int .i64 xf1, .int .i64 xf2, .int .i64 xn1, .int .i64 xn2, .int .i64 xsz, .bool pd]) rfl hk.1 a69 s69 (fun j u hj => (H.ext 2 rfl).cell (by have := HqI.out j u hj; rw [Addr.add_lit, Nat.add_assoc]; exact this)) ?_; exact hK _ H)
          · (intro E val hn T ds w K H hk ho hK); ((have o3 := ho 3 (by kernel_rfl))); (clear ho; simp [know, dstAt, Region.binds] at hk o3)
            (go_simp; exact hK _ H)
          · (intro E val hn T ds w K H hk ho hK); (skip); (clear ho; simp [know, dstAt, Region.binds] at hk)
            first | (refine op_loadT (v := .slice (some b) h.row.length cap) rfl hk.1 (by kernel_rfl) H 0 rfl rfl ?_; exact hK _ H) | (refine op_load1T rfl hk.1 (by kernel_rfl) ((H.ext 2 rfl).cell HcN.out) ?_; exact hK _ H) | (refine op_load1T rfl hk.1 (by kernel_rfl) ((H.ext 2 rfl).cell HqN.out) ?_; exact hK _ H)
          · (intro E val hn T ds w K H hk ho hK); ((have o6 := ho 6 (by kernel_rfl))); (clear ho; simp [know, dstAt, Region.binds] at hk o6)
            (go_simp; exact hK _ H)
          · (intro E val hn T ds w K H hk ho hK); (skip); (clear ho; simp [know, dstAt, Region.binds] at hk)
            (go_simp; exact hK _ H)
          · (intro E val hn T ds w K H hk ho hK); (skip); (clear ho; simp [know, dstAt, Region.binds] at hk)
            (go_simp; exact hK _ H)
          · (intro E val hn T ds w K H hk ho hK); (skip); (clear ho; simp [know, dstAt, Region.binds] at hk)
            first | (refine op_cellsT (vs := [.int .i64 a1, .int .i64 a2, .int .i64 a3, .int .i64 a4, .int .i64 xk, .int .i64 xcl, .int .i64 xop, .string xnm, .int .i64 xf1, .int .i64 xf2, .int .i64 xn1, .int .i64 xn2, .int .i64 xsz, .bool pd]) rfl hk.1 a69 s69 (fun j u hj => (H.ext 2 rfl).cell (by have := HcI.out j u hj; rwa [← Addr.add_add, ← Addr.add_add] at this)) ?_; exact hK _ H) | (refine op_cellsT (vs := [.int .i64 a1, .int .i64 a2, .int .i64 a3, .int .i64 a4, .int .i64 xk, .int .i64 xcl, .int .i64 xop, .string xnm, .int .i64 xf1, .int .i64 xf2, .int .i64 xn1, .int .i64 xn2, .int .i64 xsz, .bool pd]) rfl hk.1 a69 s69 (fun j u hj => (H.ext 2 rfl).cell (by have := HqI.out j u hj; rw [Addr.add_lit, Nat.add_assoc]; exact this)) ?_; exact hK _ H)
          · (intro E val hn T ds w K H hk ho hK); (skip); (clear ho; simp [know, dstAt, Region.binds] at hk)
            (go_simp; exact hK _ H)
          · (intro E val hn T ds w K H hk ho hK); (skip); (clear ho; simp [know, dstAt, Region.binds] at hk)
            (go_simp; exact hK _ H)
          · (intro E val hn T ds w K H hk ho hK); (skip); (clear ho; simp [know, dstAt, Region.binds] at hk)
            (go_simp; exact hK _ H)
          · (intro E val hn T ds w K H hk ho hK); (skip); (clear ho; simp [know, dstAt, Region.binds] at hk)
            (go_simp; exact hK _ H)
          · (intro E val hn T ds w K H hk ho hK); ((have o6 := ho 6 (by kernel_rfl))); (clear ho; simp [know, dstAt, Region.binds] at hk o6)
            (go_simp; exact hK _ H)
          · (intro E val hn T ds w K H hk ho hK); ((have o3 := ho 3 (by kernel_rfl))); (clear ho; simp [know, dstAt, Region.binds] at hk o3)
            (go_simp; exact hK _ H)
          · (intro E val hn T ds w K H hk ho hK); (skip); (clear ho; simp [know, dstAt, Region.binds] at hk)
            first | (refine op_loadT (v := .slice (some b) h.row.length cap) rfl hk.1 (by kernel_rfl) H 0 rfl rfl ?_; exact hK _ H) | (refine op_load1T rfl hk.1 (by kernel_rfl) ((H.ext 2 rfl).cell HcN.out) ?_; exact hK _ H) | (refine op_load1T rfl hk.1 (by kernel_rfl) ((H.ext 2 rfl).cell HqN.out) ?_; exact hK _ H)
          · (intro E val hn T ds w K H hk ho hK); (skip); (clear ho; simp [know, dstAt, Region.binds] at hk)
            (go_simp; exact hK _ H)
          · (intro E val hn T ds w K H hk ho hK); (skip); (clear ho; simp [know, dstAt, Region.binds] at hk)
            (go_simp; exact hK _ H)
          · (intro E val hn T ds w K H hk ho hK); (skip); (clear ho; simp [know, dstAt, Region.binds] at hk)
            (go_simp; exact hK _ H)
          · (intro E val hn T ds w K H hk ho hK); (skip); (clear ho; simp [know, dstAt, Region.binds] at hk)
            (go_simp; exact hK _ H)
          · (intro E val hn T ds w K H hk ho hK); (skip); (clear ho; simp [know, dstAt, Region.binds] at hk)
            (go_simp; exact hK _ H)
        case ins =>
          exact ⟨ins_pl (i := 0) rfl (fun val val' h => rfl), ins_pl (i := 1) rfl (fun val val' h => rfl), ins_pl (i := 2) rfl (fun val val' h => rfl), ins_pl (i := 3) rfl (fun val val' h => rfl), ins_pl (i := 4) rfl (fun val val' h => rfl), ins_pl (i := 5) rfl (fun val val' h => rfl), ins_pl (i := 6) rfl (fun val val' h => rfl), ins_pl (i := 7) rfl (fun val val' h => rfl), ins_pl (i := 8) rfl (fun val val' h => rfl), ins_pl (i := 9) rfl (fun val val' h => rfl), ins_pl (i := 10) rfl (fun val val' h => rfl), ins_pl (i := 11) rfl (fun val val' h => rfl), ins_pl (i := 12) rfl (fun val val' h => rfl), ins_pl (i := 13) rfl (fun val val' h => rfl), ins_pl (i := 14) rfl (fun val val' h => rfl), ins_pl (i := 15) rfl (fun val val' h => rfl), ins_pl (i := 16) rfl (fun val val' h => rfl), ins_pl (i := 17) rfl (fun val val' h => rfl), ins_pl (i := 18) rfl (fun val val' h => rfl), ins_pl (i := 19) rfl (fun val val' h => rfl), ins_pl (i := 20) rfl (fun val val' h => rfl), ins_pl (i := 21) rfl (fun val val' h => rfl), ins_pl (i := 22) rfl (fun val val' h => rfl), ins_pl (i := 23) rfl (fun val val' h => rfl), ins_pl (i := 24) rfl (fun val val' h => rfl), ins_pl (i := 25) rfl (fun val val' h => rfl), ins_pl (i := 26) rfl (fun val val' h => rfl), ins_pl (i := 27) rfl (fun val val' h => rfl), ins_pl (i := 28) rfl (fun val val' h => rfl), ins_pl (i := 29) rfl (fun val val' h => rfl), ins_pl (i := 30) rfl (fun val val' h => rfl), ins_pl (i := 31) rfl (fun val val' h => rfl), ins_pl (i := 32) rfl (fun val val' h => rfl), ins_pl (i := 33) rfl (fun val val' h => rfl), ins_pl (i := 34) rfl (fun val val' h => rfl), ins_pl (i := 35) rfl (fun val val' h => rfl), ins_pl (i := 36) rfl (fun val val' h => rfl), ins_pl (i := 37) rfl (fun val val' h => rfl), ins_pl (i := 38) rfl (fun val val' h => rfl), ins_pl (i := 39) rfl (fun val val' h => rfl), ins_pl (i := 40) rfl (fun val val' h => rfl), ins_pl (i := 41) rfl (fun val val' h => rfl), ins_pl (i := 42) rfl (fun val val' h => rfl), ins_pl (i := 43) rfl (fun val val' h => rfl), ins_pl (i := 44) rfl (fun val val' h => rfl), ins_pl (i := 45) rfl (fun val val' h => rfl), ins_pl (i := 46) rfl (fun val val' h => rfl), ins_pl (i := 47) rfl (fun val val' h => rfl), ins_pl (i := 48) rfl (fun val val' h => rfl), ins_pl (i := 49) rfl (fun val val' h => rfl), trivial⟩
        case jns =>
          exact ⟨j_pl (i := 0) (fun _ _ _ => rfl), j_pl (i := 1) (fun _ _ _ => rfl), j_pl (i := 2) (fun _ _ _ => rfl), j_pl (i := 3) (fun _ _ _ => rfl), j_pl (i := 4) (fun _ _ _ => rfl), j_pl (i := 5) (fun _ _ _ => rfl), j_pl (i := 6) (fun _ _ _ => rfl), j_pl (i := 7) (fun _ _ _ => rfl), j_pl (i := 8) (fun _ _ _ => rfl), j_pl (i := 9) (fun _ _ _ => rfl), j_pl (i := 10) (fun _ _ _ => rfl), j_pl (i := 11) (fun _ _ _ => rfl), j_pl (i := 12) (fun _ _ _ => rfl), j_pl (i := 13) (fun _ _ _ => rfl), j_pl (i := 14) (fun _ _ _ => rfl), j_pl (i := 15) (fun _ _ _ => rfl), j_pl (i := 16) (fun _ _ _ => rfl), j_pl (i := 17) (fun _ _ _ => rfl), j_pl (i := 18) (fun _ _ _ => rfl), j_pl (i := 19) (fun _ _ _ => rfl), j_pl (i := 20) (fun _ _ _ => rfl), j_pl (i := 21) (fun _ _ _ => rfl), j_pl (i := 22) (fun _ _ _ => rfl), j_pl (i := 23) (fun _ _ _ => rfl), j_pl (i := 24) (fun _ _ _ => rfl), j_pl (i := 25) (fun _ _ _ => rfl), j_pl (i := 26) (fun _ _ _ => rfl), j_pl (i := 27) (fun _ _ _ => rfl), j_pl (i := 28) (fun _ _ _ => rfl), j_pl (i := 29) (fun _ _ _ => rfl), j_pl (i := 30) (fun _ _ _ => rfl), j_pl (i := 31) (fun _ _ _ => rfl), j_pl (i := 32) (fun _ _ _ => rfl), j_pl (i := 33) (fun _ _ _ => rfl), j_pl (i := 34) (fun _ _ _ => rfl), j_pl (i := 35) (fun _ _ _ => rfl), j_pl (i := 36) (fun _ _ _ => rfl), j_pl (i := 37) (fun _ _ _ => rfl), j_pl (i := 38) (fun _ _ _ => rfl), j_pl (i := 39) (fun _ _ _ => rfl), j_pl (i := 40) (fun _ _ _ => rfl), j_pl (i := 41) (fun _ _ _ => rfl), j_pl (i := 42) (fun _ _ _ => rfl), j_pl (i := 43) (fun _ _ _ => rfl), j_pl (i := 44) (fun _ _ _ => rfl), j_pl (i := 45) (fun _ _ _ => rfl), j_pl (i := 46) (fun _ _ _ => rfl), j_pl (i := 47) (fun _ _ _ => rfl), j_pl (i := 48) (fun _ _ _ => rfl), j_pl (i := 49) (fun _ _ _ => rfl), trivial⟩
        case fin =>
          intro E val w5 hE H
          clear HF hE
          have HF := H
          clear H
          simp [putAll, Act.put]
          go_wp2_with fail
          go_roundw
          case rel => exact ⟨k + 1, by have := Hlt.out; omega, rfl, HF⟩
          case measure => have := Hlt.out; simp [intOf]; omega
      · have g1x : ¬ (k : Int) < h.row.length := by omega
        have g1y : (h.row.length : Int) ≤ k := by omega
        obtain ⟨k', hk'⟩ : ∃ k' : Nat, k = h.row.length + k' := ⟨k - h.row.length, by omega⟩
        have HqM := Lib.hid (fun j u (hj : (mkP (k : Int))[j]? = some u) => (show W.cell? ⟨gr, k * 15 + j, none⟩ = some u by
          have := P2.out k' (by omega) j u (by rw [show ((h.row.length : Int) + (k' : Int)) = (k : Int) by omega]; exact hj)
          rw [Addr.add_lit, ← hk'] at this
          exact this))
        have hwk : IntKind.i64.wrap (-(k : Int)) = -(k : Int) := IntWalk.i64_in _ (by omega)
        have hz := run_neq_self fPlace a86 (mkP_fits (k : Int))
        simp only [mkP] at hz
        have Hk := Lib.hid hk
        have Hrl := Lib.hid hrl
        have Hlt := Lib.hid hlt
        have hinn : h.row.length ≤ k := by omega
        clear hk' hk hrl hlt HV FB FE FL P1 P2 Hv C3 Hok C12 Bd Be Bl
        go_wp2_with (first | ((with_reducible refine k_load ?_); refine st_load rfl _ _ rfl _ _ rfl ?_ HF 0 rfl rfl ?_; (kernel_rfl); (intro K hK; go_simp)) | ((with_reducible refine k_load ?_); refine st_load rfl _ _ rfl _ _ rfl ?_ HF 1 rfl rfl ?_; (kernel_rfl); (intro K hK; go_simp)))
        apply wp_region_eff [] (fun i => (#[[], [], [], [], [], [], [], [], [], [], [], [], [], [], [], [], [], [], [], [], [], [], [], [], [], [], [], [], [], [], [], [], [], [], [], [], [], [], [], [], [], [], [], [], [], [], [], [], [], []] : Array (List Nat)).getD i []) (fun val i => (([.int .i64 (k : Int), .pointer (some ⟨g3, 6, none⟩), .slice ad h.row.length cap, .int .i64 (h.row.length : Int), .bool false, .bool false, undef, undef, undef, undef, undef, undef, undef, undef, undef, undef, undef, undef, undef, undef, undef, undef, undef, undef, undef, undef, undef, undef, undef, undef, undef, undef, .bool false, .bool false, .int .i64 (k : Int), .pointer (some ⟨g3, 6, none⟩), .slice ad h.row.length cap, .int .i64 (h.row.length : Int), .bool true, .bool true, .slice (some ⟨gr, 0, none⟩) (h.row.length + 67) (h.row.length + 67), .int .i64 (k : Int), .pointer (some ⟨gr, k * 15, none⟩), .agg #[.int .i64 (-(k : Int)), .int .i64 0, .int .i64 0, .int .i64 0, .int .i64 0, .int .i64 0, .int .i64 0, .int .i64 0, .string ⟨#[]⟩, .int .i64 0, .int .i64 0, .int .i64 0, .int .i64 0, .int .i64 0, .bool false], .int .i64 (k : Int), .int .i64 (-(k : Int)), .agg #[.int .i64 (-(k : Int)), .int .i64 0, .int .i64 0, .int .i64 0, .int .i64 0, .int .i64 0, .int .i64 0, .int .i64 0, .string ⟨#[]⟩, .int .i64 0, .int .i64 0, .int .i64 0, .int .i64 0, .int .i64 0, .bool false], .bool false, .bool false, .bool false]) : List Value).toArray.getD i undef) (fun E val => At W (Blk g3 (.cells #[.int .i64 h.sn, .int .i64 h.sc, vd, .int .i64 h.upto, ve, vl, .slice ad h.row.length cap] 44 (0, 0)) :: Blk g2 (.cells #[.int .i64 h.sn, .int .i64 h.sc, .slice (some ⟨gd, 0, none⟩) h.data.length (h.data.length + 67), .int .i64 h.upto, .slice (some ⟨ge, 0, none⟩) h.ents.length (h.ents.length + 67), .slice (some ⟨gl, 0, none⟩) h.lasts.length (h.lasts.length + 67), .slice (some ⟨gr, 0, none⟩) h.row.length (h.row.length + 67)] 49 (0, 0)) :: Arg W :: [])) (by kernel_rfl) (by kernel_rfl) (by kernel_rfl) (by kernel_rfl) (HF)
        case step =>
          refine ⟨eff_pl (i := 0) rfl (fun _ => by rfl) ?_, eff_pl (i := 1) rfl (fun _ => by rfl) ?_, eff_pl (i := 2) rfl (fun _ => by rfl) ?_, eff_pl (i := 3) rfl (fun _ => by rfl) ?_, eff_pl (i := 4) rfl (fun _ => by rfl) ?_, eff_pl (i := 5) rfl (fun _ => by rfl) ?_, eff_no (i := 6) rfl (fun _ => by rfl) (fun _ => rfl), eff_no (i := 7) rfl (fun _ => by rfl) (fun _ => rfl), eff_no (i := 8) rfl (fun _ => by rfl) (fun _ => rfl), eff_no (i := 9) rfl (fun _ => by rfl) (fun _ => rfl), eff_no (i := 10) rfl (fun _ => by rfl) (fun _ => rfl), eff_no (i := 11) rfl (fun _ => by rfl) (fun _ => rfl), eff_no (i := 12) rfl (fun _ => by rfl) (fun _ => rfl), eff_no (i := 13) rfl (fun _ => by rfl) (fun _ => rfl), eff_no (i := 14) rfl (fun _ => by rfl) (fun _ => rfl), eff_no (i := 15) rfl (fun _ => by rfl) (fun _ => rfl), eff_no (i := 16) rfl (fun _ => by rfl) (fun _ => rfl), eff_no (i := 17) rfl (fun _ => by rfl) (fun _ => rfl), eff_no (i := 18) rfl (fun _ => by rfl) (fun _ => rfl), eff_no (i := 19) rfl (fun _ => by rfl) (fun _ => rfl), eff_no (i := 20) rfl (fun _ => by rfl) (fun _ => rfl), eff_no (i := 21) rfl (fun _ => by rfl) (fun _ => rfl), eff_no (i := 22) rfl (fun _ => by rfl) (fun _ => rfl), eff_no (i := 23) rfl (fun _ => by rfl) (fun _ => rfl), eff_no (i := 24) rfl (fun _ => by rfl) (fun _ => rfl), eff_no (i := 25) rfl (fun _ => by rfl) (fun _ => rfl), eff_no (i := 26) rfl (fun _ => by rfl) (fun _ => rfl), eff_no (i := 27) rfl (fun _ => by rfl) (fun _ => rfl), eff_no (i := 28) rfl (fun _ => by rfl) (fun _ => rfl), eff_no (i := 29) rfl (fun _ => by rfl) (fun _ => rfl), eff_no (i := 30) rfl (fun _ => by rfl) (fun _ => rfl), eff_no (i := 31) rfl (fun _ => by rfl) (fun _ => rfl), eff_pl (i := 32) rfl (fun _ => by rfl) ?_, eff_pl (i := 33) rfl (fun _ => by rfl) ?_, eff_pl (i := 34) rfl (fun _ => by rfl) ?_, eff_pl (i := 35) rfl (fun _ => by rfl) ?_, eff_pl (i := 36) rfl (fun _ => by rfl) ?_, eff_pl (i := 37) rfl (fun _ => by rfl) ?_, eff_pl (i := 38) rfl (fun _ => by rfl) ?_, eff_pl (i := 39) rfl (fun _ => by rfl) ?_, eff_pl (i := 40) rfl (fun _ => by rfl) ?_, eff_pl (i := 41) rfl (fun _ => by rfl) ?_, eff_pl (i := 42) rfl (fun _ => by rfl) ?_, eff_pl (i := 43) rfl (fun _ => by rfl) ?_, eff_pl (i := 44) rfl (fun _ => by rfl) ?_, eff_pl (i := 45) rfl (fun _ => by rfl) ?_, eff_pl (i := 46) rfl (fun _ => by rfl) ?_, eff_pl (i := 47) rfl (fun _ => by rfl) ?_, eff_pl (i := 48) rfl (fun _ => by rfl) ?_, eff_pl (i := 49) rfl (fun _ => by rfl) ?_, trivial⟩
          · (intro E val hn T ds w K H hk ho hK); ((have o6 := ho 6 (by kernel_rfl))); (clear ho; simp [know, dstAt, Region.binds] at hk o6)
            (go_simp; exact hK _ H)
          · (intro E val hn T ds w K H hk ho hK); ((have o3 := ho 3 (by kernel_rfl))); (clear ho; simp [know, dstAt, Region.binds] at hk o3)
            (go_simp; exact hK _ H)
          · (intro E val hn T ds w K H hk ho hK); (skip); (clear ho; simp [know, dstAt, Region.binds] at hk)
            (refine op_loadT (v := .slice ad h.row.length cap) rfl hk (by kernel_rfl) H 0 rfl rfl ?_; exact hK _ H)
          · (intro E val hn T ds w K H hk ho hK); (skip); (clear ho; simp [know, dstAt, Region.binds] at hk)
            (go_simp; exact hK _ H)
          · (intro E val hn T ds w K H hk ho hK); (skip); (clear ho; simp [know, dstAt, Region.binds] at hk)
            (go_simp; exact hK _ H)
          · (intro E val hn T ds w K H hk ho hK); (skip); (clear ho; simp [know, dstAt, Region.binds] at hk)
            (go_simp; exact hK _ H)
          · (intro E val hn T ds w K H hk ho hK); (skip); (clear ho; simp [know, dstAt, Region.binds] at hk)
            (go_simp; exact hK _ H)
          · (intro E val hn T ds w K H hk ho hK); (skip); (clear ho; simp [know, dstAt, Region.binds] at hk)
            (go_simp; exact hK _ H)
          · (intro E val hn T ds w K H hk ho hK); ((have o6 := ho 6 (by kernel_rfl))); (clear ho; simp [know, dstAt, Region.binds] at hk o6)
            (go_simp; exact hK _ H)
          · (intro E val hn T ds w K H hk ho hK); ((have o3 := ho 3 (by kernel_rfl))); (clear ho; simp [know, dstAt, Region.binds] at hk o3)
            (go_simp; exact hK _ H)
          · (intro E val hn T ds w K H hk ho hK); (skip); (clear ho; simp [know, dstAt, Region.binds] at hk)
            (refine op_loadT (v := .slice ad h.row.length cap) rfl hk.1 (by kernel_rfl) H 0 rfl rfl ?_; exact hK _ H)
          · (intro E val hn T ds w K H hk ho hK); (skip); (clear ho; simp [know, dstAt, Region.binds] at hk)
            (go_simp; exact hK _ H)
          · (intro E val hn T ds w K H hk ho hK); (skip); (clear ho; simp [know, dstAt, Region.binds] at hk)
            (go_simp; exact hK _ H)
          · (intro E val hn T ds w K H hk ho hK); (skip); (clear ho; simp [know, dstAt, Region.binds] at hk)
            (go_simp; exact hK _ H)
          · (intro E val hn T ds w K H hk ho hK); ((have o5 := ho 5 (by kernel_rfl))); (clear ho; simp [know, dstAt, Region.binds] at hk o5)
            (go_simp; exact hK _ H)
          · (intro E val hn T ds w K H hk ho hK); ((have o6 := ho 6 (by kernel_rfl))); (clear ho; simp [know, dstAt, Region.binds] at hk o6)
            (go_simp; exact hK _ H)
          · (intro E val hn T ds w K H hk ho hK); (skip); (clear ho; simp [know, dstAt, Region.binds] at hk)
            (go_simp; exact hK _ H)
          · (intro E val hn T ds w K H hk ho hK); (skip); (clear ho; simp [know, dstAt, Region.binds] at hk)
            (refine op_cellsT (vs := [.int .i64 (-(k : Int)), .int .i64 0, .int .i64 0, .int .i64 0, .int .i64 0, .int .i64 0, .int .i64 0, .int .i64 0, .string ⟨#[]⟩, .int .i64 0, .int .i64 0, .int .i64 0, .int .i64 0, .int .i64 0, .bool false]) rfl hk.1 a86 s86 (fun j u hj => (H.ext 2 rfl).cell (by rw [Addr.add_lit]; exact HqM.out j u hj)) ?_; exact hK _ H)
          · (intro E val hn T ds w K H hk ho hK); ((have o6 := ho 6 (by kernel_rfl))); (clear ho; simp [know, dstAt, Region.binds] at hk o6)
            (go_simp; exact hK _ H)
          · (intro E val hn T ds w K H hk ho hK); (skip); (clear ho; simp [know, dstAt, Region.binds] at hk)
            (go_simp; exact hK _ H)
          · (intro E val hn T ds w K H hk ho hK); (skip); (clear ho; simp [know, dstAt, Region.binds] at hk)
            (go_simp; exact hK _ H)
          · (intro E val hn T ds w K H hk ho hK); (skip); (clear ho; simp [know, dstAt, Region.binds] at hk)
            (go_simp; exact hK _ H)
          · (intro E val hn T ds w K H hk ho hK); (skip); (clear ho; simp [know, dstAt, Region.binds] at hk)
            (go_simp; exact hK _ H)
          · (intro E val hn T ds w K H hk ho hK); (skip); (clear ho; simp [know, dstAt, Region.binds] at hk)
            (go_simp; exact hK _ H)
        case ins =>
          exact ⟨ins_pl (i := 0) rfl (fun val val' h => rfl), ins_pl (i := 1) rfl (fun val val' h => rfl), ins_pl (i := 2) rfl (fun val val' h => rfl), ins_pl (i := 3) rfl (fun val val' h => rfl), ins_pl (i := 4) rfl (fun val val' h => rfl), ins_pl (i := 5) rfl (fun val val' h => rfl), ins_pl (i := 6) rfl (fun val val' h => rfl), ins_pl (i := 7) rfl (fun val val' h => rfl), ins_pl (i := 8) rfl (fun val val' h => rfl), ins_pl (i := 9) rfl (fun val val' h => rfl), ins_pl (i := 10) rfl (fun val val' h => rfl), ins_pl (i := 11) rfl (fun val val' h => rfl), ins_pl (i := 12) rfl (fun val val' h => rfl), ins_pl (i := 13) rfl (fun val val' h => rfl), ins_pl (i := 14) rfl (fun val val' h => rfl), ins_pl (i := 15) rfl (fun val val' h => rfl), ins_pl (i := 16) rfl (fun val val' h => rfl), ins_pl (i := 17) rfl (fun val val' h => rfl), ins_pl (i := 18) rfl (fun val val' h => rfl), ins_pl (i := 19) rfl (fun val val' h => rfl), ins_pl (i := 20) rfl (fun val val' h => rfl), ins_pl (i := 21) rfl (fun val val' h => rfl), ins_pl (i := 22) rfl (fun val val' h => rfl), ins_pl (i := 23) rfl (fun val val' h => rfl), ins_pl (i := 24) rfl (fun val val' h => rfl), ins_pl (i := 25) rfl (fun val val' h => rfl), ins_pl (i := 26) rfl (fun val val' h => rfl), ins_pl (i := 27) rfl (fun val val' h => rfl), ins_pl (i := 28) rfl (fun val val' h => rfl), ins_pl (i := 29) rfl (fun val val' h => rfl), ins_pl (i := 30) rfl (fun val val' h => rfl), ins_pl (i := 31) rfl (fun val val' h => rfl), ins_pl (i := 32) rfl (fun val val' h => rfl), ins_pl (i := 33) rfl (fun val val' h => rfl), ins_pl (i := 34) rfl (fun val val' h => rfl), ins_pl (i := 35) rfl (fun val val' h => rfl), ins_pl (i := 36) rfl (fun val val' h => rfl), ins_pl (i := 37) rfl (fun val val' h => rfl), ins_pl (i := 38) rfl (fun val val' h => rfl), ins_pl (i := 39) rfl (fun val val' h => rfl), ins_pl (i := 40) rfl (fun val val' h => rfl), ins_pl (i := 41) rfl (fun val val' h => rfl), ins_pl (i := 42) rfl (fun val val' h => rfl), ins_pl (i := 43) rfl (fun val val' h => rfl), ins_pl (i := 44) rfl (fun val val' h => rfl), ins_pl (i := 45) rfl (fun val val' h => rfl), ins_pl (i := 46) rfl (fun val val' h => rfl), ins_pl (i := 47) rfl (fun val val' h => rfl), ins_pl (i := 48) rfl (fun val val' h => rfl), ins_pl (i := 49) rfl (fun val val' h => rfl), trivial⟩
        case jns =>
          exact ⟨j_pl (i := 0) (fun _ _ _ => rfl), j_pl (i := 1) (fun _ _ _ => rfl), j_pl (i := 2) (fun _ _ _ => rfl), j_pl (i := 3) (fun _ _ _ => rfl), j_pl (i := 4) (fun _ _ _ => rfl), j_pl (i := 5) (fun _ _ _ => rfl), j_pl (i := 6) (fun _ _ _ => rfl), j_pl (i := 7) (fun _ _ _ => rfl), j_pl (i := 8) (fun _ _ _ => rfl), j_pl (i := 9) (fun _ _ _ => rfl), j_pl (i := 10) (fun _ _ _ => rfl), j_pl (i := 11) (fun _ _ _ => rfl), j_pl (i := 12) (fun _ _ _ => rfl), j_pl (i := 13) (fun _ _ _ => rfl), j_pl (i := 14) (fun _ _ _ => rfl), j_pl (i := 15) (fun _ _ _ => rfl), j_pl (i := 16) (fun _ _ _ => rfl), j_pl (i := 17) (fun _ _ _ => rfl), j_pl (i := 18) (fun _ _ _ => rfl), j_pl (i := 19) (fun _ _ _ => rfl), j_pl (i := 20) (fun _ _ _ => rfl), j_pl (i := 21) (fun _ _ _ => rfl), j_pl (i := 22) (fun _ _ _ => rfl), j_pl (i := 23) (fun _ _ _ => rfl), j_pl (i := 24) (fun _ _ _ => rfl), j_pl (i := 25) (fun _ _ _ => rfl), j_pl (i := 26) (fun _ _ _ => rfl), j_pl (i := 27) (fun _ _ _ => rfl), j_pl (i := 28) (fun _ _ _ => rfl), j_pl (i := 29) (fun _ _ _ => rfl), j_pl (i := 30) (fun _ _ _ => rfl), j_pl (i := 31) (fun _ _ _ => rfl), j_pl (i := 32) (fun _ _ _ => rfl), j_pl (i := 33) (fun _ _ _ => rfl), j_pl (i := 34) (fun _ _ _ => rfl), j_pl (i := 35) (fun _ _ _ => rfl), j_pl (i := 36) (fun _ _ _ => rfl), j_pl (i := 37) (fun _ _ _ => rfl), j_pl (i := 38) (fun _ _ _ => rfl), j_pl (i := 39) (fun _ _ _ => rfl), j_pl (i := 40) (fun _ _ _ => rfl), j_pl (i := 41) (fun _ _ _ => rfl), j_pl (i := 42) (fun _ _ _ => rfl), j_pl (i := 43) (fun _ _ _ => rfl), j_pl (i := 44) (fun _ _ _ => rfl), j_pl (i := 45) (fun _ _ _ => rfl), j_pl (i := 46) (fun _ _ _ => rfl), j_pl (i := 47) (fun _ _ _ => rfl), j_pl (i := 48) (fun _ _ _ => rfl), j_pl (i := 49) (fun _ _ _ => rfl), trivial⟩
        case fin =>
          intro E val w5 hE H
          clear HF hE
          have HF := H
          clear H
          simp [putAll, Act.put]
          go_wp2_with fail
          go_roundw
          case rel => exact ⟨k + 1, by have := Hlt.out; omega, rfl, HF⟩
          case measure => have := Hlt.out; simp [intOf]; omega
    · have hk2 : k = h.row.length + 67 := by omega
      subst hk2
      have hno : ¬ (h.row.length : Int) + 67 < (h.row.length : Int) + 67 := by omega
      go_wp2_with (first | ((with_reducible refine k_load ?_); refine st_load rfl _ _ rfl _ _ rfl ?_ HF 0 rfl rfl ?_; (kernel_rfl); (intro K hK; go_simp)) | ((with_reducible refine k_load ?_); refine st_load rfl _ _ rfl _ _ rfl ?_ HF 1 rfl rfl ?_; (kernel_rfl); (intro K hK; go_simp)))
      have HX := ((show At W ([_, _] ++ [Arg W]) _ from HF).lift H0.out)
      clear HF
      have HF := HX.sel 6 [1, 2, 3, 4, 5]
      clear HX hno hlt hk
      unfold lentB lentE lentL lentP at HF
      have HlB := Lib.hid (lentB_len h.data)
      have HgB := Lib.hid (fun j (hj : j < h.data.length) => lentB_get hj)
      have HlE := Lib.hid (fillR_len (k := 67) (m := 67) (mk := fun k => mkE ((h.ents.length : Int) + (k : Int))) (z := zE) (flat_len (fun r hr => (Hok.out.ents r hr).len)) (fun i => rfl) rfl (Nat.le_refl _))
      have HlL := Lib.hid (fillR_len (k := 67) (m := 67) (mk := fun k => mkL ((h.lasts.length : Int) + (k : Int))) (z := zL) (flat_len (fun r hr => (Hok.out.lasts r hr).len)) (fun i => rfl) rfl (Nat.le_refl _))
      have HlP := Lib.hid (fillR_len (k := 67) (m := 67) (mk := fun k => mkP (((h.row.map Pl.cells).length : Int) + (k : Int))) (z := zP) (flat_len (cells_len15 Hok.out)) (fun i => rfl) rfl (Nat.le_refl _))
      generalize bv h.data ++ List.replicate 67 (Value.int .u8 201) = cb at *
      generalize fillR h.ents.flatten (fun k => mkE ((h.ents.length : Int) + (k : Int))) zE 67 67 = ce at *
      generalize fillR h.lasts.flatten (fun k => mkL ((h.lasts.length : Int) + (k : Int))) zL 67 67 = cl at *
      generalize fillR (h.row.map Pl.cells).flatten (fun k => mkP (((h.row.map Pl.cells).length : Int) + (k : Int))) zP 67 67 = cp at *
      have hlP : cp.length = (h.row.length + 67) * 15 := by have := HlP.out; rwa [List.length_map] at this
      clear HlP
      go_loopw [7] (fun i wr => ∃ (k : Nat) (c : List Value), k ≤ h.row.length ∧ i = .int .i64 k ∧ c.length = (h.row.length + 67) * 15 ∧ At w0 (Blk g2 (.cells #[.int .i64 h.sn, .int .i64 h.sc, .slice (some ⟨gd, 0, none⟩) h.data.length (h.data.length + 67), .int .i64 h.upto, .slice (some ⟨ge, 0, none⟩) h.ents.length (h.ents.length + 67), .slice (some ⟨gl, 0, none⟩) h.lasts.length (h.lasts.length + 67), .slice (some ⟨gr, 0, none⟩) h.row.length (h.row.length + 67)] 49 (0, 0)) :: Blk gd (.cells cb.toArray 5 (0, 0)) :: Blk ge (.cells ce.toArray 101 (0, 0)) :: Blk gl (.cells cl.toArray 104 (0, 0)) :: Blk gr (.cells c.toArray 86 (0, 0)) :: L) wr) (fun i _ => h.row.length - (intOf i).toNat)
      case atStart => exact ⟨0, _, Nat.zero_le _, rfl, hlP, HF⟩
      case round =>
        clear HF hlP
        obtain ⟨k, c, hk, rfl, hc, HF⟩ := hrel
        by_cases hlt : k < h.row.length
        · have g1x : (k : Int) < h.row.length := by omega
          have Hc := Lib.hid hc
          clear hc
          go_wp2_with (first | ((with_reducible refine k_load ?_); refine st_load rfl _ _ rfl _ _ rfl ?_ HF 0 rfl rfl ?_; (kernel_rfl); (intro K hK; go_simp)) | ((with_reducible refine k_store (T := 86) ?_); refine st_stores rfl _ _ _ rfl _ _ rfl #[.int .i64 7, .int .i64 0, .int .i64 0, .int .i64 0, .int .i64 0, .int .i64 0, .int .i64 0, .int .i64 0, .string ⟨#[]⟩, .int .i64 0, .int .i64 0, .int .i64 0, .int .i64 0, .int .i64 0, .bool true] rfl ?_ s86 HF 4 rfl ?_ ?_; (simp [Value.oneCell']); (have := Hc.out; simp; omega); (clear HF; intro w HF K hK; simp only [List.set_cons_zero, List.set_cons_succ] at HF; go_simp)))
          go_roundw
          case rel => exact ⟨k + 1, _, by omega, rfl, (by have := Hc.out; simp; omega), HF⟩
          case measure => simp [intOf]; omega
        · have g1x : ¬ (k : Int) < h.row.length := by omega
          go_wp2_with (first | ((with_reducible refine k_load ?_); refine st_load rfl _ _ rfl _ _ rfl ?_ HF 0 rfl rfl ?_; (kernel_rfl); (intro K hK; go_simp)))
          have HX := HF.sel 5 [0, 1, 2, 3]
          clear HF hc
          have HF := HX
          clear HX
          go_loopw [8] (fun i wr => ∃ (k : Nat) (c : List Value), k ≤ h.data.length ∧ i = .int .i64 k ∧ (c.length = h.data.length + 67 ∧ ∀ j : Nat, j < h.data.length → ∃ x : Int, c[j]? = some (.int .u8 x)) ∧ At w0 (Blk g2 (.cells #[.int .i64 h.sn, .int .i64 h.sc, .slice (some ⟨gd, 0, none⟩) h.data.length (h.data.length + 67), .int .i64 h.upto, .slice (some ⟨ge, 0, none⟩) h.ents.length (h.ents.length + 67), .slice (some ⟨gl, 0, none⟩) h.lasts.length (h.lasts.length + 67), .slice (some ⟨gr, 0, none⟩) h.row.length (h.row.length + 67)] 49 (0, 0)) :: Blk gd (.cells c.toArray 5 (0, 0)) :: Blk ge (.cells ce.toArray 101 (0, 0)) :: Blk gl (.cells cl.toArray 104 (0, 0)) :: L) wr) (fun i _ => h.data.length - (intOf i).toNat)
          case atStart => exact ⟨0, _, Nat.zero_le _, rfl, ⟨HlB.out, HgB.out⟩, HF⟩
          case round =>
            clear HF
            obtain ⟨k, c, hk, rfl, hc, HF⟩ := hrel
            by_cases hlt : k < h.data.length
            · have hkd : (k : Int) ≤ 140737488355328 := by have := Bd.out; omega
              have g1x : (k : Int) < h.data.length := by omega
              obtain ⟨x, hx⟩ := hc.2 k hlt
              have Hc := Lib.hid hc
              have Hx := Lib.hid hx
              clear hc hx
              go_wp2_with (first | ((with_reducible refine k_load (T := 5) ?_); refine st_load rfl _ _ rfl _ _ rfl ?_ HF 1 rfl (v := .int .u8 x) ?_ ?_; (kernel_rfl); (rw [List.getElem?_toArray]; exact Hx.out); (intro K hK; go_simp)) | ((with_reducible refine k_load ?_); refine st_load rfl _ _ rfl _ _ rfl ?_ HF 0 rfl rfl ?_; (kernel_rfl); (intro K hK; go_simp)) | ((with_reducible refine k_store (T := 5) ?_); refine st_store rfl _ _ _ rfl _ _ rfl _ rfl rfl ?_ HF 1 rfl ?_ ?_; (kernel_rfl); (have := Hc.out.1; simp; omega); (clear HF; intro w HF K hK; simp only [List.set_cons_zero, List.set_cons_succ, List.setIfInBounds_toArray, Act.eval, Value.cells, Array.getD_eq_getD_getElem?, List.getElem?_toArray, List.getElem?_cons_succ, List.getElem?_cons_zero, Option.getD_some] at HF; go_simp)))
              go_roundw
              case rel =>
                refine ⟨k + 1, _, by omega, rfl, ⟨by simp [Hc.out.1], fun j hj => ?_⟩, HF⟩
                by_cases hjk : k = j
                · subst hjk
                  exact ⟨_, List.getElem?_set_self (by have := Hc.out.1; omega)⟩
                · rw [List.getElem?_set_ne hjk]
                  exact Hc.out.2 j hj
              case measure => simp [intOf]; omega
            · have g1x : ¬ (k : Int) < h.data.length := by omega
              go_wp2_with (first | ((with_reducible refine k_load (T := 36) ?_); refine st_row rfl _ _ rfl _ rfl a36 3 s36 HF 0 rfl rfl ?_; (intro K hK; go_simp)) | ((with_reducible refine k_load (T := 36) ?_); refine st_loads rfl _ _ rfl _ _ rfl a36 3 s36 HF 0 rfl ?_ ?_; (simp); (intro K hK; go_simp)) | ((with_reducible refine k_load ?_); refine st_load rfl _ _ rfl _ _ rfl ?_ HF 0 rfl rfl ?_; (kernel_rfl); (intro K hK; go_simp)))
              have HY : At w0 (Blk ge (.cells ce.toArray 101 (0, 0)) :: Blk gl (.cells cl.toArray 104 (0, 0)) :: L) _ := HF.sel 4 [2, 3]
              refine (spoilK (u := h.upto) (n := h.ents.length) (k2 := h.lasts.length) HlE.out HlL.out (by have := Be.out; omega) (by have := Bl.out; omega) HY).mono ?_
              rintro e w7 ⟨rfl, HX⟩
              go_wp2_with fail
              go_ret
              exact ⟨rfl, HX⟩
end
end Md
end Go.Proofs.Ytjobojgmadjmfaa
