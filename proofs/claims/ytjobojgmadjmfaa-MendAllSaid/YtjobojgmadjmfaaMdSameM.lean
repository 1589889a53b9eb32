/-
  The statements' own functions: messages that are the same.
-/
import Derived.Test.YtjobojgmadjmfaaMdBackK
namespace Go.Proofs.Ytjobojgmadjmfaa
open Go.Hp Go.RowKit
set_option linter.unusedVariables false
set_option linter.unusedSimpArgs false
set_option maxRecDepth 100000
set_option maxHeartbeats 4000000
namespace Md
section
variable {w0 w : World} {L : List HProp}

theorem sameM {m : Mg} {vb ve vl vc vb2 ve2 vl2 vc2 : Value} (hm : MgAt w m vb ve vl vc) (hm2 : MgAt w m vb2 ve2 vl2 vc2) (fe : ∀ r ∈ m.ents, Fits entK r) (fl : ∀ r ∈ m.lasts, Fits lastK r) (fc : ∀ r ∈ m.cmds, Fits cmdK r) (be : m.ents.length * 40 ≤ 140737488355328) (bl : m.lasts.length * 56 ≤ 140737488355328) (bc : m.cmds.length * 80 ≤ 140737488355328) (H : At w0 L w) :
    Calls Try.prog 16 #[.agg (mgV m vb ve vl vc), .agg (mgV m vb2 ve2 vl2 vc2)] w (fun e w' => e = .returned (.bool true) ∧ At w0 L w') := by
  obtain ⟨W, rfl⟩ : ∃ W : World, W = w := ⟨_, rfl⟩
  have HF := At.of W
  have H0 := Lib.hid H
  obtain ⟨ac, cap, rfl, c1, c2, c3⟩ := hm.c.value
  obtain ⟨ac2, cap2, rfl, d1, d2, d3⟩ := hm2.c.value
  have R1 := Lib.hid hm
  have R2 := Lib.hid hm2
  have A3 := Lib.hid c3
  have B3 := Lib.hid d3
  have Fe := Lib.hid fe
  have Fl := Lib.hid fl
  have Fc := Lib.hid fc
  have hbb := Lib.hid (show (m.blk == m.blk) = true by simp)
  clear H hm hm2 fe fl fc c3 d3
  simp only [mgV]
  have q1 : ∀ w, (Op.equalIn 10000 23 (.agg #[.bool m.fc, .int .i64 m.fi]) (.agg #[.bool m.fc, .int .i64 m.fi])).run Try.prog w = .ok true w := fun w => run_eq_self 9 (by decide) fAddr a23 (xs := [.bool m.fc, .int .i64 m.fi]) ⟨⟨_, rfl⟩, ⟨_, rfl⟩, trivial⟩
  have q2 : ∀ w, (Op.equalIn 10000 23 (.agg #[.bool m.tc, .int .i64 m.ti]) (.agg #[.bool m.tc, .int .i64 m.ti])).run Try.prog w = .ok true w := fun w => run_eq_self 9 (by decide) fAddr a23 (xs := [.bool m.tc, .int .i64 m.ti]) ⟨⟨_, rfl⟩, ⟨_, rfl⟩, trivial⟩
  have q3 : ∀ w, (Op.equalIn 10000 25 (.agg #[.int .i64 m.kk, .int .i64 m.ka, .int .i64 m.kb, .int .i64 m.kc]) (.agg #[.int .i64 m.kk, .int .i64 m.ka, .int .i64 m.kb, .int .i64 m.kc])).run Try.prog w = .ok true w := fun w => run_eq_self 9 (by decide) fKey a25 (xs := [.int .i64 m.kk, .int .i64 m.ka, .int .i64 m.kb, .int .i64 m.kc]) ⟨⟨_, rfl⟩, ⟨_, rfl⟩, ⟨_, rfl⟩, ⟨_, rfl⟩, trivial⟩
  have q4 : ∀ w, (Op.equalIn 10000 27 (.agg #[.int .i64 m.sn, .int .i64 m.sc]) (.agg #[.int .i64 m.sn, .int .i64 m.sc])).run Try.prog w = .ok true w := fun w => run_eq_self 9 (by decide) fStamp a27 (xs := [.int .i64 m.sn, .int .i64 m.sc]) ⟨⟨_, rfl⟩, ⟨_, rfl⟩, trivial⟩
  have q5 : ∀ w, (Op.equalIn 10000 27 (.agg #[.int .i64 m.hn, .int .i64 m.hc]) (.agg #[.int .i64 m.hn, .int .i64 m.hc])).run Try.prog w = .ok true w := fun w => run_eq_self 9 (by decide) fStamp a27 (xs := [.int .i64 m.hn, .int .i64 m.hc]) ⟨⟨_, rfl⟩, ⟨_, rfl⟩, trivial⟩
  have q6 : ∀ w, (Op.equalIn 10000 32 (.agg #[.int .i64 m.cmd.k, .int .i64 m.cmd.cl, .int .i64 m.cmd.op, .string m.cmd.nm, .int .i64 m.cmd.f1, .int .i64 m.cmd.f2, .int .i64 m.cmd.n1, .int .i64 m.cmd.n2, .int .i64 m.cmd.sz]) (.agg #[.int .i64 m.cmd.k, .int .i64 m.cmd.cl, .int .i64 m.cmd.op, .string m.cmd.nm, .int .i64 m.cmd.f1, .int .i64 m.cmd.f2, .int .i64 m.cmd.n1, .int .i64 m.cmd.n2, .int .i64 m.cmd.sz])).run Try.prog w = .ok true w := fun w => run_eq_self 9 (by decide) fCmd a32 (xs := [.int .i64 m.cmd.k, .int .i64 m.cmd.cl, .int .i64 m.cmd.op, .string m.cmd.nm, .int .i64 m.cmd.f1, .int .i64 m.cmd.f2, .int .i64 m.cmd.n1, .int .i64 m.cmd.n2, .int .i64 m.cmd.sz]) m.cmd.fits
  have tok : True := trivial
  go_enter Try.func16, Try.ntmps16
  go_wp2_with (first | ((with_reducible refine k_box (T := 39) ?_); (have _t := tok); refine st_box rfl _ _ rfl _ rfl HF ?_; (clear HF tok _t; intro g2 w HF K hK; simp only [Value.cells, Act.eval, Value.cells, Array.getD_eq_getD_getElem?, List.getElem?_toArray, List.getElem?_cons_succ, List.getElem?_cons_zero, Option.getD_some] at HF; go_simp)) | ((with_reducible refine k_box (T := 39) ?_); refine st_box rfl _ _ rfl _ rfl HF ?_; (clear HF; intro g3 w HF K hK; simp only [Value.cells, Act.eval, Value.cells, Array.getD_eq_getD_getElem?, List.getElem?_toArray, List.getElem?_cons_succ, List.getElem?_cons_zero, Option.getD_some] at HF; go_simp)) | ((with_reducible refine k_load (T := 23) ?_); (first | refine st_row rfl _ _ rfl _ rfl a23 2 s23 HF 0 rfl rfl ?_ | refine st_row rfl _ _ rfl _ rfl a23 2 s23 HF 1 rfl rfl ?_); (intro K hK; go_simp)) | ((with_reducible refine k_load (T := 23) ?_); (first | refine st_loads rfl _ _ rfl _ _ rfl a23 2 s23 HF 0 rfl ?_ ?_ | refine st_loads rfl _ _ rfl _ _ rfl a23 2 s23 HF 1 rfl ?_ ?_); (simp); (intro K hK; go_simp)) | ((with_reducible refine k_load (T := 25) ?_); (first | refine st_row rfl _ _ rfl _ rfl a25 4 s25 HF 0 rfl rfl ?_ | refine st_row rfl _ _ rfl _ rfl a25 4 s25 HF 1 rfl rfl ?_); (intro K hK; go_simp)) | ((with_reducible refine k_load (T := 25) ?_); (first | refine st_loads rfl _ _ rfl _ _ rfl a25 4 s25 HF 0 rfl ?_ ?_ | refine st_loads rfl _ _ rfl _ _ rfl a25 4 s25 HF 1 rfl ?_ ?_); (simp); (intro K hK; go_simp)) | ((with_reducible refine k_load (T := 27) ?_); (first | refine st_row rfl _ _ rfl _ rfl a27 2 s27 HF 0 rfl rfl ?_ | refine st_row rfl _ _ rfl _ rfl a27 2 s27 HF 1 rfl rfl ?_); (intro K hK; go_simp)) | ((with_reducible refine k_load (T := 27) ?_); (first | refine st_loads rfl _ _ rfl _ _ rfl a27 2 s27 HF 0 rfl ?_ ?_ | refine st_loads rfl _ _ rfl _ _ rfl a27 2 s27 HF 1 rfl ?_ ?_); (simp); (intro K hK; go_simp)) | ((with_reducible refine k_load (T := 32) ?_); (first | refine st_row rfl _ _ rfl _ rfl a32 9 s32 HF 0 rfl rfl ?_ | refine st_row rfl _ _ rfl _ rfl a32 9 s32 HF 1 rfl rfl ?_); (intro K hK; go_simp)) | ((with_reducible refine k_load (T := 32) ?_); (first | refine st_loads rfl _ _ rfl _ _ rfl a32 9 s32 HF 0 rfl ?_ ?_ | refine st_loads rfl _ _ rfl _ _ rfl a32 9 s32 HF 1 rfl ?_ ?_); (simp); (intro K hK; go_simp)) | ((with_reducible refine k_load (T := 36) ?_); (first | refine st_row rfl _ _ rfl _ rfl a36 3 s36 HF 0 rfl rfl ?_ | refine st_row rfl _ _ rfl _ rfl a36 3 s36 HF 1 rfl rfl ?_); (intro K hK; go_simp)) | ((with_reducible refine k_load (T := 36) ?_); (first | refine st_loads rfl _ _ rfl _ _ rfl a36 3 s36 HF 0 rfl ?_ ?_ | refine st_loads rfl _ _ rfl _ _ rfl a36 3 s36 HF 1 rfl ?_ ?_); (simp); (intro K hK; go_simp)) | ((with_reducible refine k_load ?_); (first | refine st_load rfl _ _ rfl _ _ rfl ?_ HF 0 rfl rfl ?_ | refine st_load rfl _ _ rfl _ _ rfl ?_ HF 1 rfl rfl ?_); (kernel_rfl); (intro K hK; go_simp)))
  refine (sameB (R1.out.b.ext (HF.ext 2 rfl)) (R2.out.b.ext (HF.ext 2 rfl)) HF).mono ?_
  rintro e w3 ⟨rfl, HX⟩
  replace HF := HX
  clear HX
  rw [hbb.out]
  go_wp2_with (first | ((with_reducible refine k_load (T := 23) ?_); (first | refine st_row rfl _ _ rfl _ rfl a23 2 s23 HF 0 rfl rfl ?_ | refine st_row rfl _ _ rfl _ rfl a23 2 s23 HF 1 rfl rfl ?_); (intro K hK; go_simp)) | ((with_reducible refine k_load (T := 23) ?_); (first | refine st_loads rfl _ _ rfl _ _ rfl a23 2 s23 HF 0 rfl ?_ ?_ | refine st_loads rfl _ _ rfl _ _ rfl a23 2 s23 HF 1 rfl ?_ ?_); (simp); (intro K hK; go_simp)) | ((with_reducible refine k_load (T := 25) ?_); (first | refine st_row rfl _ _ rfl _ rfl a25 4 s25 HF 0 rfl rfl ?_ | refine st_row rfl _ _ rfl _ rfl a25 4 s25 HF 1 rfl rfl ?_); (intro K hK; go_simp)) | ((with_reducible refine k_load (T := 25) ?_); (first | refine st_loads rfl _ _ rfl _ _ rfl a25 4 s25 HF 0 rfl ?_ ?_ | refine st_loads rfl _ _ rfl _ _ rfl a25 4 s25 HF 1 rfl ?_ ?_); (simp); (intro K hK; go_simp)) | ((with_reducible refine k_load (T := 27) ?_); (first | refine st_row rfl _ _ rfl _ rfl a27 2 s27 HF 0 rfl rfl ?_ | refine st_row rfl _ _ rfl _ rfl a27 2 s27 HF 1 rfl rfl ?_); (intro K hK; go_simp)) | ((with_reducible refine k_load (T := 27) ?_); (first | refine st_loads rfl _ _ rfl _ _ rfl a27 2 s27 HF 0 rfl ?_ ?_ | refine st_loads rfl _ _ rfl _ _ rfl a27 2 s27 HF 1 rfl ?_ ?_); (simp); (intro K hK; go_simp)) | ((with_reducible refine k_load (T := 32) ?_); (first | refine st_row rfl _ _ rfl _ rfl a32 9 s32 HF 0 rfl rfl ?_ | refine st_row rfl _ _ rfl _ rfl a32 9 s32 HF 1 rfl rfl ?_); (intro K hK; go_simp)) | ((with_reducible refine k_load (T := 32) ?_); (first | refine st_loads rfl _ _ rfl _ _ rfl a32 9 s32 HF 0 rfl ?_ ?_ | refine st_loads rfl _ _ rfl _ _ rfl a32 9 s32 HF 1 rfl ?_ ?_); (simp); (intro K hK; go_simp)) | ((with_reducible refine k_load (T := 36) ?_); (first | refine st_row rfl _ _ rfl _ rfl a36 3 s36 HF 0 rfl rfl ?_ | refine st_row rfl _ _ rfl _ rfl a36 3 s36 HF 1 rfl rfl ?_); (intro K hK; go_simp)) | ((with_reducible refine k_load (T := 36) ?_); (first | refine st_loads rfl _ _ rfl _ _ rfl a36 3 s36 HF 0 rfl ?_ ?_ | refine st_loads rfl _ _ rfl _ _ rfl a36 3 s36 HF 1 rfl ?_ ?_); (simp); (intro K hK; go_simp)) | ((with_reducible refine k_load ?_); (first | refine st_load rfl _ _ rfl _ _ rfl ?_ HF 0 rfl rfl ?_ | refine st_load rfl _ _ rfl _ _ rfl ?_ HF 1 rfl rfl ?_); (kernel_rfl); (intro K hK; go_simp)))
  refine (sameK (R1.out.e.ext (HF.ext 2 rfl)) (R1.out.l.ext (HF.ext 2 rfl)) (R2.out.e.ext (HF.ext 2 rfl)) (R2.out.l.ext (HF.ext 2 rfl)) Fe.out Fl.out be bl HF).mono ?_
  rintro e w4 ⟨rfl, HX⟩
  replace HF := HX
  clear HX
  go_wp2_with (first | ((with_reducible refine k_load (T := 23) ?_); (first | refine st_row rfl _ _ rfl _ rfl a23 2 s23 HF 0 rfl rfl ?_ | refine st_row rfl _ _ rfl _ rfl a23 2 s23 HF 1 rfl rfl ?_); (intro K hK; go_simp)) | ((with_reducible refine k_load (T := 23) ?_); (first | refine st_loads rfl _ _ rfl _ _ rfl a23 2 s23 HF 0 rfl ?_ ?_ | refine st_loads rfl _ _ rfl _ _ rfl a23 2 s23 HF 1 rfl ?_ ?_); (simp); (intro K hK; go_simp)) | ((with_reducible refine k_load (T := 25) ?_); (first | refine st_row rfl _ _ rfl _ rfl a25 4 s25 HF 0 rfl rfl ?_ | refine st_row rfl _ _ rfl _ rfl a25 4 s25 HF 1 rfl rfl ?_); (intro K hK; go_simp)) | ((with_reducible refine k_load (T := 25) ?_); (first | refine st_loads rfl _ _ rfl _ _ rfl a25 4 s25 HF 0 rfl ?_ ?_ | refine st_loads rfl _ _ rfl _ _ rfl a25 4 s25 HF 1 rfl ?_ ?_); (simp); (intro K hK; go_simp)) | ((with_reducible refine k_load (T := 27) ?_); (first | refine st_row rfl _ _ rfl _ rfl a27 2 s27 HF 0 rfl rfl ?_ | refine st_row rfl _ _ rfl _ rfl a27 2 s27 HF 1 rfl rfl ?_); (intro K hK; go_simp)) | ((with_reducible refine k_load (T := 27) ?_); (first | refine st_loads rfl _ _ rfl _ _ rfl a27 2 s27 HF 0 rfl ?_ ?_ | refine st_loads rfl _ _ rfl _ _ rfl a27 2 s27 HF 1 rfl ?_ ?_); (simp); (intro K hK; go_simp)) | ((with_reducible refine k_load (T := 32) ?_); (first | refine st_row rfl _ _ rfl _ rfl a32 9 s32 HF 0 rfl rfl ?_ | refine st_row rfl _ _ rfl _ rfl a32 9 s32 HF 1 rfl rfl ?_); (intro K hK; go_simp)) | ((with_reducible refine k_load (T := 32) ?_); (first | refine st_loads rfl _ _ rfl _ _ rfl a32 9 s32 HF 0 rfl ?_ ?_ | refine st_loads rfl _ _ rfl _ _ rfl a32 9 s32 HF 1 rfl ?_ ?_); (simp); (intro K hK; go_simp)) | ((with_reducible refine k_load (T := 36) ?_); (first | refine st_row rfl _ _ rfl _ rfl a36 3 s36 HF 0 rfl rfl ?_ | refine st_row rfl _ _ rfl _ rfl a36 3 s36 HF 1 rfl rfl ?_); (intro K hK; go_simp)) | ((with_reducible refine k_load (T := 36) ?_); (first | refine st_loads rfl _ _ rfl _ _ rfl a36 3 s36 HF 0 rfl ?_ ?_ | refine st_loads rfl _ _ rfl _ _ rfl a36 3 s36 HF 1 rfl ?_ ?_); (simp); (intro K hK; go_simp)) | ((with_reducible refine k_load ?_); (first | refine st_load rfl _ _ rfl _ _ rfl ?_ HF 0 rfl rfl ?_ | refine st_load rfl _ _ rfl _ _ rfl ?_ HF 1 rfl rfl ?_); (kernel_rfl); (intro K hK; go_simp)))
  clear q1 q2 q3 q4 q5 q6
  go_loopw [5] (fun i wr => ∃ k : Nat, k ≤ m.cmds.length ∧ i = .int .i64 k ∧ At W (Blk g3 (.cells #[.int .i64 m.kind, .bool m.fc, .int .i64 m.fi, .bool m.tc, .int .i64 m.ti, .int .i64 m.op, .int .i64 m.rd, .int .i64 m.kk, .int .i64 m.ka, .int .i64 m.kb, .int .i64 m.kc, .int .i64 m.sn, .int .i64 m.sc, .int .i64 m.hn, .int .i64 m.hc, vb2, .int .i64 m.cmd.k, .int .i64 m.cmd.cl, .int .i64 m.cmd.op, .string m.cmd.nm, .int .i64 m.cmd.f1, .int .i64 m.cmd.f2, .int .i64 m.cmd.n1, .int .i64 m.cmd.n2, .int .i64 m.cmd.sz, .int .i64 m.upto, ve2, vl2, .slice ac2 m.cmds.length cap2, .bool m.more] 39 (0, 0)) :: Blk g2 (.cells #[.int .i64 m.kind, .bool m.fc, .int .i64 m.fi, .bool m.tc, .int .i64 m.ti, .int .i64 m.op, .int .i64 m.rd, .int .i64 m.kk, .int .i64 m.ka, .int .i64 m.kb, .int .i64 m.kc, .int .i64 m.sn, .int .i64 m.sc, .int .i64 m.hn, .int .i64 m.hc, vb, .int .i64 m.cmd.k, .int .i64 m.cmd.cl, .int .i64 m.cmd.op, .string m.cmd.nm, .int .i64 m.cmd.f1, .int .i64 m.cmd.f2, .int .i64 m.cmd.n1, .int .i64 m.cmd.n2, .int .i64 m.cmd.sz, .int .i64 m.upto, ve, vl, .slice ac m.cmds.length cap, .bool m.more] 39 (0, 0)) :: Arg W :: []) wr) (fun i _ => m.cmds.length - (intOf i).toNat)
  case atStart => exact ⟨0, Nat.zero_le _, rfl, HF⟩
  case round =>
    clear HF
    obtain ⟨k, hk, rfl, HF⟩ := hrel
    by_cases hlt : k < m.cmds.length
    · have g1 : (k : Int) < m.cmds.length := by omega
      obtain ⟨r, hr⟩ : ∃ r, m.cmds[k]? = some r := ⟨_, List.getElem?_eq_getElem hlt⟩
      have hf := Fc.out r (List.mem_of_getElem? hr)
      have hrl := Lib.hid hf.len
      have hz2 : ∀ w, (Op.equalIn 10000 32 (.agg r.toArray) (.agg r.toArray)).run Try.prog w = .ok true w := fun w => run_eq_self 9 (by decide) fCmd a32 hf
      obtain ⟨b1, rfl⟩ := A3.out (by omega)
      obtain ⟨b2, rfl⟩ := B3.out (by omega)
      have C1 := Lib.hid (fun j u (hj : r[j]? = some u) => (by
        have := R1.out.c.cell rfl hr hj
        rwa [← Addr.add_add] at this : W.cell? ((b1.add (k * 9)).add j) = some u))
      have C2 := Lib.hid (fun j u (hj : r[j]? = some u) => (by
        have := R2.out.c.cell rfl hr hj
        rwa [← Addr.add_add] at this : W.cell? ((b2.add (k * 9)).add j) = some u))
      clear hf hr
      go_wp2_with (first | ((with_reducible refine k_load ?_); (first | refine st_load rfl _ _ rfl _ _ rfl ?_ HF 0 rfl rfl ?_ | refine st_load rfl _ _ rfl _ _ rfl ?_ HF 1 rfl rfl ?_); (kernel_rfl); (intro K hK; go_simp)))
      apply wp_region_eff [] (fun i => (#[[], [], [], [], [], [], [], [], [], [], []] : Array (List Nat)).getD i []) (fun val i => ((_ :: _ :: _ :: _ :: _ :: _ :: _ :: _ :: _ :: _ :: _ :: []) : List Value).toArray.getD i undef) (fun E val => At W (Blk g3 (.cells #[.int .i64 m.kind, .bool m.fc, .int .i64 m.fi, .bool m.tc, .int .i64 m.ti, .int .i64 m.op, .int .i64 m.rd, .int .i64 m.kk, .int .i64 m.ka, .int .i64 m.kb, .int .i64 m.kc, .int .i64 m.sn, .int .i64 m.sc, .int .i64 m.hn, .int .i64 m.hc, vb2, .int .i64 m.cmd.k, .int .i64 m.cmd.cl, .int .i64 m.cmd.op, .string m.cmd.nm, .int .i64 m.cmd.f1, .int .i64 m.cmd.f2, .int .i64 m.cmd.n1, .int .i64 m.cmd.n2, .int .i64 m.cmd.sz, .int .i64 m.upto, ve2, vl2, .slice (some b2) m.cmds.length cap2, .bool m.more] 39 (0, 0)) :: Blk g2 (.cells #[.int .i64 m.kind, .bool m.fc, .int .i64 m.fi, .bool m.tc, .int .i64 m.ti, .int .i64 m.op, .int .i64 m.rd, .int .i64 m.kk, .int .i64 m.ka, .int .i64 m.kb, .int .i64 m.kc, .int .i64 m.sn, .int .i64 m.sc, .int .i64 m.hn, .int .i64 m.hc, vb, .int .i64 m.cmd.k, .int .i64 m.cmd.cl, .int .i64 m.cmd.op, .string m.cmd.nm, .int .i64 m.cmd.f1, .int .i64 m.cmd.f2, .int .i64 m.cmd.n1, .int .i64 m.cmd.n2, .int .i64 m.cmd.sz, .int .i64 m.upto, ve, vl, .slice (some b1) m.cmds.length cap, .bool m.more] 39 (0, 0)) :: Arg W :: [])) (by kernel_rfl) (by kernel_rfl) (by kernel_rfl) (by kernel_rfl) (HF)
      case step =>
        iterate 11 (refine ⟨eff_pl rfl (fun _ => by rfl) fun E val hn T ds w K H hk ho hK => ?_, ?_⟩; rotate_left)
        exact trivial
        · have o2 := ho 2 (by kernel_rfl); clear ho; simp [know, dstAt, Region.binds] at hk o2; go_simp; exact hK _ H
        · clear ho; simp [know, dstAt, Region.binds] at hk
          first | (refine op_loadT (v := .slice (some b1) m.cmds.length cap) rfl hk (by kernel_rfl) H 1 rfl rfl ?_; exact hK _ H) | (refine op_loadT (v := .slice (some b2) m.cmds.length cap2) rfl hk (by kernel_rfl) H 0 rfl rfl ?_; exact hK _ H)
        · have o5 := ho 5 (by kernel_rfl); clear ho; simp [know, dstAt, Region.binds] at hk o5; go_simp; exact hK _ H
        · clear ho; simp [know, dstAt, Region.binds] at hk; go_simp; exact hK _ H
        · clear ho; simp [know, dstAt, Region.binds] at hk
          first | (refine op_cellsT (vs := r) rfl hk a32 (by rw [hrl.out]; exact s32) (fun j u hj => (H.ext 2 rfl).cell (C1.out j u hj)) ?_; exact hK _ H) | (refine op_cellsT (vs := r) rfl hk a32 (by rw [hrl.out]; exact s32) (fun j u hj => (H.ext 2 rfl).cell (C2.out j u hj)) ?_; exact hK _ H)
        · have o3 := ho 3 (by kernel_rfl); clear ho; simp [know, dstAt, Region.binds] at hk o3; go_simp; exact hK _ H
        · clear ho; simp [know, dstAt, Region.binds] at hk
          first | (refine op_loadT (v := .slice (some b1) m.cmds.length cap) rfl hk (by kernel_rfl) H 1 rfl rfl ?_; exact hK _ H) | (refine op_loadT (v := .slice (some b2) m.cmds.length cap2) rfl hk (by kernel_rfl) H 0 rfl rfl ?_; exact hK _ H)
        · have o5 := ho 5 (by kernel_rfl); clear ho; simp [know, dstAt, Region.binds] at hk o5; go_simp; exact hK _ H
        · clear ho; simp [know, dstAt, Region.binds] at hk; go_simp; exact hK _ H
        · clear ho; simp [know, dstAt, Region.binds] at hk
          first | (refine op_cellsT (vs := r) rfl hk a32 (by rw [hrl.out]; exact s32) (fun j u hj => (H.ext 2 rfl).cell (C1.out j u hj)) ?_; exact hK _ H) | (refine op_cellsT (vs := r) rfl hk a32 (by rw [hrl.out]; exact s32) (fun j u hj => (H.ext 2 rfl).cell (C2.out j u hj)) ?_; exact hK _ H)
        · clear ho; simp [know, dstAt, Region.binds] at hk; go_simp; exact hK _ H
      case ins =>
        iterate 11 (refine ⟨ins_pl rfl (fun _ _ _ => rfl), ?_⟩)
        exact trivial
      case jns =>
        iterate 11 (refine ⟨j_pl (fun _ _ _ => rfl), ?_⟩)
        exact trivial
      case fin =>
        intro E val w5 hE H
        clear HF hE
        have HF := H
        clear H
        simp [putAll, Act.put]
        go_wp2_with fail
        go_roundw
        case rel => exact ⟨k + 1, by omega, rfl, HF⟩
        case measure => simp [intOf]; omega
    · have g1 : ¬ (k : Int) < m.cmds.length := by omega
      go_wp2_with (first | ((with_reducible refine k_load ?_); (first | refine st_load rfl _ _ rfl _ _ rfl ?_ HF 0 rfl rfl ?_ | refine st_load rfl _ _ rfl _ _ rfl ?_ HF 1 rfl rfl ?_); (kernel_rfl); (intro K hK; go_simp)))
      go_ret
      exact ⟨rfl, (HF.sel 3 [2]).lift0 H0.out⟩
end
end Md
end Go.Proofs.Ytjobojgmadjmfaa
