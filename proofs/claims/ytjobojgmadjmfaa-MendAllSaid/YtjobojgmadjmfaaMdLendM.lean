/-
  The statements' own functions: a message lent.
-/
import Derived.Test.YtjobojgmadjmfaaMdBackM
namespace Go.Proofs.Ytjobojgmadjmfaa
open Go.Hp Go.RowKit
set_option linter.unusedVariables false
set_option linter.unusedSimpArgs false
set_option maxRecDepth 100000
set_option maxHeartbeats 4000000
namespace Md
def lentC (cs : List (List Value)) : Array Value := (fillR cs.flatten (fun k => mkC ((cs.length : Int) + (k : Int))) zc 67 67).toArray
theorem zz32 : zeroT Try.prog 32 = some (.agg zc.toArray) := by kernel_rfl

section
variable {w0 w : World} {L : List HProp}

theorem lendM {m : Mg} {vb ve vl vc : Value} (hm : MgAt w m vb ve vl vc) (fe : ∀ r ∈ m.ents, Fits entK r) (fl : ∀ r ∈ m.lasts, Fits lastK r) (fc : ∀ r ∈ m.cmds, Fits cmdK r) (bb : m.blk.length ≤ 140737488355328) (be : m.ents.length * 40 ≤ 140737488355328) (bl : m.lasts.length * 56 ≤ 140737488355328) (bc : m.cmds.length * 80 ≤ 140737488355328) (H : At w0 L w) :
    Calls Try.prog 11 #[.agg (mgV m vb ve vl vc)] w (fun e w' => ∃ gb ge gl gc, e = .returned (.agg (mgV m (.slice (some ⟨gb, 0, none⟩) m.blk.length (m.blk.length + 67)) (.slice (some ⟨ge, 0, none⟩) m.ents.length (m.ents.length + 67)) (.slice (some ⟨gl, 0, none⟩) m.lasts.length (m.lasts.length + 67)) (.slice (some ⟨gc, 0, none⟩) m.cmds.length (m.cmds.length + 67)))) ∧ At w0 (Blk gb (.cells (lentB m.blk) 5 (0, 0)) :: Blk ge (.cells (lentE m.ents) 101 (0, 0)) :: Blk gl (.cells (lentL m.lasts) 104 (0, 0)) :: Blk gc (.cells (lentC m.cmds) 32 (0, 0)) :: L) w') := by
  obtain ⟨W, rfl⟩ : ∃ W : World, W = w := ⟨_, rfl⟩
  have HF := At.of W
  have H0 := Lib.hid H
  have o1 := row_one hm.b
  have o2 := row_one hm.e.1
  have o3 := row_one hm.l.1
  have Lc := Lib.hid (recs_len hm.c)
  have Oc := Lib.hid (recs_one fc)
  have R1 := Lib.hid hm
  obtain ⟨⟨ac, cap, rfl, c1, c2, c3, c4⟩, c5⟩ := hm.c
  have C3 := Lib.hid c3
  have C4 := Lib.hid c4
  have Fe := Lib.hid fe
  have Fl := Lib.hid fl
  clear H hm c3 c4 c5 fe fl fc
  have hn : ((m.cmds.length : Int) + 67).toNat = m.cmds.length + 67 := by omega
  simp only [mgV]
  have tok : True := trivial
  go_enter Try.func11, Try.ntmps11
  go_wp2_with (first | ((with_reducible refine k_box (T := 39) ?_); refine st_box rfl _ _ rfl _ rfl HF ?_; (clear HF; intro g1 w HF K hK; simp only [Value.cells, Act.eval, Value.cells, Array.getD_eq_getD_getElem?, List.getElem?_toArray, List.getElem?_cons_succ, List.getElem?_cons_zero, Option.getD_some] at HF; go_simp)) | ((with_reducible refine k_alloc (T := 39) ?_); (have _t := tok); refine st_alloc rfl _ rfl _ z39 _ rfl HF ?_; (clear HF tok _t; intro g2 w HF K hK; simp only [Value.cells] at HF; go_simp)) | ((with_reducible refine k_alloc (T := 39) ?_); refine st_alloc rfl _ rfl _ z39 _ rfl HF ?_; (clear HF; intro g3 w HF K hK; simp only [Value.cells] at HF; go_simp)) | ((with_reducible refine k_load (T := 39) ?_); refine st_row rfl _ _ rfl _ rfl a39 30 s39 HF 1 rfl rfl ?_; (intro K hK; go_simp)) | ((with_reducible refine k_load (T := 39) ?_); refine st_loads rfl _ _ rfl _ _ rfl a39 30 s39 HF 1 rfl ?_ ?_; (simp); (intro K hK; go_simp)) | ((with_reducible refine k_store (T := 39) ?_); refine st_put rfl _ _ _ rfl _ rfl _ rfl ?_ s39 HF 0 rfl rfl ?_; (repeat' (first | exact List.forall_mem_nil _ | refine List.forall_mem_cons.2 ⟨(by first | rfl | assumption), ?_⟩)); (clear HF; intro w HF K hK; simp only [List.set_cons_zero, List.set_cons_succ, Act.eval, Value.cells, Array.getD_eq_getD_getElem?, List.getElem?_toArray, List.getElem?_cons_succ, List.getElem?_cons_zero, Option.getD_some] at HF; go_simp)) | ((with_reducible refine k_load ?_); refine st_load rfl _ _ rfl _ _ rfl ?_ HF 2 rfl rfl ?_; (kernel_rfl); (intro K hK; go_simp)))
  refine (lendB (R1.out.b.ext (HF.ext 3 rfl)) bb HF).mono ?_
  rintro e w3 ⟨gb, rfl, HX⟩
  replace HF := HX
  clear HX
  go_wp2_with (first | ((with_reducible refine k_store ?_); refine st_store rfl _ _ _ rfl _ _ rfl _ rfl rfl ?_ HF 1 rfl ?_ ?_; (kernel_rfl); (simp); (clear HF; intro w HF K hK; simp only [List.set_cons_zero, List.set_cons_succ, List.setIfInBounds_toArray, Act.eval, Value.cells, Array.getD_eq_getD_getElem?, List.getElem?_toArray, List.getElem?_cons_succ, List.getElem?_cons_zero, Option.getD_some] at HF; go_simp)) | ((with_reducible refine k_load (T := 36) ?_); refine st_row rfl _ _ rfl _ rfl a36 3 s36 HF 3 rfl rfl ?_; (intro K hK; go_simp)) | ((with_reducible refine k_load (T := 36) ?_); refine st_loads rfl _ _ rfl _ _ rfl a36 3 s36 HF 3 rfl ?_ ?_; (simp); (intro K hK; go_simp)))
  refine (lendK (R1.out.e.ext (HF.ext 4 rfl)) (R1.out.l.ext (HF.ext 4 rfl)) Fe.out Fl.out be bl HF).mono ?_
  rintro e w4 ⟨ge, gl, rfl, HX⟩
  replace HF := HX
  clear HX
  generalize hle : lentE m.ents = LE at *
  generalize hll : lentL m.lasts = LLs at *
  generalize hlb : lentB m.blk = LB at *
  have HLE := Lib.hid hle
  have HLL := Lib.hid hll
  have HLB := Lib.hid hlb
  clear hle hll hlb
  go_wp2_with (first | ((with_reducible refine k_store (T := 36) ?_); refine st_stores rfl _ _ _ rfl _ _ rfl _ rfl ?_ s36 HF 3 rfl ?_ ?_; (simp [Value.oneCell']); (simp); (clear HF; intro w HF K hK; simp only [List.set_cons_zero, List.set_cons_succ, List.take_succ_cons, List.take_zero, List.drop_succ_cons, List.drop_zero, List.cons_append, List.nil_append, List.size_toArray, List.length_cons, List.length_nil, Nat.reduceAdd, Act.eval, Value.cells, Array.getD_eq_getD_getElem?, List.getElem?_toArray, List.getElem?_cons_succ, List.getElem?_cons_zero, Option.getD_some] at HF; go_simp)) | ((with_reducible refine k_load ?_); (first | refine st_load rfl _ _ rfl _ _ rfl ?_ HF 5 rfl rfl ?_ | refine st_load rfl _ _ rfl _ _ rfl ?_ HF 6 rfl rfl ?_); (kernel_rfl); (intro K hK; go_simp))      | ((with_reducible refine k_make ?_); refine st_make rfl _ _ _ rfl _ _ _ _ rfl rfl 32 Try.underlying37 80 ?_ 9 ?_ (.agg zc.toArray) ?_ ?_ ?_ ?_ ?_ HF ?_; (kernel_rfl); (kernel_rfl); (kernel_rfl); (omega); (omega); (omega); (omega);        (clear HF; intro gc w HF K hK; replace HF : At W (Blk gc (.cells (List.replicate (m.cmds.length + 67) zc).flatten.toArray 32 (0, 0)) :: Blk ge (.cells LE 101 (0, 0)) :: Blk gl (.cells LLs 104 (0, 0)) :: Blk gb (.cells LB 5 (0, 0)) :: Blk g3 (.cells #[.int .i64 m.kind, .bool m.fc, .int .i64 m.fi, .bool m.tc, .int .i64 m.ti, .int .i64 m.op, .int .i64 m.rd, .int .i64 m.kk, .int .i64 m.ka, .int .i64 m.kb, .int .i64 m.kc, .int .i64 m.sn, .int .i64 m.sc, .int .i64 m.hn, .int .i64 m.hc, .slice (some ⟨gb, 0, none⟩) m.blk.length (m.blk.length + 67), .int .i64 m.cmd.k, .int .i64 m.cmd.cl, .int .i64 m.cmd.op, .string m.cmd.nm, .int .i64 m.cmd.f1, .int .i64 m.cmd.f2, .int .i64 m.cmd.n1, .int .i64 m.cmd.n2, .int .i64 m.cmd.sz, .int .i64 m.upto, .slice (some ⟨ge, 0, none⟩) m.ents.length (m.ents.length + 67), .slice (some ⟨gl, 0, none⟩) m.lasts.length (m.lasts.length + 67), .slice ac m.cmds.length cap, .bool m.more] 39 (0, 0)) :: Blk g2 (.cells #[.int .i64 0, .bool false, .int .i64 0, .bool false, .int .i64 0, .int .i64 0, .int .i64 0, .int .i64 0, .int .i64 0, .int .i64 0, .int .i64 0, .int .i64 0, .int .i64 0, .int .i64 0, .int .i64 0, .slice none 0 0, .int .i64 0, .int .i64 0, .int .i64 0, .string ⟨#[]⟩, .int .i64 0, .int .i64 0, .int .i64 0, .int .i64 0, .int .i64 0, .int .i64 0, .slice none 0 0, .slice none 0 0, .slice none 0 0, .bool false] 39 (0, 0)) :: Blk g1 (.cells #[.int .i64 m.kind, .bool m.fc, .int .i64 m.fi, .bool m.tc, .int .i64 m.ti, .int .i64 m.op, .int .i64 m.rd, .int .i64 m.kk, .int .i64 m.ka, .int .i64 m.kb, .int .i64 m.kc, .int .i64 m.sn, .int .i64 m.sc, .int .i64 m.hn, .int .i64 m.hc, vb, .int .i64 m.cmd.k, .int .i64 m.cmd.cl, .int .i64 m.cmd.op, .string m.cmd.nm, .int .i64 m.cmd.f1, .int .i64 m.cmd.f2, .int .i64 m.cmd.n1, .int .i64 m.cmd.n2, .int .i64 m.cmd.sz, .int .i64 m.upto, ve, vl, .slice ac m.cmds.length cap, .bool m.more] 39 (0, 0)) :: Arg W :: []) w := (by rw [← madeCells_recs zc (by decide)]; have e : ((m.cmds.length : Int) + 67).toNat * 9 = (m.cmds.length + 67) * zc.length := (by rw [hn]; rfl); rw [e] at HF; exact HF); go_simp))      | ((with_reducible refine k_builtin ?_); refine st_copyR rfl _ _ _ _ rfl 32 Try.underlying37 9 ?_ gc 0 (m.cmds.length + 67) (m.cmds.length + 67) m.cmds.length cap ac rfl rfl m.cmds.flatten m.cmds.length ?_ Lc.out ?_ Oc.out HF 0 rfl ?_ ?_; (kernel_rfl); (show _ = min m.cmds.length (m.cmds.length + 67); omega);          (intro hp; obtain ⟨bb, hbb⟩ := C3.out (by have := Lc.out; omega); exact ⟨bb, hbb, fun j u hj => (HF.ext 7 rfl).cell (C4.out bb hbb j u hj)⟩);          (rw [len_zeros (size := 9) rfl, Lc.out]; omega); (clear HF; intro w HF K hK; simp only [List.set_cons_zero] at HF; rw [splice_fill (mk := fun k => mkC ((m.cmds.length : Int) + (k : Int))) (n := m.cmds.length) (size := 9) Lc.out rfl] at HF; go_simp)))
  go_loopw [5] (fun i wr => ∃ k : Nat, k ≤ 67 ∧ i = .int .i64 (m.cmds.length + k) ∧ At W (Blk gc (.cells (fillR m.cmds.flatten (fun k => mkC ((m.cmds.length : Int) + (k : Int))) zc k 67).toArray 32 (0, 0)) :: Blk ge (.cells LE 101 (0, 0)) :: Blk gl (.cells LLs 104 (0, 0)) :: Blk gb (.cells LB 5 (0, 0)) :: Blk g3 (.cells #[.int .i64 m.kind, .bool m.fc, .int .i64 m.fi, .bool m.tc, .int .i64 m.ti, .int .i64 m.op, .int .i64 m.rd, .int .i64 m.kk, .int .i64 m.ka, .int .i64 m.kb, .int .i64 m.kc, .int .i64 m.sn, .int .i64 m.sc, .int .i64 m.hn, .int .i64 m.hc, .slice (some ⟨gb, 0, none⟩) m.blk.length (m.blk.length + 67), .int .i64 m.cmd.k, .int .i64 m.cmd.cl, .int .i64 m.cmd.op, .string m.cmd.nm, .int .i64 m.cmd.f1, .int .i64 m.cmd.f2, .int .i64 m.cmd.n1, .int .i64 m.cmd.n2, .int .i64 m.cmd.sz, .int .i64 m.upto, .slice (some ⟨ge, 0, none⟩) m.ents.length (m.ents.length + 67), .slice (some ⟨gl, 0, none⟩) m.lasts.length (m.lasts.length + 67), .slice ac m.cmds.length cap, .bool m.more] 39 (0, 0)) :: Blk g2 (.cells #[.int .i64 0, .bool false, .int .i64 0, .bool false, .int .i64 0, .int .i64 0, .int .i64 0, .int .i64 0, .int .i64 0, .int .i64 0, .int .i64 0, .int .i64 0, .int .i64 0, .int .i64 0, .int .i64 0, .slice none 0 0, .int .i64 0, .int .i64 0, .int .i64 0, .string ⟨#[]⟩, .int .i64 0, .int .i64 0, .int .i64 0, .int .i64 0, .int .i64 0, .int .i64 0, .slice none 0 0, .slice none 0 0, .slice none 0 0, .bool false] 39 (0, 0)) :: Blk g1 (.cells #[.int .i64 m.kind, .bool m.fc, .int .i64 m.fi, .bool m.tc, .int .i64 m.ti, .int .i64 m.op, .int .i64 m.rd, .int .i64 m.kk, .int .i64 m.ka, .int .i64 m.kb, .int .i64 m.kc, .int .i64 m.sn, .int .i64 m.sc, .int .i64 m.hn, .int .i64 m.hc, vb, .int .i64 m.cmd.k, .int .i64 m.cmd.cl, .int .i64 m.cmd.op, .string m.cmd.nm, .int .i64 m.cmd.f1, .int .i64 m.cmd.f2, .int .i64 m.cmd.n1, .int .i64 m.cmd.n2, .int .i64 m.cmd.sz, .int .i64 m.upto, ve, vl, .slice ac m.cmds.length cap, .bool m.more] 39 (0, 0)) :: Arg W :: []) wr) (fun i _ => m.cmds.length + 67 - (intOf i).toNat)
  case atStart => exact ⟨0, Nat.zero_le _, by simp, HF⟩
  case round =>
    clear HF
    obtain ⟨k, hk, rfl, HF⟩ := hrel
    by_cases hlt : k < 67
    · have Hset := Lib.hid (fun off ho => fillR_set (off := off) (mk := fun k => mkC ((m.cmds.length : Int) + (k : Int))) (z := zc) Lc.out (fun i => rfl) rfl hlt ho)
      have Hlen := Lib.hid (fillR_len (mk := fun k => mkC ((m.cmds.length : Int) + (k : Int))) (z := zc) Lc.out (fun i => rfl) rfl hk)
      have hoff : ((m.cmds.length : Int) + k).toNat = m.cmds.length + k := by omega
      have hlt2 : (k : Int) < 67 := by omega
      go_wp2_with (first | ((with_reducible refine k_store (T := 32) ?_); refine st_stores rfl _ _ _ rfl _ _ rfl (mkC ((m.cmds.length : Int) + (k : Int))).toArray rfl ?_ s32 HF 0 rfl ?_ ?_; (simp [mkC, Value.oneCell']); (simp only [List.size_toArray]; rw [Hlen.out]; show _ + 9 ≤ _; omega); (clear HF; intro w HF K hK; simp only [List.set_cons_zero, List.size_toArray] at HF; rw [show (mkC ((m.cmds.length : Int) + (k : Int))).length = 9 from rfl, Hset.out _ rfl] at HF; go_simp)))
      go_roundw
      case rel => exact ⟨k + 1, by omega, by rw [Int.natCast_add, Int.add_assoc]; rfl, HF⟩
      case measure => simp [intOf]; omega
    · have hk2 : k = 67 := by omega
      subst hk2
      clear hlt hk
      go_wp2_with (first | ((with_reducible refine k_load ?_); refine st_load rfl _ _ rfl _ _ rfl ?_ HF 6 rfl rfl ?_; (kernel_rfl); (intro K hK; go_simp)) | ((with_reducible refine k_store ?_); refine st_store rfl _ _ _ rfl _ _ rfl _ rfl rfl ?_ HF 4 rfl ?_ ?_; (kernel_rfl); (simp); (clear HF; intro w HF K hK; simp only [List.set_cons_zero, List.set_cons_succ, List.setIfInBounds_toArray, Act.eval, Value.cells, Array.getD_eq_getD_getElem?, List.getElem?_toArray, List.getElem?_cons_succ, List.getElem?_cons_zero, Option.getD_some] at HF; go_simp)) | ((with_reducible refine k_load (T := 39) ?_); refine st_row rfl _ _ rfl _ rfl a39 30 s39 HF 4 rfl rfl ?_; (intro K hK; go_simp)) | ((with_reducible refine k_load (T := 39) ?_); refine st_loads rfl _ _ rfl _ _ rfl a39 30 s39 HF 4 rfl ?_ ?_; (simp); (intro K hK; go_simp)) | ((with_reducible refine k_store (T := 39) ?_); refine st_put rfl _ _ _ rfl _ rfl _ rfl ?_ s39 HF 5 rfl rfl ?_; (repeat' (first | exact List.forall_mem_nil _ | refine List.forall_mem_cons.2 ⟨(by first | rfl | assumption), ?_⟩)); (clear HF; intro w HF K hK; simp only [List.set_cons_zero, List.set_cons_succ, Act.eval, Value.cells, Array.getD_eq_getD_getElem?, List.getElem?_toArray, List.getElem?_cons_succ, List.getElem?_cons_zero, Option.getD_some] at HF; go_simp)))
      refine bodyPost_ret (results_cell rfl rfl a39 s39 (HF.get 5 rfl) rfl) rfl ?_
      rw [HLE.out, HLL.out, HLB.out]
      exact ⟨gb, ge, gl, gc, rfl, (show At W ([_, _, _, _] ++ [Arg W]) _ from HF.sel 8 [3, 1, 2, 0, 7]).lift H0.out⟩
end
end Md
end Go.Proofs.Ytjobojgmadjmfaa
