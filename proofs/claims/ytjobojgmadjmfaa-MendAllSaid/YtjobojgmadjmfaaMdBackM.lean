/-
  The statements' own functions: a message as it was lent.
-/
import Derived.Test.YtjobojgmadjmfaaMdSameM
namespace Go.Proofs.Ytjobojgmadjmfaa
open Go.Hp Go.RowKit
set_option linter.unusedVariables false
set_option linter.unusedSimpArgs false
set_option maxRecDepth 100000
set_option maxHeartbeats 4000000
namespace Md

def mkC (i : Int) : List Value := [.int .i64 0, .int .i64 0, .int .i64 (-i), .string ⟨#[109, 97, 114, 107]⟩, .int .i64 0, .int .i64 0, .int .i64 0, .int .i64 0, .int .i64 0]
theorem mkC_fits (i : Int) : Fits cmdK (mkC i) := ⟨⟨_, rfl⟩, ⟨_, rfl⟩, ⟨_, rfl⟩, ⟨_, rfl⟩, ⟨_, rfl⟩, ⟨_, rfl⟩, ⟨_, rfl⟩, ⟨_, rfl⟩, ⟨_, rfl⟩, trivial⟩

/-- Bytes that are lent. -/
def LentB (w : World) (g : Nat) (l : List UInt8) : Prop :=
  RowAt w (.slice (some ⟨g, 0, none⟩) l.length (l.length + 67)) l.length (bv l) ∧ ∀ k : Nat, k < 67 → w.cell? ⟨g, l.length + k, none⟩ = some (.int .u8 201)

theorem LentB.ext {w w' : World} {g : Nat} {l : List UInt8} (h : LentB w g l) (he : Ext w w') : LentB w' g l := ⟨h.1.ext he, fun k hk => he.cell (h.2 k hk)⟩

section
variable {w0 w : World} {L : List HProp}

theorem lentB_of {l : List UInt8} {g : Nat} {t : TypeId} {fr : Nat × Nat} (hl : l.length ≤ 140737488355328) (H : At w0 (Blk g (.cells (lentB l) t fr) :: L) w) : LentB w g l := by
  refine ⟨lent_row hl H, fun k hk => ?_⟩
  rw [cell_of_row w g _ _ t fr H.get0]
  unfold lentB
  rw [List.getElem?_toArray, List.getElem?_append_right (by rw [length_bv]; omega), length_bv, Nat.add_sub_cancel_left, List.getElem?_replicate, if_pos hk]

theorem backB2 {vb : Value} {l : List UInt8} {g : Nat} (hg : LentB w g l) (hv : RowAt w vb l.length (bv l)) (hl : l.length ≤ 140737488355328) (H : At w0 L w) : Calls Try.prog 37 #[.slice (some ⟨g, 0, none⟩) l.length (l.length + 67), vb] w
    (fun e w' => e = .returned (.bool true) ∧ At w0 L w') := by
  obtain ⟨W, rfl⟩ : ∃ W : World, W = w := ⟨_, rfl⟩
  have HF := At.of W
  have H0 := Lib.hid H
  have Hr := Lib.hid hg.1
  have Hc := Lib.hid hg.2
  have Hv := Lib.hid hv
  clear H hg
  obtain ⟨ad, cap, rfl, c1, c2, c3, c4⟩ := hv
  clear c3 c4
  have ht : ((l.length : Int) + 67).toNat = l.length + 67 := by omega
  go_enter Try.func37, Try.ntmps37
  go_wp2_with fail
  refine (sameB Hr.out Hv.out HF).mono ?_
  rintro e w1 ⟨rfl, H1⟩
  clear HF Hr Hv
  have HF := H1
  clear H1
  have hbb : (l == l) = true := by simp
  go_wp2_with fail
  go_loopw [6] (fun i wr => ∃ k : Nat, k ≤ 67 ∧ i = .int .i64 (l.length + k) ∧ At W (Arg W :: []) wr) (fun i _ => l.length + 67 - (intOf i).toNat)
  case atStart => exact ⟨0, Nat.zero_le _, by simp, HF⟩
  case round =>
    clear HF
    obtain ⟨k, hk, rfl, HF⟩ := hrel
    by_cases hlt : k < 67
    · have hoff : ((l.length : Int) + k).toNat = l.length + k := by omega
      have hlt2 : (k : Int) < 67 := by omega
      have hck := (HF.ext 0 rfl).cell (Hc.out k hlt)
      go_wp2_with (first | ((with_reducible refine k_load ?_); refine st_load1 rfl _ _ rfl _ rfl ?_ hck ?_; (kernel_rfl); (intro K hK; go_simp)))
      go_roundw
      case rel => exact ⟨k + 1, by omega, by rw [Int.natCast_add, Int.add_assoc]; rfl, HF⟩
      case measure => simp [intOf]; omega
    · have hk2 : k = 67 := by omega
      subst hk2
      go_wp2_with fail
      go_ret
      exact ⟨rfl, HF.lift0 H0.out⟩

theorem backM {m : Mg} {gb ge gl gc : Nat} {vb2 ve2 vl2 vc2 : Value} (hb : LentB w gb m.blk) (he : Lent w ge 4 mkE m.ents) (hl : Lent w gl 7 mkL m.lasts) (hc : Lent w gc 9 mkC m.cmds) (hm2 : MgAt w m vb2 ve2 vl2 vc2) (fe : ∀ r ∈ m.ents, Fits entK r) (fl : ∀ r ∈ m.lasts, Fits lastK r) (fc : ∀ r ∈ m.cmds, Fits cmdK r) (bb : m.blk.length ≤ 140737488355328) (be : m.ents.length * 40 ≤ 140737488355328) (bl : m.lasts.length * 56 ≤ 140737488355328) (bc : m.cmds.length * 80 ≤ 140737488355328) (H : At w0 L w) :
    Calls Try.prog 13 #[.agg (mgV m (.slice (some ⟨gb, 0, none⟩) m.blk.length (m.blk.length + 67)) (.slice (some ⟨ge, 0, none⟩) m.ents.length (m.ents.length + 67)) (.slice (some ⟨gl, 0, none⟩) m.lasts.length (m.lasts.length + 67)) (.slice (some ⟨gc, 0, none⟩) m.cmds.length (m.cmds.length + 67))), .agg (mgV m vb2 ve2 vl2 vc2)] w (fun e w' => e = .returned (.bool true) ∧ At w0 L w') := by
  obtain ⟨W, rfl⟩ : ∃ W : World, W = w := ⟨_, rfl⟩
  have HF := At.of W
  have H0 := Lib.hid H
  obtain ⟨ac2, cap2, rfl, d1, d2, d3⟩ := hm2.c.value
  have R2 := Lib.hid hm2
  have R1 := Lib.hid (⟨hb.1, he.1, hl.1, hc.1⟩ : MgAt W m (.slice (some ⟨gb, 0, none⟩) m.blk.length (m.blk.length + 67)) (.slice (some ⟨ge, 0, none⟩) m.ents.length (m.ents.length + 67)) (.slice (some ⟨gl, 0, none⟩) m.lasts.length (m.lasts.length + 67)) (.slice (some ⟨gc, 0, none⟩) m.cmds.length (m.cmds.length + 67)))
  have LB := Lib.hid hb
  have LE := Lib.hid he
  have LL := Lib.hid hl
  have M1 := Lib.hid hc.2
  have Fe := Lib.hid fe
  have Fl := Lib.hid fl
  have Fc := Lib.hid fc
  clear H hm2 hb he hl hc fe fl fc d3
  have hn : ((m.cmds.length : Int) + 67).toNat = m.cmds.length + 67 := by omega
  simp only [mgV]
  have tok : True := trivial
  go_enter Try.func13, Try.ntmps13
  go_wp2_with (first | ((with_reducible refine k_box (T := 39) ?_); (have _t := tok); refine st_box rfl _ _ rfl _ rfl HF ?_; (clear HF tok _t; intro g2 w HF K hK; simp only [Value.cells, Act.eval, Value.cells, Array.getD_eq_getD_getElem?, List.getElem?_toArray, List.getElem?_cons_succ, List.getElem?_cons_zero, Option.getD_some] at HF; go_simp)) | ((with_reducible refine k_box (T := 39) ?_); refine st_box rfl _ _ rfl _ rfl HF ?_; (clear HF; intro g3 w HF K hK; simp only [Value.cells, Act.eval, Value.cells, Array.getD_eq_getD_getElem?, List.getElem?_toArray, List.getElem?_cons_succ, List.getElem?_cons_zero, Option.getD_some] at HF; go_simp)) | ((with_reducible refine k_load (T := 39) ?_); (first | refine st_row rfl _ _ rfl _ rfl a39 30 s39 HF 0 rfl rfl ?_ | refine st_row rfl _ _ rfl _ rfl a39 30 s39 HF 1 rfl rfl ?_); (intro K hK; go_simp)) | ((with_reducible refine k_load (T := 39) ?_); (first | refine st_loads rfl _ _ rfl _ _ rfl a39 30 s39 HF 0 rfl ?_ ?_ | refine st_loads rfl _ _ rfl _ _ rfl a39 30 s39 HF 1 rfl ?_ ?_); (simp); (intro K hK; go_simp)) | ((with_reducible refine k_load (T := 36) ?_); (first | refine st_row rfl _ _ rfl _ rfl a36 3 s36 HF 0 rfl rfl ?_ | refine st_row rfl _ _ rfl _ rfl a36 3 s36 HF 1 rfl rfl ?_); (intro K hK; go_simp)) | ((with_reducible refine k_load (T := 36) ?_); (first | refine st_loads rfl _ _ rfl _ _ rfl a36 3 s36 HF 0 rfl ?_ ?_ | refine st_loads rfl _ _ rfl _ _ rfl a36 3 s36 HF 1 rfl ?_ ?_); (simp); (intro K hK; go_simp)) | ((with_reducible refine k_load ?_); (first | refine st_load rfl _ _ rfl _ _ rfl ?_ HF 0 rfl rfl ?_ | refine st_load rfl _ _ rfl _ _ rfl ?_ HF 1 rfl rfl ?_); (kernel_rfl); (intro K hK; go_simp)))
  refine (sameM (R1.out.ext (HF.ext 2 rfl)) (R2.out.ext (HF.ext 2 rfl)) Fe.out Fl.out Fc.out be bl bc HF).mono ?_
  rintro e w3 ⟨rfl, HX⟩
  replace HF := HX
  clear HX
  go_wp2_with (first | ((with_reducible refine k_load (T := 39) ?_); (first | refine st_row rfl _ _ rfl _ rfl a39 30 s39 HF 0 rfl rfl ?_ | refine st_row rfl _ _ rfl _ rfl a39 30 s39 HF 1 rfl rfl ?_); (intro K hK; go_simp)) | ((with_reducible refine k_load (T := 39) ?_); (first | refine st_loads rfl _ _ rfl _ _ rfl a39 30 s39 HF 0 rfl ?_ ?_ | refine st_loads rfl _ _ rfl _ _ rfl a39 30 s39 HF 1 rfl ?_ ?_); (simp); (intro K hK; go_simp)) | ((with_reducible refine k_load (T := 36) ?_); (first | refine st_row rfl _ _ rfl _ rfl a36 3 s36 HF 0 rfl rfl ?_ | refine st_row rfl _ _ rfl _ rfl a36 3 s36 HF 1 rfl rfl ?_); (intro K hK; go_simp)) | ((with_reducible refine k_load (T := 36) ?_); (first | refine st_loads rfl _ _ rfl _ _ rfl a36 3 s36 HF 0 rfl ?_ ?_ | refine st_loads rfl _ _ rfl _ _ rfl a36 3 s36 HF 1 rfl ?_ ?_); (simp); (intro K hK; go_simp)) | ((with_reducible refine k_load ?_); (first | refine st_load rfl _ _ rfl _ _ rfl ?_ HF 0 rfl rfl ?_ | refine st_load rfl _ _ rfl _ _ rfl ?_ HF 1 rfl rfl ?_); (kernel_rfl); (intro K hK; go_simp)))
  refine (backB2 (LB.out.ext (HF.ext 2 rfl)) (R2.out.b.ext (HF.ext 2 rfl)) bb HF).mono ?_
  rintro e w4 ⟨rfl, HX⟩
  replace HF := HX
  clear HX
  go_wp2_with (first | ((with_reducible refine k_load (T := 39) ?_); (first | refine st_row rfl _ _ rfl _ rfl a39 30 s39 HF 0 rfl rfl ?_ | refine st_row rfl _ _ rfl _ rfl a39 30 s39 HF 1 rfl rfl ?_); (intro K hK; go_simp)) | ((with_reducible refine k_load (T := 39) ?_); (first | refine st_loads rfl _ _ rfl _ _ rfl a39 30 s39 HF 0 rfl ?_ ?_ | refine st_loads rfl _ _ rfl _ _ rfl a39 30 s39 HF 1 rfl ?_ ?_); (simp); (intro K hK; go_simp)) | ((with_reducible refine k_load (T := 36) ?_); (first | refine st_row rfl _ _ rfl _ rfl a36 3 s36 HF 0 rfl rfl ?_ | refine st_row rfl _ _ rfl _ rfl a36 3 s36 HF 1 rfl rfl ?_); (intro K hK; go_simp)) | ((with_reducible refine k_load (T := 36) ?_); (first | refine st_loads rfl _ _ rfl _ _ rfl a36 3 s36 HF 0 rfl ?_ ?_ | refine st_loads rfl _ _ rfl _ _ rfl a36 3 s36 HF 1 rfl ?_ ?_); (simp); (intro K hK; go_simp)) | ((with_reducible refine k_load ?_); (first | refine st_load rfl _ _ rfl _ _ rfl ?_ HF 0 rfl rfl ?_ | refine st_load rfl _ _ rfl _ _ rfl ?_ HF 1 rfl rfl ?_); (kernel_rfl); (intro K hK; go_simp)))
  refine (backK (LE.out.ext (HF.ext 2 rfl)) (LL.out.ext (HF.ext 2 rfl)) (R2.out.e.ext (HF.ext 2 rfl)) (R2.out.l.ext (HF.ext 2 rfl)) Fe.out Fl.out be bl HF).mono ?_
  rintro e w5 ⟨rfl, HX⟩
  replace HF := HX
  clear HX
  go_wp2_with (first | ((with_reducible refine k_load (T := 39) ?_); (first | refine st_row rfl _ _ rfl _ rfl a39 30 s39 HF 0 rfl rfl ?_ | refine st_row rfl _ _ rfl _ rfl a39 30 s39 HF 1 rfl rfl ?_); (intro K hK; go_simp)) | ((with_reducible refine k_load (T := 39) ?_); (first | refine st_loads rfl _ _ rfl _ _ rfl a39 30 s39 HF 0 rfl ?_ ?_ | refine st_loads rfl _ _ rfl _ _ rfl a39 30 s39 HF 1 rfl ?_ ?_); (simp); (intro K hK; go_simp)) | ((with_reducible refine k_load (T := 36) ?_); (first | refine st_row rfl _ _ rfl _ rfl a36 3 s36 HF 0 rfl rfl ?_ | refine st_row rfl _ _ rfl _ rfl a36 3 s36 HF 1 rfl rfl ?_); (intro K hK; go_simp)) | ((with_reducible refine k_load (T := 36) ?_); (first | refine st_loads rfl _ _ rfl _ _ rfl a36 3 s36 HF 0 rfl ?_ ?_ | refine st_loads rfl _ _ rfl _ _ rfl a36 3 s36 HF 1 rfl ?_ ?_); (simp); (intro K hK; go_simp)) | ((with_reducible refine k_load ?_); (first | refine st_load rfl _ _ rfl _ _ rfl ?_ HF 0 rfl rfl ?_ | refine st_load rfl _ _ rfl _ _ rfl ?_ HF 1 rfl rfl ?_); (kernel_rfl); (intro K hK; go_simp)))
  go_loopw [6] (fun i wr => ∃ k : Nat, k ≤ 67 ∧ i = .int .i64 (m.cmds.length + k) ∧ At W (Blk g3 (.cells #[.int .i64 m.kind, .bool m.fc, .int .i64 m.fi, .bool m.tc, .int .i64 m.ti, .int .i64 m.op, .int .i64 m.rd, .int .i64 m.kk, .int .i64 m.ka, .int .i64 m.kb, .int .i64 m.kc, .int .i64 m.sn, .int .i64 m.sc, .int .i64 m.hn, .int .i64 m.hc, vb2, .int .i64 m.cmd.k, .int .i64 m.cmd.cl, .int .i64 m.cmd.op, .string m.cmd.nm, .int .i64 m.cmd.f1, .int .i64 m.cmd.f2, .int .i64 m.cmd.n1, .int .i64 m.cmd.n2, .int .i64 m.cmd.sz, .int .i64 m.upto, ve2, vl2, .slice ac2 m.cmds.length cap2, .bool m.more] 39 (0, 0)) :: Blk g2 (.cells #[.int .i64 m.kind, .bool m.fc, .int .i64 m.fi, .bool m.tc, .int .i64 m.ti, .int .i64 m.op, .int .i64 m.rd, .int .i64 m.kk, .int .i64 m.ka, .int .i64 m.kb, .int .i64 m.kc, .int .i64 m.sn, .int .i64 m.sc, .int .i64 m.hn, .int .i64 m.hc, .slice (some ⟨gb, 0, none⟩) m.blk.length (m.blk.length + 67), .int .i64 m.cmd.k, .int .i64 m.cmd.cl, .int .i64 m.cmd.op, .string m.cmd.nm, .int .i64 m.cmd.f1, .int .i64 m.cmd.f2, .int .i64 m.cmd.n1, .int .i64 m.cmd.n2, .int .i64 m.cmd.sz, .int .i64 m.upto, .slice (some ⟨ge, 0, none⟩) m.ents.length (m.ents.length + 67), .slice (some ⟨gl, 0, none⟩) m.lasts.length (m.lasts.length + 67), .slice (some ⟨gc, 0, none⟩) m.cmds.length (m.cmds.length + 67), .bool m.more] 39 (0, 0)) :: Arg W :: []) wr) (fun i _ => m.cmds.length + 67 - (intOf i).toNat)
  case atStart => exact ⟨0, Nat.zero_le _, by simp, HF⟩
  case round =>
    clear HF
    obtain ⟨k, hk, rfl, HF⟩ := hrel
    by_cases hlt : k < 67
    · have hoff : ((m.cmds.length : Int) + k).toNat = m.cmds.length + k := by omega
      have hlt2 : (k : Int) < 67 := by omega
      have hz2 : ∀ w, (Op.equalIn 10000 32 (.agg (mkC ((m.cmds.length : Int) + (k : Int))).toArray) (.agg (mkC ((m.cmds.length : Int) + (k : Int))).toArray)).run Try.prog w = .ok true w := fun w => run_eq_self 9 (by decide) fCmd a32 (mkC_fits _)
      have C := Lib.hid (M1.out k hlt)
      unfold mkC at hz2
      go_wp2_with (first | ((with_reducible refine k_load ?_); (first | refine st_load rfl _ _ rfl _ _ rfl ?_ HF 0 rfl rfl ?_ | refine st_load rfl _ _ rfl _ _ rfl ?_ HF 1 rfl rfl ?_); (kernel_rfl); (intro K hK; go_simp)) | ((with_reducible refine k_load (T := 32) ?_); refine st_loadCells rfl _ _ rfl _ rfl a32 (mkC ((m.cmds.length : Int) + (k : Int))) s32 (fun j u hj => (HF.ext 2 rfl).cell (C.out j u hj)) ?_; (intro K hK; unfold mkC at hK ⊢; go_simp)))
      go_roundw
      case rel => exact ⟨k + 1, by omega, by rw [Int.natCast_add, Int.add_assoc]; rfl, HF⟩
      case measure => simp [intOf]; omega
    · have hk2 : k = 67 := by omega
      subst hk2
      clear hlt hk
      go_wp2_with (first | ((with_reducible refine k_load ?_); (first | refine st_load rfl _ _ rfl _ _ rfl ?_ HF 0 rfl rfl ?_ | refine st_load rfl _ _ rfl _ _ rfl ?_ HF 1 rfl rfl ?_); (kernel_rfl); (intro K hK; go_simp)))
      go_ret
      exact ⟨rfl, (HF.sel 3 [2]).lift0 H0.out⟩
end
end Md
end Go.Proofs.Ytjobojgmadjmfaa
