/-
  The statements' own functions: a message's lists written over.
-/
import Derived.Test.YtjobojgmadjmfaaMdSpoilK
namespace Go.Proofs.Ytjobojgmadjmfaa
open Go.Hp Go.RowKit
set_option linter.unusedVariables false
set_option linter.unusedSimpArgs false
set_option maxRecDepth 100000
set_option maxHeartbeats 600000
namespace Md
section
variable {w0 w : World} {L : List HProp}

theorem spoil {m : Mg} {gb ge gl gc : Nat} {cb ce cl cc : List Value} (hcb : cb.length = m.blk.length + 67) (hcx : ∀ j : Nat, j < m.blk.length → ∃ x : Int, cb[j]? = some (.int .u8 x)) (hce : ce.length = (m.ents.length + 67) * 4) (hcl : cl.length = (m.lasts.length + 67) * 7) (hcc : cc.length = (m.cmds.length + 67) * 9)
    (bb : m.blk.length ≤ 140737488355328) (be : m.ents.length ≤ 140737488355328) (bl : m.lasts.length ≤ 140737488355328) (bc : m.cmds.length ≤ 140737488355328) (H : At w0 (Blk gb (.cells cb.toArray 5 (0, 0)) :: Blk ge (.cells ce.toArray 101 (0, 0)) :: Blk gl (.cells cl.toArray 104 (0, 0)) :: Blk gc (.cells cc.toArray 32 (0, 0)) :: L) w) :
    Calls Try.prog 15 #[.agg (mgV m (.slice (some ⟨gb, 0, none⟩) m.blk.length (m.blk.length + 67)) (.slice (some ⟨ge, 0, none⟩) m.ents.length (m.ents.length + 67)) (.slice (some ⟨gl, 0, none⟩) m.lasts.length (m.lasts.length + 67)) (.slice (some ⟨gc, 0, none⟩) m.cmds.length (m.cmds.length + 67)))] w (fun e w' => e = .returned (.tuple #[]) ∧ At w0 L w') := by
  have HF := H
  clear H
  simp only [mgV]
  have He := Lib.hid hce
  have Hl := Lib.hid hcl
  clear hce hcl
  go_enter Try.func15, Try.ntmps15
  go_wp2_with (first | ((with_reducible refine k_box (T := 39) ?_); refine st_box rfl _ _ rfl _ rfl HF ?_; (clear HF; intro g1 w HF K hK; simp only [Value.cells, Act.eval, Value.cells, Array.getD_eq_getD_getElem?, List.getElem?_toArray, List.getElem?_cons_succ, List.getElem?_cons_zero, Option.getD_some] at HF; go_simp)))
  go_loopw [2] (fun i wr => ∃ (k : Nat) (c : List Value), k ≤ m.blk.length ∧ i = .int .i64 k ∧ (c.length = m.blk.length + 67 ∧ ∀ j : Nat, j < m.blk.length → ∃ x : Int, c[j]? = some (.int .u8 x)) ∧ At w0 (Blk g1 (.cells #[.int .i64 m.kind, .bool m.fc, .int .i64 m.fi, .bool m.tc, .int .i64 m.ti, .int .i64 m.op, .int .i64 m.rd, .int .i64 m.kk, .int .i64 m.ka, .int .i64 m.kb, .int .i64 m.kc, .int .i64 m.sn, .int .i64 m.sc, .int .i64 m.hn, .int .i64 m.hc, .slice (some ⟨gb, 0, none⟩) m.blk.length (m.blk.length + 67), .int .i64 m.cmd.k, .int .i64 m.cmd.cl, .int .i64 m.cmd.op, .string m.cmd.nm, .int .i64 m.cmd.f1, .int .i64 m.cmd.f2, .int .i64 m.cmd.n1, .int .i64 m.cmd.n2, .int .i64 m.cmd.sz, .int .i64 m.upto, .slice (some ⟨ge, 0, none⟩) m.ents.length (m.ents.length + 67), .slice (some ⟨gl, 0, none⟩) m.lasts.length (m.lasts.length + 67), .slice (some ⟨gc, 0, none⟩) m.cmds.length (m.cmds.length + 67), .bool m.more] 39 (0, 0)) :: Blk gb (.cells c.toArray 5 (0, 0)) :: Blk ge (.cells ce.toArray 101 (0, 0)) :: Blk gl (.cells cl.toArray 104 (0, 0)) :: Blk gc (.cells cc.toArray 32 (0, 0)) :: L) wr) (fun i _ => m.blk.length - (intOf i).toNat)
  case atStart => exact ⟨0, _, Nat.zero_le _, rfl, ⟨hcb, hcx⟩, HF⟩
  case round =>
    clear HF
    obtain ⟨k, c, hk, rfl, hc, HF⟩ := hrel
    by_cases hlt : k < m.blk.length
    · have g1x : (k : Int) < m.blk.length := by omega
      obtain ⟨x, hx⟩ := hc.2 k hlt
      have Hc := Lib.hid hc
      have Hx := Lib.hid hx
      clear hc hx hcb hcx
      go_wp2_with (first | ((with_reducible refine k_load ?_); refine st_load rfl _ _ rfl _ _ rfl ?_ HF 0 rfl rfl ?_; (kernel_rfl); (intro K hK; go_simp)))
      apply wp_region_eff [7, 10] (fun i => (#[[], [], [], [], [], [], [], [], [7], [], [7]] : Array (List Nat)).getD i []) (fun val i => ((_ :: _ :: _ :: _ :: _ :: _ :: _ :: val 7 :: _ :: _ :: val 10 :: []) : List Value).toArray.getD i undef) (fun E val => At w0 (Blk g1 (.cells #[.int .i64 m.kind, .bool m.fc, .int .i64 m.fi, .bool m.tc, .int .i64 m.ti, .int .i64 m.op, .int .i64 m.rd, .int .i64 m.kk, .int .i64 m.ka, .int .i64 m.kb, .int .i64 m.kc, .int .i64 m.sn, .int .i64 m.sc, .int .i64 m.hn, .int .i64 m.hc, .slice (some ⟨gb, 0, none⟩) m.blk.length (m.blk.length + 67), .int .i64 m.cmd.k, .int .i64 m.cmd.cl, .int .i64 m.cmd.op, .string m.cmd.nm, .int .i64 m.cmd.f1, .int .i64 m.cmd.f2, .int .i64 m.cmd.n1, .int .i64 m.cmd.n2, .int .i64 m.cmd.sz, .int .i64 m.upto, .slice (some ⟨ge, 0, none⟩) m.ents.length (m.ents.length + 67), .slice (some ⟨gl, 0, none⟩) m.lasts.length (m.lasts.length + 67), .slice (some ⟨gc, 0, none⟩) m.cmds.length (m.cmds.length + 67), .bool m.more] 39 (0, 0)) :: Blk gb (.cells (if E 10 = true then c.set k (.int .u8 (IntKind.u8.wrap (x + 1))) else c).toArray 5 (0, 0)) :: Blk ge (.cells ce.toArray 101 (0, 0)) :: Blk gl (.cells cl.toArray 104 (0, 0)) :: Blk gc (.cells cc.toArray 32 (0, 0)) :: (if E 7 = true then pur (val 7 = .int .u8 x) else emp) :: L)) (by kernel_rfl) (by kernel_rfl) (by kernel_rfl) (by kernel_rfl) (HF.addEmp.sel 6 [1, 2, 3, 4, 5, 0])
      case step =>
        iterate 7 (refine ⟨eff_pl rfl (fun _ => by rfl) fun E val hn T ds w K H hk ho hK => ?_, ?_⟩; rotate_left)
        refine ⟨eff_mk rfl (fun _ => by rfl) fun E val hE0 hcl hn T ds w K H hk ho hK => ?_, ?_⟩; rotate_left
        iterate 2 (refine ⟨eff_pl rfl (fun _ => by rfl) fun E val hn T ds w K H hk ho hK => ?_, ?_⟩; rotate_left)
        refine ⟨eff_mk rfl (fun _ => by rfl) fun E val hE0 hcl hn T ds w K H hk ho hK => ?_, ?_⟩; rotate_left
        exact trivial
        · have o1 := ho 1 (by kernel_rfl); clear ho; simp [know, dstAt, Region.binds] at hk o1; go_simp; exact hK _ H
        · clear ho; simp [know, dstAt, Region.binds] at hk
          (refine op_loadT (v := .slice (some ⟨gb, 0, none⟩) m.blk.length (m.blk.length + 67)) rfl hk (by kernel_rfl) H 0 rfl rfl ?_; exact hK _ H)
        · have o2 := ho 2 (by kernel_rfl); clear ho; simp [know, dstAt, Region.binds] at hk o2; go_simp; exact hK _ H
        · have o1 := ho 1 (by kernel_rfl); clear ho; simp [know, dstAt, Region.binds] at hk o1; go_simp; exact hK _ H
        · clear ho; simp [know, dstAt, Region.binds] at hk
          (refine op_loadT (v := .slice (some ⟨gb, 0, none⟩) m.blk.length (m.blk.length + 67)) rfl hk (by kernel_rfl) H 0 rfl rfl ?_; exact hK _ H)
        · have o2 := ho 2 (by kernel_rfl); clear ho; simp [know, dstAt, Region.binds] at hk o2; go_simp; exact hK _ H
        · clear ho; simp [know, dstAt, Region.binds] at hk; go_simp; exact hK _ H
        · clear ho; simp [know, dstAt, Region.binds] at hk
          (have q10 : E 10 = false := (by cases h : E 10 with | false => rfl | true => (have h2 := hcl 10 (by decide) h 7 (by decide); rw [hE0] at h2; cases h2))); (simp only [hE0, q10, Bool.false_eq_true, if_false] at H); refine op_loadT (v := .int .u8 x) rfl hk (by kernel_rfl) H 1 rfl (by rw [List.getElem?_toArray]; exact Hx.out) ?_; refine hK _ _ ?_; have t7 : updE E 7 7 = true := rfl; have t10 : updE E 7 10 = false := q10; simp only [t7, t10, Bool.false_eq_true, if_false, if_true]; exact (At.pure (rfl : (Value.int .u8 x) = .int .u8 x) H).sel 7 [1, 2, 3, 4, 5, 0]
        · clear ho; simp [know, dstAt, Region.binds] at hk
          first | (have e7 := hn 7 (by decide); simp only [e7, if_true] at H; have hv := (At.unpure (H.pick 5 rfl)).1; have hk2 := hk.trans hv; clear hk hv; go_simp; exact hK _ (by simp only [e7, if_true]; exact H)) | (go_simp; exact hK _ H)
        · clear ho; simp [know, dstAt, Region.binds] at hk; go_simp; exact hK _ H
        · clear ho; simp [know, dstAt, Region.binds] at hk
          (have e7 := hn 7 (by decide)); (simp only [hE0, e7, Bool.false_eq_true, if_false, if_true] at H); refine op_storeT rfl hk.1 hk.2.1 rfl (by kernel_rfl) H 1 rfl (by have := Hc.out.1; simp; omega) ?_; (intro w' H; refine hK _ _ ?_; have t10 : updE E 10 10 = true := rfl; have t7 : updE E 10 7 = true := e7; simp only [t7, t10, if_true]; simp only [List.setIfInBounds_toArray] at H; exact H)
      case ins =>
        iterate 7 (refine ⟨ins_pl rfl (fun _ _ _ => rfl), ?_⟩)
        refine ⟨ins_mk rfl (fun _ => rfl), ?_⟩
        refine ⟨ins_pl rfl (fun val val' h => by first | rfl | ((have h7 := h 7 (by decide)); first | (simp only [h7]; done) | (simp only [h7]; rfl))), ?_⟩
        refine ⟨ins_pl rfl (fun _ _ _ => rfl), ?_⟩
        refine ⟨ins_mk rfl (fun _ => rfl), ?_⟩
        exact trivial
      case jns =>
        iterate 7 (refine ⟨j_pl (fun _ _ _ => rfl), ?_⟩)
        refine ⟨j_mk rfl, ?_⟩
        iterate 2 (refine ⟨j_pl (fun _ _ _ => rfl), ?_⟩)
        refine ⟨j_mk rfl, ?_⟩
        exact trivial
      case fin =>
        intro E val w5 hE H
        have e7 := hE 7 (by decide)
        have e10 := hE 10 (by decide)
        simp only [e7, e10, if_true] at H
        clear HF hE e7 e10
        have HF := H.sel 6 [0, 1, 2, 3, 4]
        clear H
        simp [putAll, Act.put]
        go_wp2_with fail
        go_roundw
        case rel =>
          refine ⟨k + 1, _, by omega, rfl, ⟨by simp [Hc.out.1], fun j hj => ?_⟩, HF⟩
          by_cases hjk : k = j
          · subst hjk
            exact ⟨_, List.getElem?_set_self (by have := Hc.out.1; omega)⟩
          · rw [List.getElem?_set_ne hjk]
            exact Hc.out.2 j hj
        case measure => simp [intOf]; omega
    · have g1x : ¬ (k : Int) < m.blk.length := by omega
      go_wp2_with (first | ((with_reducible refine k_load ?_); refine st_load rfl _ _ rfl _ _ rfl ?_ HF 0 rfl rfl ?_; (kernel_rfl); (intro K hK; go_simp)))
      replace HF : At w0 (Blk g1 (.cells #[.int .i64 m.kind, .bool m.fc, .int .i64 m.fi, .bool m.tc, .int .i64 m.ti, .int .i64 m.op, .int .i64 m.rd, .int .i64 m.kk, .int .i64 m.ka, .int .i64 m.kb, .int .i64 m.kc, .int .i64 m.sn, .int .i64 m.sc, .int .i64 m.hn, .int .i64 m.hc, .slice (some ⟨gb, 0, none⟩) m.blk.length (m.blk.length + 67), .int .i64 m.cmd.k, .int .i64 m.cmd.cl, .int .i64 m.cmd.op, .string m.cmd.nm, .int .i64 m.cmd.f1, .int .i64 m.cmd.f2, .int .i64 m.cmd.n1, .int .i64 m.cmd.n2, .int .i64 m.cmd.sz, .int .i64 m.upto, .slice (some ⟨ge, 0, none⟩) m.ents.length (m.ents.length + 67), .slice (some ⟨gl, 0, none⟩) m.lasts.length (m.lasts.length + 67), .slice (some ⟨gc, 0, none⟩) m.cmds.length (m.cmds.length + 67), .bool m.more] 39 (0, 0)) :: Blk ge (.cells ce.toArray 101 (0, 0)) :: Blk gl (.cells cl.toArray 104 (0, 0)) :: Blk gc (.cells cc.toArray 32 (0, 0)) :: L) _ := HF.sel 2 [0]
      clear hcb hcx hc g1x hlt hk
      go_loopw [3] (fun i wr => ∃ (k : Nat) (c : List Value), k ≤ m.cmds.length ∧ i = .int .i64 k ∧ c.length = (m.cmds.length + 67) * 9 ∧ At w0 (Blk g1 (.cells #[.int .i64 m.kind, .bool m.fc, .int .i64 m.fi, .bool m.tc, .int .i64 m.ti, .int .i64 m.op, .int .i64 m.rd, .int .i64 m.kk, .int .i64 m.ka, .int .i64 m.kb, .int .i64 m.kc, .int .i64 m.sn, .int .i64 m.sc, .int .i64 m.hn, .int .i64 m.hc, .slice (some ⟨gb, 0, none⟩) m.blk.length (m.blk.length + 67), .int .i64 m.cmd.k, .int .i64 m.cmd.cl, .int .i64 m.cmd.op, .string m.cmd.nm, .int .i64 m.cmd.f1, .int .i64 m.cmd.f2, .int .i64 m.cmd.n1, .int .i64 m.cmd.n2, .int .i64 m.cmd.sz, .int .i64 m.upto, .slice (some ⟨ge, 0, none⟩) m.ents.length (m.ents.length + 67), .slice (some ⟨gl, 0, none⟩) m.lasts.length (m.lasts.length + 67), .slice (some ⟨gc, 0, none⟩) m.cmds.length (m.cmds.length + 67), .bool m.more] 39 (0, 0)) :: Blk ge (.cells ce.toArray 101 (0, 0)) :: Blk gl (.cells cl.toArray 104 (0, 0)) :: Blk gc (.cells c.toArray 32 (0, 0)) :: L) wr) (fun i _ => m.cmds.length - (intOf i).toNat)
      case atStart => exact ⟨0, _, Nat.zero_le _, rfl, hcc, HF⟩
      case round =>
        clear HF
        obtain ⟨k, c, hk, rfl, hc, HF⟩ := hrel
        by_cases hlt : k < m.cmds.length
        · have g1x : (k : Int) < m.cmds.length := by omega
          have Hc := Lib.hid hc
          clear hc hcc
          go_wp2_with (first | ((with_reducible refine k_load ?_); refine st_load rfl _ _ rfl _ _ rfl ?_ HF 0 rfl rfl ?_; (kernel_rfl); (intro K hK; go_simp)) | ((with_reducible refine k_store (T := 32) ?_); refine st_stores rfl _ _ _ rfl _ _ rfl #[.int .i64 0, .int .i64 0, .int .i64 0, .string ⟨#[115, 112, 111, 105, 108, 116]⟩, .int .i64 0, .int .i64 0, .int .i64 0, .int .i64 0, .int .i64 0] rfl ?_ s32 HF 3 rfl ?_ ?_; (simp [Value.oneCell']); (have := Hc.out; simp; omega); (clear HF; intro w HF K hK; simp only [List.set_cons_zero, List.set_cons_succ] at HF; go_simp)))
          go_roundw
          case rel => exact ⟨k + 1, _, by omega, rfl, (by have := Hc.out; simp; omega), HF⟩
          case measure => simp [intOf]; omega
        · have g1x : ¬ (k : Int) < m.cmds.length := by omega
          go_wp2_with (first | ((with_reducible refine k_load (T := 36) ?_); refine st_row rfl _ _ rfl _ rfl a36 3 s36 HF 0 rfl rfl ?_; (intro K hK; go_simp)) | ((with_reducible refine k_load (T := 36) ?_); refine st_loads rfl _ _ rfl _ _ rfl a36 3 s36 HF 0 rfl ?_ ?_; (simp); (intro K hK; go_simp)) | ((with_reducible refine k_load ?_); refine st_load rfl _ _ rfl _ _ rfl ?_ HF 0 rfl rfl ?_; (kernel_rfl); (intro K hK; go_simp)))
          have HY : At w0 (Blk ge (.cells ce.toArray 101 (0, 0)) :: Blk gl (.cells cl.toArray 104 (0, 0)) :: L) _ := HF.sel 4 [1, 2]
          refine (spoilK (u := m.upto) (n := m.ents.length) (k2 := m.lasts.length) He.out Hl.out be bl HY).mono ?_
          rintro e w7 ⟨rfl, HX⟩
          go_wp2_with fail
          exact ⟨rfl, .tuple #[], results_none rfl, rfl, HX⟩
end
end Md
end Go.Proofs.Ytjobojgmadjmfaa
