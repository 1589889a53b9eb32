/-
  Apply: a bucket behind a command, and the answer.
-/
import Derived.Test.YtcofcikdknmggaaBkApL
namespace Go.Proofs.Ytcofcikdknmggaa
open Go.Hp Go.RowKit
set_option linter.unusedVariables false
set_option linter.unusedSimpArgs false
set_option maxRecDepth 100000
set_option maxHeartbeats 1000000
namespace Bk

def ApplyS (b : Bu) (c : Cm) (room : Int) : (Int × An) × Bu :=
  if (applyS b c room).1.1 = 0 then applyS b c room else (((applyS b c room).1.1, an0), ⟨0, [], []⟩)

def BuPost (w0 : World) (L : List HProp) (r : (Int × An) × Bu) (e : Ending) (w' : World) : Prop :=
  ∃ ve vl va, e = .returned (.tuple #[.agg #[.int .i64 r.2.u, ve, vl], anV r.1.2.err r.1.2.e va, .int .i64 r.1.1]) ∧ At w0 (OE ve r.2.es :: OL vl r.2.ls :: OE va r.1.2.l :: L) w'

theorem results_cct {P : Program} {fn : Func} {p q s : Tmp} {ty ty2 : TypeId} (h : fn.results = #[.cell p ty, .cell q ty2, .tmp s]) {tmps : Array Value} {w : World} {g g2 : Nat} {t t2 : TypeId} {cs cs2 : Array Value} {fr fr2 : Nat × Nat} {n n2 : Nat}
    (hp : tmps.getD p undef = .pointer (some ⟨g, 0, none⟩)) (hT : aggT P ty = true) (hn : sizeT P ty = some n) (hg : w.heap[g]? = some (.cells cs t fr)) (hc : cs.size = n)
    (hp2 : tmps.getD q undef = .pointer (some ⟨g2, 0, none⟩)) (hT2 : aggT P ty2 = true) (hn2 : sizeT P ty2 = some n2) (hg2 : w.heap[g2]? = some (.cells cs2 t2 fr2)) (hc2 : cs2.size = n2) :
    (results fn tmps).run P w = .ok (.tuple #[.agg cs, .agg cs2, tmps.getD s undef]) w := by
  have hr := run_loadVar_agg (P := P) (off := 0) hT hn hg (by omega)
  have hr2 := run_loadVar_agg (P := P) (off := 0) hT2 hn2 hg2 (by omega)
  have e : cs.extract 0 (0 + n) = cs := by rw [Nat.zero_add, ← hc, Array.extract_size]
  have e2 : cs2.extract 0 (0 + n2) = cs2 := by rw [Nat.zero_add, ← hc2, Array.extract_size]
  rw [e] at hr
  rw [e2] at hr2
  have hp' : tmps[p]?.getD undef = .pointer (some ⟨g, 0, none⟩) := by simpa using hp
  have hp2' : tmps[q]?.getD undef = .pointer (some ⟨g2, 0, none⟩) := by simpa using hp2
  simp [results, h, hp', hp2', asAddr, hr, hr2]

section
variable {w0 w : World} {L : List HProp}

theorem apply {gb : Nat} {room : Int} {ve vl : Value} {b : Bu} {c : Cm} (hu0 : -9223372036854775808 ≤ b.u) (be : (b.es.length + 1) * 40 ≤ 140737488355328) (bl : (b.ls.length + 1) * 56 ≤ 140737488355328)
    (H : At w0 (Blk gb (.cells #[.int .i64 b.u, ve, vl] 25 (0, 0)) :: OE ve b.es :: OL vl b.ls :: L) w) :
    Calls Try.prog 31 #[.pointer (some ⟨gb, 0, none⟩), .agg c.cells.toArray, .int .i64 room] w (ApPost w0 L gb (applyS b c room)) := by
  cases hc : wrongS c with
  | true => exact apply_no (r := 105) (by unfold applyS; rw [if_pos hc]) (.inl ⟨hc, rfl⟩) H
  | false =>
    by_cases hu : 1048576 ≤ b.u
    · exact apply_no (r := 4) (by unfold applyS; rw [if_neg (by rw [hc]; decide), if_pos hu]) (.inr ⟨hc, hu, rfl⟩) H
    · by_cases hk : c.k = 4
      · exact apply_list hc (by omega) hu0 hk be H
      · exact apply_do hc (by omega) hu0 hk be bl H

theorem Apply {room : Int} {ve vl : Value} {b : Bu} {c : Cm} (he : RecsAt w ve 4 (b.es.map En.cells)) (hl : RecsAt w vl 7 (b.ls.map La.cells)) (hu0 : -9223372036854775808 ≤ b.u) (be : (b.es.length + 1) * 40 ≤ 140737488355328) (bl : (b.ls.length + 1) * 56 ≤ 140737488355328) (H : At w0 L w) :
    Calls Try.prog 12 #[.agg #[.int .i64 b.u, ve, vl], .agg c.cells.toArray, .int .i64 room] w (BuPost w0 L (ApplyS b c room)) := by
  obtain ⟨W, rfl⟩ : ∃ W : World, W = w := ⟨_, rfl⟩
  unfold ApplyS
  obtain ⟨⟨⟨er, ⟨ae, ⟨xn, xf, xo, xs⟩, al⟩⟩, ⟨u2, es2, ls2⟩⟩, hr⟩ : ∃ r, applyS b c room = r := ⟨_, rfl⟩
  rw [hr]
  have Hr := Lib.hid hr
  clear hr
  obtain ⟨RS, hRS⟩ : ∃ RS : (Int × An) × Bu, (if ((er, (⟨ae, ⟨xn, xf, xo, xs⟩, al⟩ : An)), (⟨u2, es2, ls2⟩ : Bu)).1.1 = 0 then ((er, (⟨ae, ⟨xn, xf, xo, xs⟩, al⟩ : An)), (⟨u2, es2, ls2⟩ : Bu)) else ((er, an0), ⟨0, [], []⟩)) = RS := ⟨_, rfl⟩
  have hRS2 : BuPost w0 L (if ((er, (⟨ae, ⟨xn, xf, xo, xs⟩, al⟩ : An)), (⟨u2, es2, ls2⟩ : Bu)).1.1 = 0 then ((er, (⟨ae, ⟨xn, xf, xo, xs⟩, al⟩ : An)), (⟨u2, es2, ls2⟩ : Bu)) else ((((er, (⟨ae, ⟨xn, xf, xo, xs⟩, al⟩ : An)), (⟨u2, es2, ls2⟩ : Bu)).1.1, an0), ⟨0, [], []⟩)) = BuPost w0 L RS := by rw [← hRS]
  rw [hRS2]
  clear hRS2
  have HRS := Lib.hid hRS
  clear hRS
  have HF := At.of W
  have H0 := Lib.hid H
  have He := Lib.hid he
  have Hl := Lib.hid hl
  clear he hl H
  have Hap := Lib.hid (fun (w1 w2 : World) (M : List HProp) (gb : Nat) (v1 v2 : Value) => @apply w1 w2 M gb room v1 v2 b c hu0 be bl)
  rw [Hr.out] at Hap
  obtain ⟨kd, cl, op, nm, fc, fo, nc, no, sz⟩ := c
  obtain ⟨u, es, ls⟩ := b
  dsimp only at *
  simp only [Cm.cells] at *
  have tok : True := trivial
  go_enter Try.func12, Try.ntmps12
  go_wp2_with (first | ((with_reducible refine k_box (T := 25) ?_); refine st_box rfl _ _ rfl _ rfl HF ?_; (clear HF; intro g3 w HF K hK; simp only [Value.cells, Act.eval, Value.cells, Array.getD_eq_getD_getElem?, List.getElem?_toArray, List.getElem?_cons_succ, List.getElem?_cons_zero, Option.getD_some] at HF; go_simp)) | ((with_reducible refine k_box (T := 29) ?_); refine st_box rfl _ _ rfl _ rfl HF ?_; (clear HF; intro g4 w HF K hK; simp only [Value.cells, Act.eval, Value.cells, Array.getD_eq_getD_getElem?, List.getElem?_toArray, List.getElem?_cons_succ, List.getElem?_cons_zero, Option.getD_some] at HF; go_simp)) | ((with_reducible refine k_alloc (T := 25) ?_); (have _t := tok); refine st_alloc rfl _ rfl _ z25 _ rfl HF ?_; (clear HF tok _t; intro g6 w HF K hK; simp only [Value.cells] at HF; go_simp)) | ((with_reducible refine k_alloc (T := 41) ?_); refine st_alloc rfl _ rfl _ z41 _ rfl HF ?_; (clear HF; intro g7 w HF K hK; simp only [Value.cells] at HF; go_simp)) | ((with_reducible refine k_load (T := 25) ?_); refine st_row rfl _ _ rfl _ rfl a25 3 s25 HF 3 rfl rfl ?_; (intro K hK; go_simp)) | ((with_reducible refine k_load (T := 25) ?_); refine st_loads rfl _ _ rfl _ _ rfl a25 3 s25 HF 3 rfl ?_ ?_; (simp); (intro K hK; go_simp)))
  refine (twin (He.out.ext (HF.ext 4 rfl)) (Hl.out.ext (HF.ext 4 rfl)) (by omega) (by omega) HF).mono ?_
  rintro e w3 ⟨ve1, vl1, rfl, HF3⟩
  clear HF
  have HF := HF3
  clear HF3
  obtain ⟨ad1, n1, cap1, rfl⟩ := own_form HF
  obtain ⟨ad2, n2, cap2, rfl⟩ := own_form (HF.pick 1 rfl)
  go_wp2_with (first | ((with_reducible refine k_alloc (T := 25) ?_); refine st_alloc rfl _ rfl _ z25 _ rfl HF ?_; (clear HF; intro g9 w HF K hK; simp only [Value.cells] at HF; go_simp)) | ((with_reducible refine k_store (T := 25) ?_); refine st_put rfl _ _ _ rfl _ rfl _ rfl ?_ s25 HF 0 rfl rfl ?_; (simp [Value.oneCell']); (clear HF; intro w HF K hK; simp only [List.set_cons_zero, List.set_cons_succ, Act.eval, Value.cells, Array.getD_eq_getD_getElem?, List.getElem?_toArray, List.getElem?_cons_succ, List.getElem?_cons_zero, Option.getD_some] at HF; go_simp)) | ((with_reducible refine k_load (T := 29) ?_); refine st_row rfl _ _ rfl _ rfl a29 9 s29 HF 5 rfl rfl ?_; (intro K hK; go_simp)) | ((with_reducible refine k_load (T := 29) ?_); refine st_loads rfl _ _ rfl _ _ rfl a29 9 s29 HF 5 rfl ?_ ?_; (simp); (intro K hK; go_simp)))
  refine (Hap.out _ _ _ g9 _ _ (HF.sel 7 [0, 1, 2, 3, 4, 5, 6])).mono ?_
  rintro e w4 ⟨ve2, vl2, va2, rfl, HF4⟩
  clear HF
  have HF := HF4
  clear HF4
  obtain ⟨ad3, n3, cap3, rfl⟩ := own_form (HF.pick 1 rfl)
  obtain ⟨ad4, n4, cap4, rfl⟩ := own_form (HF.pick 2 rfl)
  obtain ⟨ad5, n5, cap5, rfl⟩ := own_form (HF.pick 3 rfl)
  simp only [anV]
  by_cases h0 : er = 0
  · subst h0
    go_wp2_with (first | ((with_reducible refine k_alloc (T := 41) ?_); refine st_alloc rfl _ rfl _ z41 _ rfl HF ?_; (clear HF; intro g10 w HF K hK; simp only [Value.cells] at HF; go_simp)) | ((with_reducible refine k_store (T := 41) ?_); refine st_put rfl _ _ _ rfl _ rfl _ rfl ?_ s41 HF 0 rfl rfl ?_; (simp [Value.oneCell']); (clear HF; intro w HF K hK; simp only [List.set_cons_zero, List.set_cons_succ, Act.eval, Value.cells, Array.getD_eq_getD_getElem?, List.getElem?_toArray, List.getElem?_cons_succ, List.getElem?_cons_zero, Option.getD_some] at HF; go_simp)))
    apply wp_region_eff [2, 3] (fun i => (#[[], [], [], [], []] : Array (List Nat)).getD i []) (fun val i => ((_ :: _ :: val 2 :: val 3 :: _ :: []) : List Value).toArray.getD i undef) (fun E val => At W (Blk g10 (.cells #[.int .i64 ae, .string xn, .int .i64 xf, .int .i64 xo, .int .i64 xs, .slice ad5 n5 cap5] 41 (0, 0)) :: Blk g9 (.cells #[.int .i64 u2, .slice ad3 n3 cap3, .slice ad4 n4 cap4] 25 (0, 0)) :: OE (.slice ad3 n3 cap3) es2 :: OL (.slice ad4 n4 cap4) ls2 :: OE (.slice ad5 n5 cap5) al :: Blk g7 (.cells (if E 3 = true then #[.int .i64 ae, .string xn, .int .i64 xf, .int .i64 xo, .int .i64 xs, .slice ad5 n5 cap5] else #[.int .i64 0, .string ⟨#[]⟩, .int .i64 0, .int .i64 0, .int .i64 0, .slice none 0 0]) 41 (0, 0)) :: Blk g6 (.cells (if E 2 = true then #[.int .i64 u2, .slice ad3 n3 cap3, .slice ad4 n4 cap4] else #[.int .i64 0, .slice none 0 0, .slice none 0 0]) 25 (0, 0)) :: [Arg W])) (by kernel_rfl) (by kernel_rfl) (by kernel_rfl) (by kernel_rfl) (HF.sel 10 [0, 1, 2, 3, 4, 5, 6, 9])
    case step =>
      iterate 2 (refine ⟨eff_pl rfl (fun _ => by rfl) fun E val hn T ds w K H hk ho hK => ?_, ?_⟩; rotate_left)
      iterate 2 (refine ⟨eff_mk rfl (fun _ => by rfl) fun E val hE0 hcl hn T ds w K H hk ho hK => ?_, ?_⟩; rotate_left)
      refine ⟨eff_pl rfl (fun _ => by rfl) fun E val hn T ds w K H hk ho hK => ?_, ?_⟩; rotate_left
      exact trivial
      · have o9 := ho 9 (by kernel_rfl); clear ho; simp [know, dstAt, Region.binds] at hk o9
        (refine op_rowT (T := 25) rfl o9 a25 s25 H 1 rfl rfl ?_; exact hK _ H)
      · have o10 := ho 10 (by kernel_rfl); clear ho; simp [know, dstAt, Region.binds] at hk o10
        (refine op_rowT (T := 41) rfl o10 a41 s41 H 0 rfl rfl ?_; exact hK _ H)
      · have o6 := ho 6 (by kernel_rfl); clear ho; simp [know, dstAt, Region.binds] at hk o6
        (simp only [hE0, Bool.false_eq_true, if_false] at H); refine op_putT rfl o6 hk ?_ s25 H 6 rfl rfl rfl ?_; (simp [Value.oneCell']); (intro w' H; refine hK _ _ ?_; have t2 : updE E 2 2 = true := rfl; have t3 : updE E 2 3 = E 3 := rfl; simp only [t2, t3, if_true]; exact H)
      · have o7 := ho 7 (by kernel_rfl); clear ho; simp [know, dstAt, Region.binds] at hk o7
        (simp only [hE0, Bool.false_eq_true, if_false] at H); refine op_putT rfl o7 hk.1 ?_ s41 H 5 rfl rfl rfl ?_; (simp [Value.oneCell']); (intro w' H; refine hK _ _ ?_; have t3 : updE E 3 3 = true := rfl; have t2 : updE E 3 2 = E 2 := rfl; simp only [t2, t3, if_true]; exact H)
      · clear ho; simp [know, dstAt, Region.binds] at hk; go_simp; exact hK _ H
    case ins =>
      iterate 2 (refine ⟨ins_pl rfl (fun _ _ _ => rfl), ?_⟩)
      iterate 2 (refine ⟨ins_mk rfl (fun _ => rfl), ?_⟩)
      refine ⟨ins_pl rfl (fun _ _ _ => rfl), ?_⟩
      exact trivial
    case jns =>
      iterate 2 (refine ⟨j_pl (fun _ _ _ => rfl), ?_⟩)
      iterate 2 (refine ⟨j_mk rfl, ?_⟩)
      refine ⟨j_pl (fun _ _ _ => rfl), ?_⟩
      exact trivial
    case fin =>
      intro E val w5 hE H
      have e2 := hE 2 (by decide)
      have e3 := hE 3 (by decide)
      simp only [e2, e3, if_true] at H
      clear hE e2 e3
      simp [putAll, Act.put]
      go_wp2_with fail
      refine bodyPost_ret (results_cct rfl rfl a25 s25 (H.get 6 rfl) rfl rfl a41 s41 (H.get 5 rfl) rfl) rfl ?_
      rw [← HRS.out, if_pos trivial]
      exact ⟨_, _, _, rfl, (show At W ([OE (.slice ad3 n3 cap3) es2, OL (.slice ad4 n4 cap4) ls2, OE (.slice ad5 n5 cap5) al] ++ [Arg W]) w5 from H.sel 8 [2, 3, 4, 7]).lift H0.out⟩
  · go_wp2_with (first | ((with_reducible refine k_alloc (T := 41) ?_); refine st_alloc rfl _ rfl _ z41 _ rfl HF ?_; (clear HF; intro g10 w HF K hK; simp only [Value.cells] at HF; go_simp)) | ((with_reducible refine k_store (T := 41) ?_); refine st_put rfl _ _ _ rfl _ rfl _ rfl ?_ s41 HF 0 rfl rfl ?_; (simp [Value.oneCell']); (clear HF; intro w HF K hK; simp only [List.set_cons_zero, List.set_cons_succ, Act.eval, Value.cells, Array.getD_eq_getD_getElem?, List.getElem?_toArray, List.getElem?_cons_succ, List.getElem?_cons_zero, Option.getD_some] at HF; go_simp)) | ((with_reducible refine k_store (T := 41) ?_); refine st_put rfl _ _ _ rfl _ rfl _ rfl ?_ s41 HF 5 rfl rfl ?_; (simp [Value.oneCell']); (clear HF; intro w HF K hK; simp only [List.set_cons_zero, List.set_cons_succ, Act.eval, Value.cells, Array.getD_eq_getD_getElem?, List.getElem?_toArray, List.getElem?_cons_succ, List.getElem?_cons_zero, Option.getD_some] at HF; go_simp)) | ((with_reducible refine k_store (T := 25) ?_); refine st_put rfl _ _ _ rfl _ rfl _ rfl ?_ s25 HF 6 rfl rfl ?_; (simp [Value.oneCell']); (clear HF; intro w HF K hK; simp only [List.set_cons_zero, List.set_cons_succ, Act.eval, Value.cells, Array.getD_eq_getD_getElem?, List.getElem?_toArray, List.getElem?_cons_succ, List.getElem?_cons_zero, Option.getD_some] at HF; go_simp)))
    refine bodyPost_ret (results_cct rfl rfl a25 s25 (HF.get 6 rfl) rfl rfl a41 s41 (HF.get 5 rfl) rfl) rfl ?_
    rw [← HRS.out, if_neg h0]
    have H5 := HF.sel 10 [9]
    exact ⟨_, _, _, rfl, (show At W ([OE (.slice none 0 0) [], OL (.slice none 0 0) [], OE (.slice none 0 0) []] ++ [Arg W]) _ from own_nil (own_nil (own_nil H5 39 4) 53 7) 39 4).lift H0.out⟩
end
end Bk
end Go.Proofs.Ytcofcikdknmggaa
