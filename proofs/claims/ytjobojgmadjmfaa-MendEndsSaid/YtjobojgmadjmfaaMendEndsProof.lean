/-
  MendEnds: a mend of a bucket ends behind so many Takes; then the one who asked knows what either knew.
-/
import Derived.Test.YtjobojgmadjmfaaMdEn
import Derived.ProofKit
namespace Go.Proofs.Ytjobojgmadjmfaa
open Go.Hp Go.RowKit Go.ChangeShapes Go.WideShapes
set_option linter.unusedVariables false
set_option linter.unusedSimpArgs false
set_option maxRecDepth 100000
namespace mendEnds
open Md
namespace Lw
abbrev arg_int := @Md.arg_int
abbrev arg_ints := @Md.arg_ints
end Lw
section
variable {W : World}

set_option maxHeartbeats 8000000 in
theorem walk {v0 v1 v2 v3 v4 v5 : Value} {ua ka ub kb : Int} {oa ob : List Int} (h0 : v0 = .int .i64 ua ∧ In64 ua) (h1 : v1 = .int .i64 ka ∧ In64 ka) (h2 : IntsArg W v2 oa) (h3 : v3 = .int .i64 ub ∧ In64 ub) (h4 : v4 = .int .i64 kb ∧ In64 kb) (h5 : IntsArg W v5 ob) :
    Calls Try.prog 6 #[v0, v1, v2, v3, v4, v5] W fun e w => e = .returned (.bool true) ∧ Below W.heap.size W w := by
  obtain ⟨rfl, -⟩ := h0
  obtain ⟨rfl, -⟩ := h1
  obtain ⟨rfl, -⟩ := h3
  obtain ⟨rfl, -⟩ := h4
  obtain ⟨oa1, oa2, oa3⟩ := h2
  obtain ⟨ob1, ob2, ob3⟩ := h5
  have HF := At.of W
  have IA := Lib.hid oa2
  have IB := Lib.hid ob2
  have RA := Lib.hid oa1
  have RB := Lib.hid ob1
  clear oa1 oa2 oa3 ob1 ob2 ob3
  go_enter Try.func6, Try.ntmps6
  go_wp2_with fail
  refine (known HF).mono ?_
  rintro e w1 ⟨rfl, H1⟩
  replace HF := H1
  clear H1
  go_wp2_with fail
  refine (round (by decide) (by decide) ua HF).mono ?_
  rintro e w2 ⟨rfl, H1⟩
  replace HF := H1
  clear H1
  go_wp2_with fail
  refine (round (by decide) (by decide) ka HF).mono ?_
  rintro e w3 ⟨rfl, H1⟩
  replace HF := H1
  clear H1
  obtain ⟨a0, a1⟩ := roundS_lt (v := ua) (n := 300) (by decide)
  obtain ⟨a2, a3⟩ := roundS_lt (v := ka) (n := 200) (by decide)
  generalize roundS ua 300 = u1 at *
  generalize roundS ka 200 = m1 at *
  go_wp2_with fail
  refine (holds a0 a1 a2 a3 (RA.out.ext (HF.ext 0 rfl)) IA.out HF).mono ?_
  rintro e w4 ⟨a, vea, vra, rfl, hpa, a4, a5, a6, H1⟩
  have PA := Lib.hid (plain_top hpa (show u1 + m1 + 20 ≤ 600 by omega))
  have QA := Lib.hid (And.intro a4 (And.intro a5 a6))
  have UA := Lib.hid (show u1 ≤ 600 by omega)
  have q2 := row_one (hold_at H1)
  have q4 := row_one (hold_at H1.drop)
  replace HF := H1
  clear H1 hpa a4 a5 a6 a0 a1 a2 a3
  go_wp2_with (first | ((with_reducible refine k_alloc (T := 44) ?_); refine st_alloc rfl _ rfl _ z44 _ rfl HF ?_; (clear HF; intro g13 w HF K hK; simp only [Value.cells] at HF; go_simp)) | ((with_reducible refine k_store (T := 44) ?_); refine st_put rfl _ _ _ rfl _ rfl _ rfl (hdV_one rfl q2 rfl q4) s44 HF 0 rfl rfl ?_; (clear HF; intro w HF K hK; simp only [List.set_cons_zero, List.set_cons_succ, Act.eval, Value.cells, Array.getD_eq_getD_getElem?, List.getElem?_toArray, List.getElem?_cons_succ, List.getElem?_cons_zero, Option.getD_some] at HF; go_simp)))
  refine (round (by decide) (by decide) ub HF).mono ?_
  rintro e w5 ⟨rfl, H1⟩
  replace HF := H1
  clear H1
  go_wp2_with fail
  refine (round (by decide) (by decide) kb HF).mono ?_
  rintro e w6 ⟨rfl, H1⟩
  replace HF := H1
  clear H1
  obtain ⟨a0, a1⟩ := roundS_lt (v := ub) (n := 300) (by decide)
  obtain ⟨a2, a3⟩ := roundS_lt (v := kb) (n := 200) (by decide)
  generalize roundS ub 300 = u2 at *
  generalize roundS kb 200 = m2 at *
  go_wp2_with fail
  refine (holds a0 a1 a2 a3 (RB.out.ext (HF.ext 3 rfl)) IB.out HF).mono ?_
  rintro e w7 ⟨b, veb, vrb, rfl, hpb, a4, a5, a6, H1⟩
  have PB := Lib.hid (plain_top hpb (show u2 + m2 + 20 ≤ 600 by omega))
  have QB := Lib.hid (And.intro a4 (And.intro a5 a6))
  have UB := Lib.hid (show u2 ≤ 600 by omega)
  have p2 := row_one (hold_at H1)
  have p4 := row_one (hold_at H1.drop)
  replace HF := H1
  clear H1 hpb a4 a5 a6 a0 a1 a2 a3
  go_wp2_with (first | ((with_reducible refine k_alloc (T := 44) ?_); refine st_alloc rfl _ rfl _ z44 _ rfl HF ?_; (clear HF; intro g14 w HF K hK; simp only [Value.cells] at HF; go_simp)) | ((with_reducible refine k_store (T := 44) ?_); refine st_put rfl _ _ _ rfl _ rfl _ rfl (hdV_one rfl p2 rfl p4) s44 HF 0 rfl rfl ?_; (clear HF; intro w HF K hK; simp only [List.set_cons_zero, List.set_cons_succ, Act.eval, Value.cells, Array.getD_eq_getD_getElem?, List.getElem?_toArray, List.getElem?_cons_succ, List.getElem?_cons_zero, Option.getD_some] at HF; go_simp)))
  have tb := top_bound PB.out.may
  have tl := top_lo PB.out.may
  obtain ⟨eb1, eb2⟩ := edge_bound PA.out.may
  have eb0 := PA.out.may.u0
  have hws : IntKind.i64.wrap (topS b - edgeS a) = topS b - edgeS a := IntWalk.i64_in _ (by omega)
  have hdl : -1048576 ≤ topS b - edgeS a ∧ topS b - edgeS a ≤ 1048576 := by omega
  have HDL := Lib.hid hdl
  clear tb tl eb1 eb2 eb0 hdl
  apply wp_region_eff [] (fun i => (#[[], [], [], [], [], []] : Array (List Nat)).getD i []) (fun val i => ((_ :: _ :: _ :: _ :: _ :: _ :: []) : List Value).toArray.getD i undef) (fun E val => At W (Blk g14 (.cells (hdV b nl veb nl vrb) 44 (0, 0)) :: Hold veb b.ents.length b.ents.flatten :: Hold vrb b.row.length (b.row.map Pl.cells).flatten :: Blk g13 (.cells (hdV a nl vea nl vra) 44 (0, 0)) :: Hold vea a.ents.length a.ents.flatten :: Hold vra a.row.length (a.row.map Pl.cells).flatten :: Arg W :: [])) (by kernel_rfl) (by kernel_rfl) (by kernel_rfl) (by kernel_rfl) (HF)
  case step =>
    iterate 6 (refine ⟨eff_pl rfl (fun _ => by rfl) fun E val hn T ds w K H hk ho hK => ?_, ?_⟩; rotate_left)
    exact trivial
    · have o14 := ho 14 (by kernel_rfl); clear ho; simp [know, dstAt, Region.binds] at hk o14
      (refine op_rowT (T := 44) rfl o14 a44 s44 H 0 rfl rfl ?_; exact hK _ H)
    · clear ho; simp [know, dstAt, Region.binds] at hk
      (go_simp; refine (rtop PB.out.ok (by have := may_len PB.out.may; omega) (hdAt_hold PB.out QB.out.2.2 (H.sel 6 [1, 2])).r H).mono ?_; rintro e w' ⟨rfl, H⟩; exact hK _ H)
    · have o13 := ho 13 (by kernel_rfl); clear ho; simp [know, dstAt, Region.binds] at hk o13
      (refine op_rowT (T := 44) rfl o13 a44 s44 H 3 rfl rfl ?_; exact hK _ H)
    · clear ho; simp [know, dstAt, Region.binds] at hk
      (go_simp; refine (edgeL PA.out.may PA.out.ok (by have := may_len PA.out.may; omega) (hdAt_hold PA.out QA.out.2.2 (H.sel 6 [4, 5])) H).mono ?_; rintro e w' ⟨rfl, H⟩; exact hK _ H)
    · clear ho; simp [know, dstAt, Region.binds] at hk; go_simp; exact hK _ H
    · clear ho; simp [know, dstAt, Region.binds] at hk; go_simp; exact hK _ H
  case ins =>
    iterate 6 (refine ⟨ins_pl rfl (fun _ _ _ => rfl), ?_⟩)
    exact trivial
  case jns =>
    iterate 6 (refine ⟨j_pl (fun _ _ _ => rfl), ?_⟩)
    exact trivial
  case fin =>
    intro E val w8 hE H
    clear HF hE
    have HF := H
    clear H
    simp [putAll, Act.put]
    clear hws
    obtain ⟨d, hdd⟩ : ∃ d, topS b - edgeS a = d := ⟨_, rfl⟩
    have HDD := Lib.hid hdd
    have hdl := HDL.out
    rw [hdd] at hdl
    simp only [hdd]
    clear hdd
    by_cases hneg : d < 0
    · skip
      have hD0 : 0 ≤ (0 : Int) := by omega
      have hw1 : IntKind.i64.wrap (((0 : Int)).tdiv 64) = ((0 : Int)) / 64 := by
        rw [Int.tdiv_eq_ediv_of_nonneg hD0]
        exact IntWalk.i64_in _ (by omega)
      have hw2 : IntKind.i64.wrap (2 + ((0 : Int)) / 64) = 2 + ((0 : Int)) / 64 := IntWalk.i64_in _ (by omega)
      have HD := Lib.hid hD0
      clear hD0
      go_wp2_with (first | ((with_reducible refine k_load (T := 44) ?_); (first | refine st_row rfl _ _ rfl _ rfl a44 7 s44 HF 0 rfl rfl ?_ | refine st_row rfl _ _ rfl _ rfl a44 7 s44 HF 3 rfl rfl ?_); (intro K hK; go_simp)) | ((with_reducible refine k_load (T := 44) ?_); (first | refine st_loads rfl _ _ rfl _ _ rfl a44 7 s44 HF 0 rfl ?_ ?_ | refine st_loads rfl _ _ rfl _ _ rfl a44 7 s44 HF 3 rfl ?_ ?_); (simp); (intro K hK; go_simp)))
      have H8 := Lib.hid HF
      have h13 := Lib.hid (HF.get 3 rfl)
      have l13 := Lib.hid (HF.lt 3 rfl)
      have h14 := Lib.hid (HF.get 0 rfl)
      have l14 := Lib.hid (HF.lt 0 rfl)
      have VA := Lib.hid (hdAt_hold PA.out QA.out.2.2 (HF.sel 6 [4, 5]))
      have VB := Lib.hid (hdAt_hold PB.out QB.out.2.2 (HF.sel 6 [1, 2]))
      obtain ⟨W8, rfl⟩ : ∃ W8 : World, W8 = w8 := ⟨_, rfl⟩
      have hsa := plain_sz PA.out (by rw [QA.out.2.2]; decide)
      have hsb := plain_sz PB.out (by rw [QB.out.2.2]; decide)
      refine (row (f := 7) (t := 9) (kk := 2) (ka := 0) (kb := 0) (kc := 0) (in_of (by decide) (by decide)) (in_of (by decide) (by decide)) in2 in0 in0 in0 PA.out.may PA.out.ok hsa PB.out.may PB.out.ok hsb VA.out VB.out (At.of W8)).mono ?_
      rintro e w9 ⟨vd9, ve9, vl9, vr9, P9, rfl, hP9, ok9, sz9, H9⟩
      have MB := Lib.hid (mend_bucket PA.out PB.out UA.out UB.out (by decide) 7 9)
      generalize rowS 299 (askS 7 9 2 0 0 0 a) a b = r at *
      have P9F := Lib.hid hP9
      have OK9 := Lib.hid ok9
      have SZ9 := Lib.hid sz9
      have hnk := MB.out.n
      have hn9 : ¬ 2 + ((0 : Int)) / 64 < (r.2.1 : Int) := by rw [HDD.out] at hnk; rw [if_pos hneg] at hnk; omega
      have f9 := hP9 _ _ _ (H9.ext 1 rfl).sub H9
      have r1 := row_one f9.d
      have r2 := row_one f9.e.1
      have r3 := row_one f9.l.1
      have r4 := row_one f9.r.1
      rw [MB.out.ok]
      replace HF := H9
      clear H9 hP9 ok9 sz9 hnk f9 hsa hsb
      go_wp2_with (first | ((with_reducible refine k_alloc (T := 44) ?_); refine st_alloc rfl _ rfl _ z44 _ rfl HF ?_; (clear HF; intro g16 w HF K hK; simp only [Value.cells] at HF; go_simp)) | ((with_reducible refine k_store (T := 44) ?_); refine st_put rfl _ _ _ rfl _ rfl _ rfl (hdV_one r1 r2 r3 r4) s44 HF 0 rfl rfl ?_; (clear HF; intro w HF K hK; simp only [List.set_cons_zero, List.set_cons_succ, Act.eval, Value.cells, Array.getD_eq_getD_getElem?, List.getElem?_toArray, List.getElem?_cons_succ, List.getElem?_cons_zero, Option.getD_some] at HF; go_simp)))
      clear hw1 hw2 hn9
      go_loopw [19] (fun x wr => ∃ k : Nat, k ≤ 539 ∧ x = .int .i64 (k + 1) ∧ At W8 (Blk g16 (.cells (hdV r.1 vd9 ve9 vl9 vr9) 44 (0, 0)) :: P9 :: Arg W8 :: []) wr) (fun x _ => 541 - (intOf x).toNat)
      case atStart => exact ⟨0, by decide, rfl, HF⟩
      case round =>
        clear HF
        obtain ⟨k, hk, rfl, HF⟩ := hrel
        have lnA := Lib.hid (show a.row.length ≤ 140737488355328 by have := may_len PA.out.may; omega)
        have lnB := Lib.hid (show b.row.length ≤ 140737488355328 by have := may_len PB.out.may; omega)
        have lnR := Lib.hid (show r.1.row.length ≤ 140737488355328 by have := SZ9.out.br; omega)
        have hrR := Lib.hid (show Rising r.1.row by obtain ⟨u', _, _, hp⟩ := MB.out.plain; exact hp.may.rise)
        by_cases hlt : k < 539
        · have g1x : (k : Int) + 1 < 540 := by omega
          cases hka : knowsS a (k + 1) with
          | true =>
            have hkr := MB.out.mono _ hka
            have KA := Lib.hid hka
            have KR := Lib.hid hkr
            clear hka hkr
            go_wp2_with (first | ((with_reducible refine k_load (T := 44) ?_); refine st_rowW rfl _ _ rfl _ rfl a44 7 s44 ((HF.old 2 rfl l13.out).trans h13.out) rfl ?_; (intro K hK; go_simp)))
            refine (knows PA.out.may.rise PA.out.ok lnA.out (VA.out.ext (HF.ext 2 rfl)) (k + 1) HF).mono ?_
            rintro e w10 ⟨rfl, H1⟩
            replace HF := H1
            clear H1
            rw [KA.out]
            go_wp2_with (first | ((with_reducible refine k_load (T := 44) ?_); refine st_row rfl _ _ rfl _ rfl a44 7 s44 HF 0 rfl rfl ?_; (intro K hK; go_simp)) | ((with_reducible refine k_load (T := 44) ?_); refine st_loads rfl _ _ rfl _ _ rfl a44 7 s44 HF 0 rfl ?_ ?_; (simp); (intro K hK; go_simp)))
            refine (knows hrR.out OK9.out lnR.out (P9F.out _ _ _ (HF.ext 2 rfl).sub (HF.pick 1 rfl)) (k + 1) HF).mono ?_
            rintro e w12 ⟨rfl, H1⟩
            replace HF := H1
            clear H1
            rw [KR.out]
            go_wp2_with fail
            go_roundw
            case rel => exact ⟨k + 1, by omega, by go_num, HF⟩
            case measure => simp [intOf]; omega
          | false =>
            cases hkb : knowsS b (k + 1) with
            | true =>
              have hkr := MB.out.got _ hkb
              have KA := Lib.hid hka
              have KB := Lib.hid hkb
              have KR := Lib.hid hkr
              clear hka hkr hkb
              go_wp2_with (first | ((with_reducible refine k_load (T := 44) ?_); refine st_rowW rfl _ _ rfl _ rfl a44 7 s44 ((HF.old 2 rfl l13.out).trans h13.out) rfl ?_; (intro K hK; go_simp)))
              refine (knows PA.out.may.rise PA.out.ok lnA.out (VA.out.ext (HF.ext 2 rfl)) (k + 1) HF).mono ?_
              rintro e w10 ⟨rfl, H1⟩
              replace HF := H1
              clear H1
              rw [KA.out]
              go_wp2_with (first | ((with_reducible refine k_load (T := 44) ?_); refine st_rowW rfl _ _ rfl _ rfl a44 7 s44 ((HF.old 2 rfl l14.out).trans h14.out) rfl ?_; (intro K hK; go_simp)))
              refine (knows PB.out.may.rise PB.out.ok lnB.out (VB.out.ext (HF.ext 2 rfl)) (k + 1) HF).mono ?_
              rintro e w11 ⟨rfl, H1⟩
              replace HF := H1
              clear H1
              rw [KB.out]
              go_wp2_with (first | ((with_reducible refine k_load (T := 44) ?_); refine st_row rfl _ _ rfl _ rfl a44 7 s44 HF 0 rfl rfl ?_; (intro K hK; go_simp)) | ((with_reducible refine k_load (T := 44) ?_); refine st_loads rfl _ _ rfl _ _ rfl a44 7 s44 HF 0 rfl ?_ ?_; (simp); (intro K hK; go_simp)))
              refine (knows hrR.out OK9.out lnR.out (P9F.out _ _ _ (HF.ext 2 rfl).sub (HF.pick 1 rfl)) (k + 1) HF).mono ?_
              rintro e w12 ⟨rfl, H1⟩
              replace HF := H1
              clear H1
              rw [KR.out]
              go_wp2_with fail
              go_roundw
              case rel => exact ⟨k + 1, by omega, by go_num, HF⟩
              case measure => simp [intOf]; omega
            | false =>
              have KA := Lib.hid hka
              have KB := Lib.hid hkb
              clear hka hkb
              go_wp2_with (first | ((with_reducible refine k_load (T := 44) ?_); refine st_rowW rfl _ _ rfl _ rfl a44 7 s44 ((HF.old 2 rfl l13.out).trans h13.out) rfl ?_; (intro K hK; go_simp)))
              refine (knows PA.out.may.rise PA.out.ok lnA.out (VA.out.ext (HF.ext 2 rfl)) (k + 1) HF).mono ?_
              rintro e w10 ⟨rfl, H1⟩
              replace HF := H1
              clear H1
              rw [KA.out]
              go_wp2_with (first | ((with_reducible refine k_load (T := 44) ?_); refine st_rowW rfl _ _ rfl _ rfl a44 7 s44 ((HF.old 2 rfl l14.out).trans h14.out) rfl ?_; (intro K hK; go_simp)))
              refine (knows PB.out.may.rise PB.out.ok lnB.out (VB.out.ext (HF.ext 2 rfl)) (k + 1) HF).mono ?_
              rintro e w11 ⟨rfl, H1⟩
              replace HF := H1
              clear H1
              rw [KB.out]
              go_wp2_with fail
              go_roundw
              case rel => exact ⟨k + 1, by omega, by go_num, HF⟩
              case measure => simp [intOf]; omega
        · have g1x : ¬ (k : Int) + 1 < 540 := by omega
          go_wp2_with (first | ((with_reducible refine k_load (T := 44) ?_); refine st_row rfl _ _ rfl _ rfl a44 7 s44 HF 0 rfl rfl ?_; (intro K hK; go_simp)) | ((with_reducible refine k_load (T := 44) ?_); refine st_loads rfl _ _ rfl _ _ rfl a44 7 s44 HF 0 rfl ?_ ?_; (simp); (intro K hK; go_simp)))
          obtain ⟨u', hu0, hu1, hp⟩ := MB.out.plain
          refine (right hp (P9F.out _ _ _ (HF.ext 2 rfl).sub (HF.pick 1 rfl)) HF).mono ?_
          rintro e w10 ⟨rfl, H1⟩
          go_wp2_with fail
          go_ret
          exact ⟨rfl, ((H1.sel 3 [2]).lift0 H8.out).below 6 rfl⟩
    · skip
      have hD0 : 0 ≤ d := by omega
      have hw1 : IntKind.i64.wrap ((d).tdiv 64) = (d) / 64 := by
        rw [Int.tdiv_eq_ediv_of_nonneg hD0]
        exact IntWalk.i64_in _ (by omega)
      have hw2 : IntKind.i64.wrap (2 + (d) / 64) = 2 + (d) / 64 := IntWalk.i64_in _ (by omega)
      have HD := Lib.hid hD0
      clear hD0
      go_wp2_with (first | ((with_reducible refine k_load (T := 44) ?_); (first | refine st_row rfl _ _ rfl _ rfl a44 7 s44 HF 0 rfl rfl ?_ | refine st_row rfl _ _ rfl _ rfl a44 7 s44 HF 3 rfl rfl ?_); (intro K hK; go_simp)) | ((with_reducible refine k_load (T := 44) ?_); (first | refine st_loads rfl _ _ rfl _ _ rfl a44 7 s44 HF 0 rfl ?_ ?_ | refine st_loads rfl _ _ rfl _ _ rfl a44 7 s44 HF 3 rfl ?_ ?_); (simp); (intro K hK; go_simp)))
      have H8 := Lib.hid HF
      have h13 := Lib.hid (HF.get 3 rfl)
      have l13 := Lib.hid (HF.lt 3 rfl)
      have h14 := Lib.hid (HF.get 0 rfl)
      have l14 := Lib.hid (HF.lt 0 rfl)
      have VA := Lib.hid (hdAt_hold PA.out QA.out.2.2 (HF.sel 6 [4, 5]))
      have VB := Lib.hid (hdAt_hold PB.out QB.out.2.2 (HF.sel 6 [1, 2]))
      obtain ⟨W8, rfl⟩ : ∃ W8 : World, W8 = w8 := ⟨_, rfl⟩
      have hsa := plain_sz PA.out (by rw [QA.out.2.2]; decide)
      have hsb := plain_sz PB.out (by rw [QB.out.2.2]; decide)
      refine (row (f := 7) (t := 9) (kk := 2) (ka := 0) (kb := 0) (kc := 0) (in_of (by decide) (by decide)) (in_of (by decide) (by decide)) in2 in0 in0 in0 PA.out.may PA.out.ok hsa PB.out.may PB.out.ok hsb VA.out VB.out (At.of W8)).mono ?_
      rintro e w9 ⟨vd9, ve9, vl9, vr9, P9, rfl, hP9, ok9, sz9, H9⟩
      have MB := Lib.hid (mend_bucket PA.out PB.out UA.out UB.out (by decide) 7 9)
      generalize rowS 299 (askS 7 9 2 0 0 0 a) a b = r at *
      have P9F := Lib.hid hP9
      have OK9 := Lib.hid ok9
      have SZ9 := Lib.hid sz9
      have hnk := MB.out.n
      have hn9 : ¬ 2 + (d) / 64 < (r.2.1 : Int) := by rw [HDD.out] at hnk; rw [if_neg (by omega)] at hnk; omega
      have f9 := hP9 _ _ _ (H9.ext 1 rfl).sub H9
      have r1 := row_one f9.d
      have r2 := row_one f9.e.1
      have r3 := row_one f9.l.1
      have r4 := row_one f9.r.1
      rw [MB.out.ok]
      replace HF := H9
      clear H9 hP9 ok9 sz9 hnk f9 hsa hsb
      go_wp2_with (first | ((with_reducible refine k_alloc (T := 44) ?_); refine st_alloc rfl _ rfl _ z44 _ rfl HF ?_; (clear HF; intro g16 w HF K hK; simp only [Value.cells] at HF; go_simp)) | ((with_reducible refine k_store (T := 44) ?_); refine st_put rfl _ _ _ rfl _ rfl _ rfl (hdV_one r1 r2 r3 r4) s44 HF 0 rfl rfl ?_; (clear HF; intro w HF K hK; simp only [List.set_cons_zero, List.set_cons_succ, Act.eval, Value.cells, Array.getD_eq_getD_getElem?, List.getElem?_toArray, List.getElem?_cons_succ, List.getElem?_cons_zero, Option.getD_some] at HF; go_simp)))
      clear hw1 hw2 hn9
      go_loopw [19] (fun x wr => ∃ k : Nat, k ≤ 539 ∧ x = .int .i64 (k + 1) ∧ At W8 (Blk g16 (.cells (hdV r.1 vd9 ve9 vl9 vr9) 44 (0, 0)) :: P9 :: Arg W8 :: []) wr) (fun x _ => 541 - (intOf x).toNat)
      case atStart => exact ⟨0, by decide, rfl, HF⟩
      case round =>
        clear HF
        obtain ⟨k, hk, rfl, HF⟩ := hrel
        have lnA := Lib.hid (show a.row.length ≤ 140737488355328 by have := may_len PA.out.may; omega)
        have lnB := Lib.hid (show b.row.length ≤ 140737488355328 by have := may_len PB.out.may; omega)
        have lnR := Lib.hid (show r.1.row.length ≤ 140737488355328 by have := SZ9.out.br; omega)
        have hrR := Lib.hid (show Rising r.1.row by obtain ⟨u', _, _, hp⟩ := MB.out.plain; exact hp.may.rise)
        by_cases hlt : k < 539
        · have g1x : (k : Int) + 1 < 540 := by omega
          cases hka : knowsS a (k + 1) with
          | true =>
            have hkr := MB.out.mono _ hka
            have KA := Lib.hid hka
            have KR := Lib.hid hkr
            clear hka hkr
            go_wp2_with (first | ((with_reducible refine k_load (T := 44) ?_); refine st_rowW rfl _ _ rfl _ rfl a44 7 s44 ((HF.old 2 rfl l13.out).trans h13.out) rfl ?_; (intro K hK; go_simp)))
            refine (knows PA.out.may.rise PA.out.ok lnA.out (VA.out.ext (HF.ext 2 rfl)) (k + 1) HF).mono ?_
            rintro e w10 ⟨rfl, H1⟩
            replace HF := H1
            clear H1
            rw [KA.out]
            go_wp2_with (first | ((with_reducible refine k_load (T := 44) ?_); refine st_row rfl _ _ rfl _ rfl a44 7 s44 HF 0 rfl rfl ?_; (intro K hK; go_simp)) | ((with_reducible refine k_load (T := 44) ?_); refine st_loads rfl _ _ rfl _ _ rfl a44 7 s44 HF 0 rfl ?_ ?_; (simp); (intro K hK; go_simp)))
            refine (knows hrR.out OK9.out lnR.out (P9F.out _ _ _ (HF.ext 2 rfl).sub (HF.pick 1 rfl)) (k + 1) HF).mono ?_
            rintro e w12 ⟨rfl, H1⟩
            replace HF := H1
            clear H1
            rw [KR.out]
            go_wp2_with fail
            go_roundw
            case rel => exact ⟨k + 1, by omega, by go_num, HF⟩
            case measure => simp [intOf]; omega
          | false =>
            cases hkb : knowsS b (k + 1) with
            | true =>
              have hkr := MB.out.got _ hkb
              have KA := Lib.hid hka
              have KB := Lib.hid hkb
              have KR := Lib.hid hkr
              clear hka hkr hkb
              go_wp2_with (first | ((with_reducible refine k_load (T := 44) ?_); refine st_rowW rfl _ _ rfl _ rfl a44 7 s44 ((HF.old 2 rfl l13.out).trans h13.out) rfl ?_; (intro K hK; go_simp)))
              refine (knows PA.out.may.rise PA.out.ok lnA.out (VA.out.ext (HF.ext 2 rfl)) (k + 1) HF).mono ?_
              rintro e w10 ⟨rfl, H1⟩
              replace HF := H1
              clear H1
              rw [KA.out]
              go_wp2_with (first | ((with_reducible refine k_load (T := 44) ?_); refine st_rowW rfl _ _ rfl _ rfl a44 7 s44 ((HF.old 2 rfl l14.out).trans h14.out) rfl ?_; (intro K hK; go_simp)))
              refine (knows PB.out.may.rise PB.out.ok lnB.out (VB.out.ext (HF.ext 2 rfl)) (k + 1) HF).mono ?_
              rintro e w11 ⟨rfl, H1⟩
              replace HF := H1
              clear H1
              rw [KB.out]
              go_wp2_with (first | ((with_reducible refine k_load (T := 44) ?_); refine st_row rfl _ _ rfl _ rfl a44 7 s44 HF 0 rfl rfl ?_; (intro K hK; go_simp)) | ((with_reducible refine k_load (T := 44) ?_); refine st_loads rfl _ _ rfl _ _ rfl a44 7 s44 HF 0 rfl ?_ ?_; (simp); (intro K hK; go_simp)))
              refine (knows hrR.out OK9.out lnR.out (P9F.out _ _ _ (HF.ext 2 rfl).sub (HF.pick 1 rfl)) (k + 1) HF).mono ?_
              rintro e w12 ⟨rfl, H1⟩
              replace HF := H1
              clear H1
              rw [KR.out]
              go_wp2_with fail
              go_roundw
              case rel => exact ⟨k + 1, by omega, by go_num, HF⟩
              case measure => simp [intOf]; omega
            | false =>
              have KA := Lib.hid hka
              have KB := Lib.hid hkb
              clear hka hkb
              go_wp2_with (first | ((with_reducible refine k_load (T := 44) ?_); refine st_rowW rfl _ _ rfl _ rfl a44 7 s44 ((HF.old 2 rfl l13.out).trans h13.out) rfl ?_; (intro K hK; go_simp)))
              refine (knows PA.out.may.rise PA.out.ok lnA.out (VA.out.ext (HF.ext 2 rfl)) (k + 1) HF).mono ?_
              rintro e w10 ⟨rfl, H1⟩
              replace HF := H1
              clear H1
              rw [KA.out]
              go_wp2_with (first | ((with_reducible refine k_load (T := 44) ?_); refine st_rowW rfl _ _ rfl _ rfl a44 7 s44 ((HF.old 2 rfl l14.out).trans h14.out) rfl ?_; (intro K hK; go_simp)))
              refine (knows PB.out.may.rise PB.out.ok lnB.out (VB.out.ext (HF.ext 2 rfl)) (k + 1) HF).mono ?_
              rintro e w11 ⟨rfl, H1⟩
              replace HF := H1
              clear H1
              rw [KB.out]
              go_wp2_with fail
              go_roundw
              case rel => exact ⟨k + 1, by omega, by go_num, HF⟩
              case measure => simp [intOf]; omega
        · have g1x : ¬ (k : Int) + 1 < 540 := by omega
          go_wp2_with (first | ((with_reducible refine k_load (T := 44) ?_); refine st_row rfl _ _ rfl _ rfl a44 7 s44 HF 0 rfl rfl ?_; (intro K hK; go_simp)) | ((with_reducible refine k_load (T := 44) ?_); refine st_loads rfl _ _ rfl _ _ rfl a44 7 s44 HF 0 rfl ?_ ?_; (simp); (intro K hK; go_simp)))
          obtain ⟨u', hu0, hu1, hp⟩ := MB.out.plain
          refine (right hp (P9F.out _ _ _ (HF.ext 2 rfl).sub (HF.pick 1 rfl)) HF).mono ?_
          rintro e w10 ⟨rfl, H1⟩
          go_wp2_with fail
          go_ret
          exact ⟨rfl, ((H1.sel 3 [2]).lift0 H8.out).below 6 rfl⟩
end

theorem own : ownKnob Try.prog.godebug = none := by kernel_rfl

theorem lifted (os : Os) (started : os.Started) (H : Type) (enc : TypeId × Value → H) :
    ReturnsInHanded {} Try.checked os 6 .any (Rows.mendEndsSpec.pre6 enc Try.prog Try.f6 Rows.mendEndsRow.domain false) (Rows.mendEndsSpec.post enc Try.prog Try.f6 false true false false) := by
  refine frame_true (C := Try.checked) started own (by kernel_rfl) Try.func6
    (ChangeSpec.witness6 (enc := enc) (C := Try.checked) false ⟨#[], #[.int .i64 0, .int .i64 0, .slice none 0 0, .int .i64 0, .int .i64 0, .slice none 0 0], []⟩ 8 (by kernel_rfl) (by kernel_rfl) (by kernel_rfl) (by kernel_rfl)) rfl ?_ (by kernel_rfl) (by kernel_rfl) (by kernel_rfl) Try.underlying4 ?_
  · intro ds hds
    match ds, hds with
    | [_, _, _, _, _, _], _ => rfl
  · rintro W args ds p ⟨base, hval⟩ hA hwt
    have hp : Try.f6.params.toList = [3, 3, 73, 3, 3, 73] := by rw [Try.params6]
    rw [hp] at hA hwt
    obtain ⟨v0, r0, d0, e0, p0, q0, ha, rfl, rfl, h0, hA⟩ := trodAll_cons hA
    obtain ⟨v1, r1, d1, e1, p1, q1, rfl, rfl, rfl, h1, hA⟩ := trodAll_cons hA
    obtain ⟨v2, r2, d2, e2, p2, q2, rfl, rfl, rfl, h2, hA⟩ := trodAll_cons hA
    obtain ⟨v3, r3, d3, e3, p3, q3, rfl, rfl, rfl, h3, hA⟩ := trodAll_cons hA
    obtain ⟨v4, r4, d4, e4, p4, q4, rfl, rfl, rfl, h4, hA⟩ := trodAll_cons hA
    obtain ⟨v5, r5, d5, e5, p5, q5, rfl, rfl, rfl, h5, hA⟩ := trodAll_cons hA
    obtain ⟨rfl, rfl, rfl⟩ := trodAll_nil hA
    have ha2 : args = #[v0, v1, v2, v3, v4, v5] := by cases args; simp_all
    subst ha2
    simp only [DataW.weightsEach, List.all_append, Bool.and_eq_true] at hwt
    obtain ⟨a0, b0⟩ := Lw.arg_int (hval 0 _ _ (by rw [Try.params6]; rfl) rfl) h0 hwt.1
    obtain ⟨a1, b1⟩ := Lw.arg_int (hval 1 _ _ (by rw [Try.params6]; rfl) rfl) h1 hwt.2.1
    obtain ⟨a2, b2⟩ := Lw.arg_ints (hval 2 _ _ (by rw [Try.params6]; rfl) rfl) h2 hwt.2.2.1
    obtain ⟨a3, b3⟩ := Lw.arg_int (hval 3 _ _ (by rw [Try.params6]; rfl) rfl) h3 hwt.2.2.2.1
    obtain ⟨a4, b4⟩ := Lw.arg_int (hval 4 _ _ (by rw [Try.params6]; rfl) rfl) h4 hwt.2.2.2.2.1
    obtain ⟨a5, b5⟩ := Lw.arg_ints (hval 5 _ _ (by rw [Try.params6]; rfl) rfl) h5 hwt.2.2.2.2.2.1
    exact walk b0 b1 b2 b3 b4 b5

theorem over : Rows.mendEndsRow.holds Try.pinned (OpenSpec.ofChange Rows.mendEndsSpec) :=
  OpenClaim.holds_of_wide 6 Try.f6 rfl rfl rfl rfl rfl rfl rfl ⟨rfl, rfl, rfl, rfl, rfl⟩ rfl rfl rfl rfl rfl (by kernel_rfl) Try.func6 (by kernel_rfl)
    (of_decide_eq_true (by kernel_rfl)) (by unfold Func.isWrapper; first | (rw [if_pos (by decide +kernel)]; kernel_rfl) | (rw [if_neg (by decide +kernel)]; exact ⟨rfl, rfl⟩))
    (fun os started H enc _ => lifted os started H enc)

theorem proved : Rows.MendEndsSaid := over
#print axioms proved
end mendEnds
end Go.Proofs.Ytjobojgmadjmfaa
