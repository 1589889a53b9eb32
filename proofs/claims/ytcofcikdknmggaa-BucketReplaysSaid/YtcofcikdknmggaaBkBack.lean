/-
  The statements' own functions: a bucket as it was lent; what is refused; the entry of a name; the fixed command.
-/
import Derived.Test.YtcofcikdknmggaaBkLaw
namespace Go.Proofs.Ytcofcikdknmggaa
open Go.Hp Go.RowKit
set_option linter.unusedVariables false
set_option linter.unusedSimpArgs false
set_option maxRecDepth 100000
set_option maxHeartbeats 2000000
namespace Bk

theorem mkE_fits : Fits entK mkE := ⟨⟨_, rfl⟩, ⟨_, rfl⟩, ⟨_, rfl⟩, ⟨_, rfl⟩, trivial⟩
theorem mkL_fits : Fits lastK mkL := ⟨⟨_, rfl⟩, ⟨_, rfl⟩, ⟨_, rfl⟩, ⟨_, rfl⟩, ⟨_, rfl⟩, ⟨_, rfl⟩, ⟨_, rfl⟩, trivial⟩

theorem mark_at {A m : List Value} {k : Nat} (hA : A.length = k) : ∀ j u, m[j]? = some u → (A ++ m)[k + j]? = some u := by
  intro j u hj
  rw [List.getElem?_append_right (by omega), hA, Nat.add_sub_cancel_left]
  exact hj

section
variable {w0 w : World} {L : List HProp}

theorem Back {W : World} {i : Nat} (hL : L[i]? = some (Arg W)) {ve2 vl2 : Value} {b : Bu} {ge gl : Nat} (he2 : RecsAt W ve2 4 (b.es.map En.cells)) (hl2 : RecsAt W vl2 7 (b.ls.map La.cells)) (be : (b.es.length + 1) * 40 ≤ 140737488355328) (bl : (b.ls.length + 1) * 56 ≤ 140737488355328)
    (H : At w0 (Blk ge (.cells (eC b.es ++ mkE).toArray 39 (0, 0)) :: Blk gl (.cells (lC b.ls ++ mkL).toArray 53 (0, 0)) :: L) w) :
    Calls Try.prog 20 #[.agg #[.int .i64 b.u, .slice (some ⟨ge, 0, none⟩) b.es.length (b.es.length + 1), .slice (some ⟨gl, 0, none⟩) b.ls.length (b.ls.length + 1)], .agg #[.int .i64 b.u, ve2, vl2]] w (fun e w' => e = .returned (.bool true) ∧ At w0 L w') := by
  have HL := Lib.hid hL
  have R2 := Lib.hid he2
  have Q2 := Lib.hid hl2
  clear hL he2 hl2
  obtain ⟨u, es, ls⟩ := b
  dsimp only at *
  have Me := Lib.hid (mark_at (m := mkE) (eC_len es))
  have Ml := Lib.hid (mark_at (m := mkL) (lC_len ls))
  have Le := Lib.hid (eC_len es)
  have Ll := Lib.hid (lC_len ls)
  have hn : ((es.length : Int) + 1).toNat = es.length + 1 := by omega
  have hn2 : ((ls.length : Int) + 1).toNat = ls.length + 1 := by omega
  have hw : IntKind.i64.wrap ((es.length : Int) + 1) = (es.length : Int) + 1 := IntWalk.i64_in _ (by omega)
  have hw2 : IntKind.i64.wrap ((ls.length : Int) + 1) = (ls.length : Int) + 1 := IntWalk.i64_in _ (by omega)
  have hw3 : IntKind.i64.wrap (es.length : Int) = (es.length : Int) := IntWalk.i64_in _ (by omega)
  have hw4 : IntKind.i64.wrap (ls.length : Int) = (ls.length : Int) := IntWalk.i64_in _ (by omega)
  have hz2 : ∀ w, (Op.equalIn 10000 39 (.agg #[.string ⟨#[109, 97, 114, 107]⟩, .int .i64 0, .int .i64 0, .int .i64 (-9)]) (.agg #[.string ⟨#[109, 97, 114, 107]⟩, .int .i64 0, .int .i64 0, .int .i64 (-9)])).run Try.prog w = .ok true w := fun w => run_eq_self 9 (by decide) fEntry a39 mkE_fits
  have hz3 : ∀ w, (Op.equalIn 10000 53 (.agg #[.int .i64 (-9), .int .i64 0, .int .i64 0, .int .i64 0, .int .i64 0, .int .i64 0, .int .i64 0]) (.agg #[.int .i64 (-9), .int .i64 0, .int .i64 0, .int .i64 0, .int .i64 0, .int .i64 0, .int .i64 0])).run Try.prog w = .ok true w := fun w => run_eq_self 9 (by decide) fLast a53 mkL_fits
  have tok : True := trivial
  go_enter Try.func20, Try.ntmps20
  go_wp2_with (first | ((with_reducible refine k_box (T := 25) ?_); (have _t := tok); refine st_box rfl _ _ rfl _ rfl H ?_; (clear H tok _t; intro g2 w H K hK; simp only [Value.cells, Act.eval, Value.cells, Array.getD_eq_getD_getElem?, List.getElem?_toArray, List.getElem?_cons_succ, List.getElem?_cons_zero, Option.getD_some] at H; go_simp)) | ((with_reducible refine k_box (T := 25) ?_); refine st_box rfl _ _ rfl _ rfl H ?_; (clear H; intro g3 w H K hK; simp only [Value.cells, Act.eval, Value.cells, Array.getD_eq_getD_getElem?, List.getElem?_toArray, List.getElem?_cons_succ, List.getElem?_cons_zero, Option.getD_some] at H; go_simp)) | ((with_reducible refine k_load (T := 25) ?_); (first | refine st_row rfl _ _ rfl _ rfl a25 3 s25 H 0 rfl rfl ?_ | refine st_row rfl _ _ rfl _ rfl a25 3 s25 H 1 rfl rfl ?_); (intro K hK; go_simp)) | ((with_reducible refine k_load (T := 25) ?_); (first | refine st_loads rfl _ _ rfl _ _ rfl a25 3 s25 H 0 rfl ?_ ?_ | refine st_loads rfl _ _ rfl _ _ rfl a25 3 s25 H 1 rfl ?_ ?_); (simp); (intro K hK; go_simp)) | ((with_reducible refine k_load ?_); (first | refine st_load rfl _ _ rfl _ _ rfl ?_ H 0 rfl rfl ?_ | refine st_load rfl _ _ rfl _ _ rfl ?_ H 1 rfl rfl ?_); (kernel_rfl); (intro K hK; go_simp)))
  refine (sameBu (b := ⟨u, es, ls⟩) (lent_e (by show es.length * 40 ≤ _; omega) (H.pick 2 rfl)) (lent_l (by show ls.length * 56 ≤ _; omega) (H.pick 3 rfl)) (R2.out.ext (H.ext (i + 4) (by simpa using HL.out))) (Q2.out.ext (H.ext (i + 4) (by simpa using HL.out))) (by show es.length ≤ _; omega) (by show ls.length ≤ _; omega) H).mono ?_
  rintro e w3 ⟨rfl, HX⟩
  clear H
  have H := HX
  clear HX
  go_wp2_with (first | ((with_reducible refine k_load (T := 39) ?_); refine st_loadCells rfl _ _ rfl _ rfl a39 mkE s39 (cells_at (H.get 2 rfl) Me.out) ?_; (intro K hK; unfold mkE at hK ⊢; go_simp)) | ((with_reducible refine k_load (T := 53) ?_); refine st_loadCells rfl _ _ rfl _ rfl a53 mkL s53 (cells_at (H.get 3 rfl) Ml.out) ?_; (intro K hK; unfold mkL at hK ⊢; go_simp)))
  have hc0 : (eC es ++ mkE).length = (es.length + 1) * 4 := by rw [List.length_append, Le.out]; show _ + 4 = _; omega
  have hc1 : (lC ls ++ mkL).length = (ls.length + 1) * 7 := by rw [List.length_append, Ll.out]; show _ + 7 = _; omega
  generalize eC es ++ mkE = ce at H hc0
  generalize lC ls ++ mkL = cl at H hc1
  have Hc1 := Lib.hid hc1
  clear Me Ml Le Ll R2 Q2 HL hc1
  go_loopw [8] (fun i wr => ∃ (k : Nat) (c : List Value), k ≤ es.length + 1 ∧ i = .int .i64 k ∧ c.length = (es.length + 1) * 4 ∧ At w0 (Blk ge (.cells c.toArray 39 (0, 0)) :: Blk gl (.cells cl.toArray 53 (0, 0)) :: L) wr) (fun i _ => es.length + 1 - (intOf i).toNat)
  case atStart => exact ⟨0, _, Nat.zero_le _, rfl, hc0, H.drop.drop⟩
  case round =>
    clear H hc0
    obtain ⟨k, c, hk, rfl, hc, H⟩ := hrel
    have Hc := Lib.hid hc
    clear hc
    by_cases hlt : k < es.length + 1
    · have g1x : (k : Int) < (es.length : Int) + 1 := by omega
      go_wp2_with ((with_reducible refine k_store (T := 39) ?_); refine st_stores rfl _ _ _ rfl _ _ rfl #[.string ⟨#[115, 112, 111, 105, 108, 116]⟩, .int .i64 0, .int .i64 0, .int .i64 (-5)] rfl ?_ s39 H 0 rfl ?_ ?_; (simp [Value.oneCell']); (have := Hc.out; simp; omega); (clear H; intro w H K hK; simp only [List.set_cons_zero, List.set_cons_succ] at H; go_simp))
      go_roundw
      case rel => exact ⟨k + 1, _, by omega, rfl, (by have := Hc.out; simp; omega), H⟩
      case measure => simp [intOf]; omega
    · have g1x : ¬ (k : Int) < (es.length : Int) + 1 := by omega
      go_wp2_with fail
      replace H := H.drop
      clear Hc
      go_loopw [9] (fun i wr => ∃ (k : Nat) (c : List Value), k ≤ ls.length + 1 ∧ i = .int .i64 k ∧ c.length = (ls.length + 1) * 7 ∧ At w0 (Blk gl (.cells c.toArray 53 (0, 0)) :: L) wr) (fun i _ => ls.length + 1 - (intOf i).toNat)
      case atStart => exact ⟨0, _, Nat.zero_le _, rfl, Hc1.out, H⟩
      case round =>
        clear H
        obtain ⟨k, c, hk, rfl, hc, H⟩ := hrel
        have Hc := Lib.hid hc
        clear hc
        by_cases hlt : k < ls.length + 1
        · have g1x : (k : Int) < (ls.length : Int) + 1 := by omega
          go_wp2_with ((with_reducible refine k_store (T := 53) ?_); refine st_stores rfl _ _ _ rfl _ _ rfl #[.int .i64 (-5), .int .i64 0, .int .i64 0, .int .i64 0, .int .i64 0, .int .i64 0, .int .i64 0] rfl ?_ s53 H 0 rfl ?_ ?_; (simp [Value.oneCell']); (have := Hc.out; simp; omega); (clear H; intro w H K hK; simp only [List.set_cons_zero, List.set_cons_succ] at H; go_simp))
          go_roundw
          case rel => exact ⟨k + 1, _, by omega, rfl, (by have := Hc.out; simp; omega), H⟩
          case measure => simp [intOf]; omega
        · have g1x : ¬ (k : Int) < (ls.length : Int) + 1 := by omega
          go_wp2_with fail
          go_ret
          exact ⟨rfl, H.drop⟩

theorem wrong (H : At w0 L w) (c : Cm) : Calls Try.prog 17 #[.agg c.cells.toArray] w (Ret w0 (.bool (wrongS c)) L) := by
  obtain ⟨kd, cl, op, nm, fc, fo, nc, no, sz⟩ := c
  unfold wrongS
  simp only [Cm.cells]
  by_cases h1 : kd < 1
  · go_enter Try.func17, Try.ntmps17
    go_wp2_with (first | ((with_reducible refine k_box ?_); refine st_box rfl _ _ rfl _ rfl H ?_; (clear H; intro g1 w H K hK; simp only [Value.cells, Act.eval, Value.cells, Array.getD_eq_getD_getElem?, List.getElem?_toArray, List.getElem?_cons_succ, List.getElem?_cons_zero, Option.getD_some] at H; go_simp)) | ((with_reducible refine k_load ?_); refine st_load rfl _ _ rfl _ _ rfl ?_ H 0 rfl rfl ?_; (kernel_rfl); (intro K hK; go_simp)))
    go_ret
    exact ⟨by first | (simp; done) | (simp; omega), H.drop⟩
  · by_cases h2 : 7 < kd
    · go_enter Try.func17, Try.ntmps17
      go_wp2_with (first | ((with_reducible refine k_box ?_); refine st_box rfl _ _ rfl _ rfl H ?_; (clear H; intro g1 w H K hK; simp only [Value.cells, Act.eval, Value.cells, Array.getD_eq_getD_getElem?, List.getElem?_toArray, List.getElem?_cons_succ, List.getElem?_cons_zero, Option.getD_some] at H; go_simp)) | ((with_reducible refine k_load ?_); refine st_load rfl _ _ rfl _ _ rfl ?_ H 0 rfl rfl ?_; (kernel_rfl); (intro K hK; go_simp)))
      go_ret
      exact ⟨by first | (simp; done) | (simp; omega), H.drop⟩
    · by_cases h3 : cl < 1
      · go_enter Try.func17, Try.ntmps17
        go_wp2_with (first | ((with_reducible refine k_box ?_); refine st_box rfl _ _ rfl _ rfl H ?_; (clear H; intro g1 w H K hK; simp only [Value.cells, Act.eval, Value.cells, Array.getD_eq_getD_getElem?, List.getElem?_toArray, List.getElem?_cons_succ, List.getElem?_cons_zero, Option.getD_some] at H; go_simp)) | ((with_reducible refine k_load ?_); refine st_load rfl _ _ rfl _ _ rfl ?_ H 0 rfl rfl ?_; (kernel_rfl); (intro K hK; go_simp)))
        go_ret
        exact ⟨by first | (simp; done) | (simp; omega), H.drop⟩
      · by_cases h4 : 255 < cl
        · go_enter Try.func17, Try.ntmps17
          go_wp2_with (first | ((with_reducible refine k_box ?_); refine st_box rfl _ _ rfl _ rfl H ?_; (clear H; intro g1 w H K hK; simp only [Value.cells, Act.eval, Value.cells, Array.getD_eq_getD_getElem?, List.getElem?_toArray, List.getElem?_cons_succ, List.getElem?_cons_zero, Option.getD_some] at H; go_simp)) | ((with_reducible refine k_load ?_); refine st_load rfl _ _ rfl _ _ rfl ?_ H 0 rfl rfl ?_; (kernel_rfl); (intro K hK; go_simp)))
          go_ret
          exact ⟨by first | (simp; done) | (simp; omega), H.drop⟩
        · by_cases h5 : op < 1
          · go_enter Try.func17, Try.ntmps17
            go_wp2_with (first | ((with_reducible refine k_box ?_); refine st_box rfl _ _ rfl _ rfl H ?_; (clear H; intro g1 w H K hK; simp only [Value.cells, Act.eval, Value.cells, Array.getD_eq_getD_getElem?, List.getElem?_toArray, List.getElem?_cons_succ, List.getElem?_cons_zero, Option.getD_some] at H; go_simp)) | ((with_reducible refine k_load ?_); refine st_load rfl _ _ rfl _ _ rfl ?_ H 0 rfl rfl ?_; (kernel_rfl); (intro K hK; go_simp)))
            go_ret
            exact ⟨by first | (simp; done) | (simp; omega), H.drop⟩
          · by_cases h6 : 1099511627776 < op
            · go_enter Try.func17, Try.ntmps17
              go_wp2_with (first | ((with_reducible refine k_box ?_); refine st_box rfl _ _ rfl _ rfl H ?_; (clear H; intro g1 w H K hK; simp only [Value.cells, Act.eval, Value.cells, Array.getD_eq_getD_getElem?, List.getElem?_toArray, List.getElem?_cons_succ, List.getElem?_cons_zero, Option.getD_some] at H; go_simp)) | ((with_reducible refine k_load ?_); refine st_load rfl _ _ rfl _ _ rfl ?_ H 0 rfl rfl ?_; (kernel_rfl); (intro K hK; go_simp)))
              go_ret
              exact ⟨by first | (simp; done) | (simp; omega), H.drop⟩
            · go_enter Try.func17, Try.ntmps17
              go_wp2_with (first | ((with_reducible refine k_box ?_); refine st_box rfl _ _ rfl _ rfl H ?_; (clear H; intro g1 w H K hK; simp only [Value.cells, Act.eval, Value.cells, Array.getD_eq_getD_getElem?, List.getElem?_toArray, List.getElem?_cons_succ, List.getElem?_cons_zero, Option.getD_some] at H; go_simp)) | ((with_reducible refine k_load ?_); refine st_load rfl _ _ rfl _ _ rfl ?_ H 0 rfl rfl ?_; (kernel_rfl); (intro K hK; go_simp)))
              go_ret
              exact ⟨by first | (simp; done) | (simp; omega), H.drop⟩

/-- The entry of a name. -/
def findS (l : List En) (s : ByteArray) : En × Bool := if plB l s = true then (eAt l (plI l s), true) else (en0, false)

theorem find {ve vl : Value} {u : Int} {es : List En} {s : ByteArray} (he : RecsAt w ve 4 (es.map En.cells)) (be : es.length ≤ 140737488355328) (H : At w0 L w) :
    Calls Try.prog 15 #[.agg #[.int .i64 u, ve, vl], .string s] w (fun e w' => e = .returned (.tuple #[.agg (findS es s).1.cells.toArray, .bool (findS es s).2]) ∧ At w0 L w') := by
  obtain ⟨W, rfl⟩ : ∃ W : World, W = w := ⟨_, rfl⟩
  have HF := At.of W
  have H0 := Lib.hid H
  obtain ⟨ad, cap, rfl, c1, c2, c3⟩ := he.value
  rw [List.length_map] at c1 c3 he ⊢
  have R := Lib.hid he
  clear H he
  go_enter Try.func15, Try.ntmps15
  go_wp2_with (first | ((with_reducible refine k_box ?_); refine st_box rfl _ _ rfl _ rfl HF ?_; (clear HF; intro g2 w HF K hK; simp only [Value.cells, Act.eval, Value.cells, Array.getD_eq_getD_getElem?, List.getElem?_toArray, List.getElem?_cons_succ, List.getElem?_cons_zero, Option.getD_some] at HF; go_simp)) | ((with_reducible refine k_alloc (T := 39) ?_); refine st_alloc rfl _ rfl _ z39 _ rfl HF ?_; (clear HF; intro g4 w HF K hK; simp only [Value.cells] at HF; go_simp)) | ((with_reducible refine k_load ?_); refine st_load rfl _ _ rfl _ _ rfl ?_ HF 1 rfl rfl ?_; (kernel_rfl); (intro K hK; go_simp)))
  refine (place be (R.out.ext (HF.ext 2 rfl)) s HF).mono ?_
  rintro e w3 ⟨rfl, _, HX⟩
  clear HF
  have HF := HX
  clear HX
  cases hb : plB es s with
  | false =>
    have hS := Lib.hid (show findS es s = (en0, false) by unfold findS; simp [hb])
    clear hb
    go_wp2_with (first | ((with_reducible refine k_load ?_); refine st_load rfl _ _ rfl _ _ rfl ?_ HF 1 rfl rfl ?_; (kernel_rfl); (intro K hK; go_simp)) | ((with_reducible refine k_store (T := 39) ?_); refine st_put rfl _ _ _ rfl _ rfl _ rfl ?_ s39 HF 0 rfl rfl ?_; (simp [Value.oneCell']); (clear HF; intro w HF K hK; simp only [List.set_cons_zero, List.set_cons_succ, Act.eval, Value.cells, Array.getD_eq_getD_getElem?, List.getElem?_toArray, List.getElem?_cons_succ, List.getElem?_cons_zero, Option.getD_some] at HF; go_simp)))
    refine bodyPost_ret (results_cell_tmp rfl rfl a39 s39 (HF.get 0 rfl) rfl) rfl ?_
    exact ⟨by rw [hS.out]; rfl, (HF.sel 3 [2]).lift0 H0.out⟩
  | true =>
    have hlt := plB_lt hb
    have g1 : ((plI es s : Nat) : Int) < es.length := by omega
    obtain ⟨x, hx⟩ : ∃ x, es[plI es s]? = some x := ⟨_, List.getElem?_eq_getElem hlt⟩
    obtain ⟨b, rfl⟩ := c3 (by omega)
    have Hc := Lib.hid (recs_get (R.out.ext (HF.ext 2 rfl)) hx)
    have hS := Lib.hid (show findS es s = (x, true) by unfold findS; simp [hb, eAt_of hx])
    obtain ⟨xn, xf, xo, xs⟩ := x
    clear hb hx c3
    go_wp2_with (first | ((with_reducible refine k_load (T := 39) ?_); refine st_loadCells rfl _ _ rfl _ rfl a39 [.string xn, .int .i64 xf, .int .i64 xo, .int .i64 xs] s39 Hc.out ?_; (intro K hK; go_simp)) | ((with_reducible refine k_load ?_); refine st_load rfl _ _ rfl _ _ rfl ?_ HF 1 rfl rfl ?_; (kernel_rfl); (intro K hK; go_simp)) | ((with_reducible refine k_store (T := 39) ?_); refine st_put rfl _ _ _ rfl _ rfl _ rfl ?_ s39 HF 0 rfl rfl ?_; (simp [Value.oneCell']); (clear HF; intro w HF K hK; simp only [List.set_cons_zero, List.set_cons_succ, Act.eval, Value.cells, Array.getD_eq_getD_getElem?, List.getElem?_toArray, List.getElem?_cons_succ, List.getElem?_cons_zero, Option.getD_some] at HF; go_simp)))
    refine bodyPost_ret (results_cell_tmp rfl rfl a39 s39 (HF.get 0 rfl) rfl) rfl ?_
    exact ⟨by rw [hS.out]; rfl, (HF.sel 3 [2]).lift0 H0.out⟩

def q4 : ByteArray := ⟨#[113, 117, 97, 121]⟩
def headC : Cm := ⟨1, 4, 2, q4, 0, 0, 0, 0, 0⟩
theorem headS : ApplyS ⟨0, [], []⟩ headC 1 = ((0, ⟨0, ⟨q4, 4, 2, 0⟩, []⟩), ⟨1, [⟨q4, 4, 2, 0⟩], [⟨4, 2, 1, 0, 4, 2, 0⟩]⟩) := by
  have e1 : plI [] q4 = 0 := bsI_end (by simp)
  have e2 : plB [] q4 = false := by unfold plB; simp
  have e3 : seI [] 4 = 0 := bsI_end (by simp)
  have e4 : seB [] 4 = false := by unfold seB; simp
  have e5 : changeS [] headC 1 = ((0, ⟨q4, 4, 2, 0⟩), [⟨q4, 4, 2, 0⟩]) := by
    unfold changeS
    simp [headC, e1, e2, insAt]
  have e6 : applyS ⟨0, [], []⟩ headC 1 = ((0, ⟨0, ⟨q4, 4, 2, 0⟩, []⟩), ⟨1, [⟨q4, 4, 2, 0⟩], [⟨4, 2, 1, 0, 4, 2, 0⟩]⟩) := by
    unfold applyS
    rw [e5]
    simp [headC, wrongS, lastS, seatS, e3, e4, insAt]
  unfold ApplyS
  rw [e6]
  rfl
theorem headF : findS [⟨q4, 4, 2, 0⟩] q4 = (⟨q4, 4, 2, 0⟩, true) := by
  have e0 : cmpN q4 q4 = 0 := by decide
  have e1 : plI [⟨q4, 4, 2, 0⟩] q4 = 0 := by
    unfold plI
    rw [bsI_ge (by simp) (by simp [cmpE, e0]), bsI_end (by simp)]
  have e2 : plB [⟨q4, 4, 2, 0⟩] q4 = true := by unfold plB; rw [e1]; simp [cmpE, e0]
  unfold findS
  rw [e2, e1]
  rfl

theorem recs_nil {w : World} {size : Nat} : RecsAt w (.slice none 0 0) size [] := ⟨⟨none, 0, rfl, Nat.le_refl _, by simp [maxLen], fun h => absurd h (Nat.lt_irrefl _), fun b hb => by cases hb⟩, fun r hr => by cases hr⟩

theorem head (H : At w0 L w) : Calls Try.prog 9 #[] w (Ret w0 (.bool true) L) := by
  have hA := Lib.hid (@Apply w0 w L 1 (.slice none 0 0) (.slice none 0 0) ⟨0, [], []⟩ headC recs_nil recs_nil (by decide) (by decide) (by decide))
  rw [headS] at hA
  have hz2 : ∀ w, (Op.equalIn 10000 39 (.agg #[.string ⟨#[113, 117, 97, 121]⟩, .int .i64 4, .int .i64 2, .int .i64 0]) (.agg #[.string ⟨#[113, 117, 97, 121]⟩, .int .i64 4, .int .i64 2, .int .i64 0])).run Try.prog w = .ok true w := fun w => run_eq_self 9 (by decide) fEntry a39 (En.fits ⟨q4, 4, 2, 0⟩)
  have hz3 : ∀ w, (Op.equalIn 10000 27 (.agg #[.int .i64 4, .int .i64 2]) (.agg #[.int .i64 4, .int .i64 2])).run Try.prog w = .ok true w := fun w => run_eq_self 9 (by decide) fFile a27 (xs := [.int .i64 4, .int .i64 2]) ⟨⟨_, rfl⟩, ⟨_, rfl⟩, trivial⟩
  go_enter Try.func9, Try.ntmps9
  go_wp2_with fail
  refine (hA.out H).mono ?_
  rintro e w2 ⟨ve, vl, va, rfl, HX⟩
  clear H hA
  have H := HX
  clear HX
  obtain ⟨ad1, cap1, rfl, _⟩ := own_value H
  obtain ⟨ad2, cap2, rfl, _⟩ := own_value (H.pick 1 rfl)
  obtain ⟨ad3, cap3, rfl, _⟩ := own_value (H.pick 2 rfl)
  simp only [anV, List.length_cons, List.length_nil, Nat.zero_add] at H ⊢
  unfold q4 at H ⊢
  go_wp2_with (first | ((with_reducible refine k_alloc (T := 25) ?_); refine st_alloc rfl _ rfl _ z25 _ rfl H ?_; (clear H; intro g1 w H K hK; simp only [Value.cells] at H; go_simp)) | ((with_reducible refine k_alloc (T := 41) ?_); refine st_alloc rfl _ rfl _ z41 _ rfl H ?_; (clear H; intro g2 w H K hK; simp only [Value.cells] at H; go_simp)) | ((with_reducible refine k_store (T := 25) ?_); refine st_put rfl _ _ _ rfl _ rfl _ rfl ?_ s25 H 1 rfl rfl ?_; (simp [Value.oneCell']); (clear H; intro w H K hK; simp only [List.set_cons_zero, List.set_cons_succ, Act.eval, Value.cells, Array.getD_eq_getD_getElem?, List.getElem?_toArray, List.getElem?_cons_succ, List.getElem?_cons_zero, Option.getD_some] at H; go_simp)) | ((with_reducible refine k_store (T := 41) ?_); refine st_put rfl _ _ _ rfl _ rfl _ rfl ?_ s41 H 0 rfl rfl ?_; (simp [Value.oneCell']); (clear H; intro w H K hK; simp only [List.set_cons_zero, List.set_cons_succ, Act.eval, Value.cells, Array.getD_eq_getD_getElem?, List.getElem?_toArray, List.getElem?_cons_succ, List.getElem?_cons_zero, Option.getD_some] at H; go_simp)) | ((with_reducible refine k_load (T := 25) ?_); refine st_row rfl _ _ rfl _ rfl a25 3 s25 H 1 rfl rfl ?_; (intro K hK; go_simp)) | ((with_reducible refine k_load (T := 25) ?_); refine st_loads rfl _ _ rfl _ _ rfl a25 3 s25 H 1 rfl ?_ ?_; (simp); (intro K hK; go_simp)))
  refine (find (es := [⟨q4, 4, 2, 0⟩]) (s := q4) (oe_recs (H.pick 2 rfl)) (by decide) H).mono ?_
  rw [headF]
  rintro e w3 ⟨rfl, HX⟩
  clear H
  have H := HX
  clear HX
  simp only [En.cells]
  unfold q4
  go_wp2_with (first | ((with_reducible refine k_alloc (T := 39) ?_); refine st_alloc rfl _ rfl _ z39 _ rfl H ?_; (clear H; intro g3 w H K hK; simp only [Value.cells] at H; go_simp)) | ((with_reducible refine k_store (T := 39) ?_); refine st_put rfl _ _ _ rfl _ rfl _ rfl ?_ s39 H 0 rfl rfl ?_; (simp [Value.oneCell']); (clear H; intro w H K hK; simp only [List.set_cons_zero, List.set_cons_succ, Act.eval, Value.cells, Array.getD_eq_getD_getElem?, List.getElem?_toArray, List.getElem?_cons_succ, List.getElem?_cons_zero, Option.getD_some] at H; go_simp)) | ((with_reducible refine k_load (T := 39) ?_); (first | refine st_row rfl _ _ rfl _ rfl a39 4 s39 H 0 rfl rfl ?_ | refine st_row rfl _ _ rfl _ rfl a39 4 s39 H 1 rfl rfl ?_ | refine st_row rfl _ _ rfl _ rfl a39 4 s39 H 2 rfl rfl ?_); (intro K hK; go_simp)) | ((with_reducible refine k_load (T := 39) ?_); (first | refine st_loads rfl _ _ rfl _ _ rfl a39 4 s39 H 0 rfl ?_ ?_ | refine st_loads rfl _ _ rfl _ _ rfl a39 4 s39 H 1 rfl ?_ ?_ | refine st_loads rfl _ _ rfl _ _ rfl a39 4 s39 H 2 rfl ?_ ?_); (simp); (intro K hK; go_simp)) | ((with_reducible refine k_load (T := 27) ?_); (first | refine st_row rfl _ _ rfl _ rfl a27 2 s27 H 0 rfl rfl ?_ | refine st_row rfl _ _ rfl _ rfl a27 2 s27 H 1 rfl rfl ?_ | refine st_row rfl _ _ rfl _ rfl a27 2 s27 H 2 rfl rfl ?_); (intro K hK; go_simp)) | ((with_reducible refine k_load (T := 27) ?_); (first | refine st_loads rfl _ _ rfl _ _ rfl a27 2 s27 H 0 rfl ?_ ?_ | refine st_loads rfl _ _ rfl _ _ rfl a27 2 s27 H 1 rfl ?_ ?_ | refine st_loads rfl _ _ rfl _ _ rfl a27 2 s27 H 2 rfl ?_ ?_); (simp); (intro K hK; go_simp)) | ((with_reducible refine k_load ?_); (first | refine st_load rfl _ _ rfl _ _ rfl ?_ H 0 rfl rfl ?_ | refine st_load rfl _ _ rfl _ _ rfl ?_ H 1 rfl rfl ?_ | refine st_load rfl _ _ rfl _ _ rfl ?_ H 2 rfl rfl ?_); (kernel_rfl); (intro K hK; go_simp)))
  go_ret
  exact ⟨rfl, H.sel 6 []⟩
end
end Bk
end Go.Proofs.Ytcofcikdknmggaa
