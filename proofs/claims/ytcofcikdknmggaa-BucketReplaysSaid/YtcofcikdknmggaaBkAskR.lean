/-
  What is asked of a bucket: the entry of a name, a client's Last, the names that begin so: the program's and the document's.
-/
import Derived.Test.YtcofcikdknmggaaBkInv
namespace Go.Proofs.Ytcofcikdknmggaa
open Go.Hp Go.RowKit
set_option linter.unusedVariables false
set_option linter.unusedSimpArgs false
set_option maxRecDepth 100000
set_option maxHeartbeats 2000000
namespace Bk

def la0 : La := ⟨0, 0, 0, 0, 0, 0, 0⟩
def lAt (l : List La) (i : Nat) : La := (l[i]?).getD la0
theorem lAt_of {l : List La} {i : Nat} {x : La} (h : l[i]? = some x) : lAt l i = x := by unfold lAt; rw [h]; rfl
def lastF (l : List La) (c : Int) : La × Bool := if seB l c = true then (lAt l (seI l c), true) else (la0, false)
def rfindS (l : List En) (s : ByteArray) : En × Bool := if rpB l s = true then (eAt l (rpI l s), true) else (en0, false)
def rlastF : List La → Int → La × Bool
  | [], _ => (la0, false)
  | x :: l, c => if x.cl = c then (x, true) else rlastF l c
def rnamesS (l : List En) (s : ByteArray) : List En := l.filter (fun e => hpE s e)

section
variable {w0 w : World} {L : List HProp}

theorem lastP {ve vl : Value} {u : Int} {ls : List La} {s : Int} (he : RecsAt w vl 7 (ls.map La.cells)) (be : ls.length ≤ 140737488355328) (H : At w0 L w) :
    Calls Try.prog 16 #[.agg #[.int .i64 u, ve, vl], .int .i64 s] w (fun e w' => e = .returned (.tuple #[.agg (lastF ls s).1.cells.toArray, .bool (lastF ls s).2]) ∧ At w0 L w') := by
  obtain ⟨W, rfl⟩ : ∃ W : World, W = w := ⟨_, rfl⟩
  have HF := At.of W
  have H0 := Lib.hid H
  obtain ⟨ad, cap, rfl, c1, c2, c3⟩ := he.value
  rw [List.length_map] at c1 c3 he ⊢
  have R := Lib.hid he
  clear H he
  go_enter Try.func16, Try.ntmps16
  go_wp2_with (first | ((with_reducible refine k_box ?_); refine st_box rfl _ _ rfl _ rfl HF ?_; (clear HF; intro g2 w HF K hK; simp only [Value.cells, Act.eval, Value.cells, Array.getD_eq_getD_getElem?, List.getElem?_toArray, List.getElem?_cons_succ, List.getElem?_cons_zero, Option.getD_some] at HF; go_simp)) | ((with_reducible refine k_alloc (T := 53) ?_); refine st_alloc rfl _ rfl _ z53 _ rfl HF ?_; (clear HF; intro g4 w HF K hK; simp only [Value.cells] at HF; go_simp)) | ((with_reducible refine k_load ?_); refine st_load rfl _ _ rfl _ _ rfl ?_ HF 1 rfl rfl ?_; (kernel_rfl); (intro K hK; go_simp)))
  refine (seat be (R.out.ext (HF.ext 2 rfl)) s HF).mono ?_
  rintro e w3 ⟨rfl, _, HX⟩
  clear HF
  have HF := HX
  clear HX
  cases hb : seB ls s with
  | false =>
    have hS := Lib.hid (show lastF ls s = (la0, false) by unfold lastF; simp [hb])
    clear hb
    go_wp2_with (first | ((with_reducible refine k_load ?_); refine st_load rfl _ _ rfl _ _ rfl ?_ HF 1 rfl rfl ?_; (kernel_rfl); (intro K hK; go_simp)) | ((with_reducible refine k_store (T := 53) ?_); refine st_put rfl _ _ _ rfl _ rfl _ rfl ?_ s53 HF 0 rfl rfl ?_; (simp [Value.oneCell']); (clear HF; intro w HF K hK; simp only [List.set_cons_zero, List.set_cons_succ, Act.eval, Value.cells, Array.getD_eq_getD_getElem?, List.getElem?_toArray, List.getElem?_cons_succ, List.getElem?_cons_zero, Option.getD_some] at HF; go_simp)))
    refine bodyPost_ret (results_cell_tmp rfl rfl a53 s53 (HF.get 0 rfl) rfl) rfl ?_
    exact ⟨by rw [hS.out]; rfl, (HF.sel 3 [2]).lift0 H0.out⟩
  | true =>
    have hlt := seB_lt hb
    have g1 : ((seI ls s : Nat) : Int) < ls.length := by omega
    obtain ⟨x, hx⟩ : ∃ x, ls[seI ls s]? = some x := ⟨_, List.getElem?_eq_getElem hlt⟩
    obtain ⟨b, rfl⟩ := c3 (by omega)
    have Hc := Lib.hid (recs_get (R.out.ext (HF.ext 2 rfl)) hx)
    have hS := Lib.hid (show lastF ls s = (x, true) by unfold lastF; simp [hb, lAt_of hx])
    obtain ⟨xa, xb, xc, xd, xe, xf, xg⟩ := x
    clear hb hx c3
    go_wp2_with (first | ((with_reducible refine k_load (T := 53) ?_); refine st_loadCells rfl _ _ rfl _ rfl a53 [.int .i64 xa, .int .i64 xb, .int .i64 xc, .int .i64 xd, .int .i64 xe, .int .i64 xf, .int .i64 xg] s53 Hc.out ?_; (intro K hK; go_simp)) | ((with_reducible refine k_load ?_); refine st_load rfl _ _ rfl _ _ rfl ?_ HF 1 rfl rfl ?_; (kernel_rfl); (intro K hK; go_simp)) | ((with_reducible refine k_store (T := 53) ?_); refine st_put rfl _ _ _ rfl _ rfl _ rfl ?_ s53 HF 0 rfl rfl ?_; (simp [Value.oneCell']); (clear HF; intro w HF K hK; simp only [List.set_cons_zero, List.set_cons_succ, Act.eval, Value.cells, Array.getD_eq_getD_getElem?, List.getElem?_toArray, List.getElem?_cons_succ, List.getElem?_cons_zero, Option.getD_some] at HF; go_simp)))
    refine bodyPost_ret (results_cell_tmp rfl rfl a53 s53 (HF.get 0 rfl) rfl) rfl ?_
    exact ⟨by rw [hS.out]; rfl, (HF.sel 3 [2]).lift0 H0.out⟩

theorem rfind {ve vl : Value} {u : Int} {es : List En} {s : ByteArray} (he : RecsAt w ve 4 (es.map En.cells)) (be : es.length ≤ 140737488355328) (H : At w0 L w) :
    Calls Try.prog 34 #[.agg #[.int .i64 u, ve, vl], .string s] w (fun e w' => e = .returned (.tuple #[.agg (rfindS es s).1.cells.toArray, .bool (rfindS es s).2]) ∧ At w0 L w') := by
  obtain ⟨W, rfl⟩ : ∃ W : World, W = w := ⟨_, rfl⟩
  have HF := At.of W
  have H0 := Lib.hid H
  obtain ⟨ad, cap, rfl, c1, c2, c3⟩ := he.value
  rw [List.length_map] at c1 c3 he ⊢
  have R := Lib.hid he
  clear H he
  go_enter Try.func34, Try.ntmps34
  go_wp2_with (first | ((with_reducible refine k_box ?_); refine st_box rfl _ _ rfl _ rfl HF ?_; (clear HF; intro g2 w HF K hK; simp only [Value.cells, Act.eval, Value.cells, Array.getD_eq_getD_getElem?, List.getElem?_toArray, List.getElem?_cons_succ, List.getElem?_cons_zero, Option.getD_some] at HF; go_simp)) | ((with_reducible refine k_alloc (T := 39) ?_); refine st_alloc rfl _ rfl _ z39 _ rfl HF ?_; (clear HF; intro g4 w HF K hK; simp only [Value.cells] at HF; go_simp)) | ((with_reducible refine k_load ?_); refine st_load rfl _ _ rfl _ _ rfl ?_ HF 1 rfl rfl ?_; (kernel_rfl); (intro K hK; go_simp)))
  refine (rplace (R.out.ext (HF.ext 2 rfl)) be s HF).mono ?_
  rintro e w3 ⟨rfl, _, HX⟩
  clear HF
  have HF := HX
  clear HX
  cases hb : rpB es s with
  | false =>
    have hS := Lib.hid (show rfindS es s = (en0, false) by unfold rfindS; simp [hb])
    clear hb
    go_wp2_with (first | ((with_reducible refine k_load ?_); refine st_load rfl _ _ rfl _ _ rfl ?_ HF 1 rfl rfl ?_; (kernel_rfl); (intro K hK; go_simp)) | ((with_reducible refine k_store (T := 39) ?_); refine st_put rfl _ _ _ rfl _ rfl _ rfl ?_ s39 HF 0 rfl rfl ?_; (simp [Value.oneCell']); (clear HF; intro w HF K hK; simp only [List.set_cons_zero, List.set_cons_succ, Act.eval, Value.cells, Array.getD_eq_getD_getElem?, List.getElem?_toArray, List.getElem?_cons_succ, List.getElem?_cons_zero, Option.getD_some] at HF; go_simp)))
    refine bodyPost_ret (results_cell_tmp rfl rfl a39 s39 (HF.get 0 rfl) rfl) rfl ?_
    exact ⟨by rw [hS.out]; rfl, (HF.sel 3 [2]).lift0 H0.out⟩
  | true =>
    have hlt := rpB_lt hb
    have g1 : ((rpI es s : Nat) : Int) < es.length := by omega
    obtain ⟨x, hx⟩ : ∃ x, es[rpI es s]? = some x := ⟨_, List.getElem?_eq_getElem hlt⟩
    obtain ⟨b, rfl⟩ := c3 (by omega)
    have Hc := Lib.hid (recs_get (R.out.ext (HF.ext 2 rfl)) hx)
    have hS := Lib.hid (show rfindS es s = (x, true) by unfold rfindS; simp [hb, eAt_of hx])
    obtain ⟨xn, xf, xo, xs⟩ := x
    clear hb hx c3
    go_wp2_with (first | ((with_reducible refine k_load (T := 39) ?_); refine st_loadCells rfl _ _ rfl _ rfl a39 [.string xn, .int .i64 xf, .int .i64 xo, .int .i64 xs] s39 Hc.out ?_; (intro K hK; go_simp)) | ((with_reducible refine k_load ?_); refine st_load rfl _ _ rfl _ _ rfl ?_ HF 1 rfl rfl ?_; (kernel_rfl); (intro K hK; go_simp)) | ((with_reducible refine k_store (T := 39) ?_); refine st_put rfl _ _ _ rfl _ rfl _ rfl ?_ s39 HF 0 rfl rfl ?_; (simp [Value.oneCell']); (clear HF; intro w HF K hK; simp only [List.set_cons_zero, List.set_cons_succ, Act.eval, Value.cells, Array.getD_eq_getD_getElem?, List.getElem?_toArray, List.getElem?_cons_succ, List.getElem?_cons_zero, Option.getD_some] at HF; go_simp)))
    refine bodyPost_ret (results_cell_tmp rfl rfl a39 s39 (HF.get 0 rfl) rfl) rfl ?_
    exact ⟨by rw [hS.out]; rfl, (HF.sel 3 [2]).lift0 H0.out⟩

theorem rlast {ve vl : Value} {u : Int} {ls : List La} {s : Int} (he : RecsAt w vl 7 (ls.map La.cells)) (be : ls.length ≤ 140737488355328) (H : At w0 L w) :
    Calls Try.prog 35 #[.agg #[.int .i64 u, ve, vl], .int .i64 s] w (fun e w' => e = .returned (.tuple #[.agg (rlastF ls s).1.cells.toArray, .bool (rlastF ls s).2]) ∧ At w0 L w') := by
  obtain ⟨W, rfl⟩ : ∃ W : World, W = w := ⟨_, rfl⟩
  have HF := At.of W
  have H0 := Lib.hid H
  obtain ⟨ad, cap, rfl, c1, c2, c3⟩ := he.value
  rw [List.length_map] at c1 c3 he ⊢
  have R := Lib.hid he
  have C3 := Lib.hid c3
  clear H he c3
  go_enter Try.func35, Try.ntmps35
  go_wp2_with (first | ((with_reducible refine k_box ?_); refine st_box rfl _ _ rfl _ rfl HF ?_; (clear HF; intro g2 w HF K hK; simp only [Value.cells, Act.eval, Value.cells, Array.getD_eq_getD_getElem?, List.getElem?_toArray, List.getElem?_cons_succ, List.getElem?_cons_zero, Option.getD_some] at HF; go_simp)) | ((with_reducible refine k_alloc (T := 53) ?_); refine st_alloc rfl _ rfl _ z53 _ rfl HF ?_; (clear HF; intro g4 w HF K hK; simp only [Value.cells] at HF; go_simp)))
  go_loopw [6] (fun i wr => ∃ k : Nat, k ≤ ls.length ∧ i = .int .i64 k ∧ Hid (rlastF (ls.drop k) s = rlastF ls s) ∧ At W (Blk g4 (.cells #[.int .i64 0, .int .i64 0, .int .i64 0, .int .i64 0, .int .i64 0, .int .i64 0, .int .i64 0] 53 (0, 0)) :: Blk g2 (.cells #[.int .i64 u, ve, .slice ad ls.length cap] 25 (0, 0)) :: Arg W :: []) wr) (fun i _ => ls.length - (intOf i).toNat)
  case atStart => exact ⟨0, Nat.zero_le _, rfl, Lib.hid rfl, HF⟩
  case round =>
    clear HF
    obtain ⟨k, hk, rfl, HI, HF⟩ := hrel
    by_cases hlt : k < ls.length
    · have g1 : (k : Int) < ls.length := by omega
      obtain ⟨x, hx⟩ : ∃ x, ls[k]? = some x := ⟨_, List.getElem?_eq_getElem hlt⟩
      obtain ⟨b, rfl⟩ := C3.out (by omega)
      have Hc := Lib.hid (recs_get (R.out.ext (HF.ext 2 rfl)) hx)
      have Hc0 := Lib.hid (recs_get (R.out.ext (HF.ext 2 rfl)) hx 0 (.int .i64 x.cl) rfl)
      have hd : ls.drop k = x :: ls.drop (k + 1) := by
        rw [List.drop_eq_getElem_cons hlt]
        rw [List.getElem?_eq_getElem hlt] at hx
        cases hx
        rfl
      obtain ⟨xa, xb, xc, xd, xe, xf, xg⟩ := x
      dsimp only at Hc0
      clear hx
      by_cases hxs : xa = s
      · have hs' := hxs.symm
        subst hs'
        have hS := Lib.hid (show rlastF ls s = (⟨s, xb, xc, xd, xe, xf, xg⟩, true) by rw [← HI.out, hd]; unfold rlastF; simp)
        clear hd hxs
        go_wp2_with (first | ((with_reducible refine k_load (T := 53) ?_); refine st_loadCells rfl _ _ rfl _ rfl a53 [.int .i64 s, .int .i64 xb, .int .i64 xc, .int .i64 xd, .int .i64 xe, .int .i64 xf, .int .i64 xg] s53 Hc.out ?_; (intro K hK; go_simp)) | ((with_reducible refine k_load (T := 3) ?_); refine st_load1 rfl _ _ rfl _ rfl ?_ Hc0.out ?_; (kernel_rfl); (intro K hK; go_simp)) | ((with_reducible refine k_load ?_); refine st_load rfl _ _ rfl _ _ rfl ?_ HF 1 rfl rfl ?_; (kernel_rfl); (intro K hK; go_simp)) | ((with_reducible refine k_store (T := 53) ?_); refine st_put rfl _ _ _ rfl _ rfl _ rfl ?_ s53 HF 0 rfl rfl ?_; (simp [Value.oneCell']); (clear HF; intro w HF K hK; simp only [List.set_cons_zero, List.set_cons_succ, Act.eval, Value.cells, Array.getD_eq_getD_getElem?, List.getElem?_toArray, List.getElem?_cons_succ, List.getElem?_cons_zero, Option.getD_some] at HF; go_simp)))
        refine bodyPost_ret (results_cell_tmp rfl rfl a53 s53 (HF.get 0 rfl) rfl) rfl ?_
        exact ⟨by rw [hS.out]; rfl, (HF.sel 3 [2]).lift0 H0.out⟩
      · have HI2 := Lib.hid (show rlastF (ls.drop (k + 1)) s = rlastF ls s by rw [← HI.out, hd]; conv => rhs; unfold rlastF; rw [if_neg hxs])
        have hxb : (xa == s) = false := by simpa using hxs
        clear hd
        go_wp2_with (first | ((with_reducible refine k_load (T := 3) ?_); refine st_load1 rfl _ _ rfl _ rfl ?_ Hc0.out ?_; (kernel_rfl); (intro K hK; go_simp)) | ((with_reducible refine k_load ?_); refine st_load rfl _ _ rfl _ _ rfl ?_ HF 1 rfl rfl ?_; (kernel_rfl); (intro K hK; go_simp)))
        go_roundw
        case rel => exact ⟨k + 1, by omega, rfl, HI2, HF⟩
        case measure => simp [intOf]; omega
    · have g1 : ¬ (k : Int) < ls.length := by omega
      have hS := Lib.hid (show rlastF ls s = (la0, false) by rw [← HI.out, List.drop_of_length_le (by omega)]; rfl)
      go_wp2_with (first | ((with_reducible refine k_load ?_); refine st_load rfl _ _ rfl _ _ rfl ?_ HF 1 rfl rfl ?_; (kernel_rfl); (intro K hK; go_simp)) | ((with_reducible refine k_store (T := 53) ?_); refine st_put rfl _ _ _ rfl _ rfl _ rfl ?_ s53 HF 0 rfl rfl ?_; (simp [Value.oneCell']); (clear HF; intro w HF K hK; simp only [List.set_cons_zero, List.set_cons_succ, Act.eval, Value.cells, Array.getD_eq_getD_getElem?, List.getElem?_toArray, List.getElem?_cons_succ, List.getElem?_cons_zero, Option.getD_some] at HF; go_simp)))
      refine bodyPost_ret (results_cell_tmp rfl rfl a53 s53 (HF.get 0 rfl) rfl) rfl ?_
      exact ⟨by rw [hS.out]; rfl, (HF.sel 3 [2]).lift0 H0.out⟩
end
end Bk
end Go.Proofs.Ytcofcikdknmggaa
