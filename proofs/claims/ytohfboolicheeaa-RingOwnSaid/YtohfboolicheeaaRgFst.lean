/-
  The law's first: the server of the first point that is not below a key's hash.
-/
import Derived.Test.YtohfboolicheeaaRgPts
import Derived.Test.YtohfboolicheeaaRgCnt
import Derived.Test.YtohfboolicheeaaRgKey
namespace Go.Proofs.Ytohfboolicheeaa
open Go.Hp Go.RowKit
set_option linter.unusedVariables false
set_option linter.unusedSimpArgs false
set_option maxRecDepth 100000
set_option maxHeartbeats 2000000
attribute [local go_sem] Oper.semAt_some
namespace Rg
def fLast (l : List Pt) : Int := match l.getLast? with | some p => p.h | none => -1
def fLeast (l : List Pt) : Int := match l.head? with | some p => p.s | none => -1
def fAt (h : Int) (l : List Pt) : Int := match l.find? fun p => decide (h ≤ p.h) with | some p => p.s | none => -1
theorem fLast_snoc (l : List Pt) (p : Pt) : fLast (l ++ [p]) = p.h := by unfold fLast; rw [List.getLast?_concat]
theorem fLeast_snoc (l : List Pt) (p : Pt) (hs : ∀ q ∈ l, 1 ≤ q.s) : fLeast (l ++ [p]) = if fLeast l = -1 then p.s else fLeast l := by
  cases l with
  | nil => rfl
  | cons q t =>
    have := hs q (by simp)
    have e : fLeast (q :: t) = q.s := rfl
    rw [e, if_neg (by omega)]
    rfl
theorem fAt_snoc (h : Int) (l : List Pt) (p : Pt) (hs : ∀ q ∈ l, 1 ≤ q.s) : fAt h (l ++ [p]) = if fAt h l = -1 then (if h ≤ p.h then p.s else -1) else fAt h l := by
  unfold fAt
  rw [List.find?_append]
  cases hf : l.find? fun p => decide (h ≤ p.h) with
  | none =>
    simp only [Option.none_or, if_true]
    by_cases e : h ≤ p.h
    · rw [if_pos e, List.find?_cons_of_pos (by simpa using e)]
    · rw [if_neg e, List.find?_cons_of_neg (by simpa using e)]
      rfl
  | some q =>
    have := hs q (List.mem_of_find?_eq_some hf)
    simp only [Option.some_or]
    rw [if_neg (by omega)]
theorem fst_head {pts : List Pt} {h server : Int} (hs : ∀ q ∈ pts, 1 ≤ q.s) (hh : (allS pts h).head? = some server) : (fAt h pts = -1 → fLeast pts = server) ∧ (fAt h pts ≠ -1 → fAt h pts = server) := by
  have key : ∀ (a : Int) (r : List Int), (List.foldl addS [] (a :: r)).head? = some a := by
    intro a r
    obtain ⟨t, ht⟩ := fold_prefix r [a]
    have : List.foldl addS [] (a :: r) = List.foldl addS [a] r := by
      rw [List.foldl_cons]
      rfl
    rw [this, ← ht]
    rfl
  unfold allS at hh
  have hf : fAt h pts = match (pts.filter fun p => decide (¬ p.h < h)).head? with | some p => p.s | none => -1 := by
    unfold fAt
    rw [List.head?_filter]
    have : (fun p : Pt => decide (h ≤ p.h)) = fun p => decide (¬ p.h < h) := by
      funext p
      by_cases e : h ≤ p.h
      · have e2 : ¬ p.h < h := by omega
        simp [e, e2]
      · have e2 : p.h < h := by omega
        simp [e, e2]
    rw [this]
  cases hl : pts.filter fun p => decide (¬ p.h < h) with
  | nil =>
    rw [hl] at hf hh
    have hall : (pts.filter fun p => decide (p.h < h)) = pts := by
      rw [List.filter_eq_self]
      intro p hp
      have := List.filter_eq_nil_iff.1 hl p hp
      simpa using this
    rw [hall, List.nil_append] at hh
    have hfe : fAt h pts = -1 := hf
    refine ⟨fun _ => ?_, fun hn => absurd hfe hn⟩
    cases pts with
    | nil => cases hh
    | cons q t =>
      rw [List.map_cons, key] at hh
      exact Option.some.inj hh
  | cons q t =>
    rw [hl] at hf hh
    have hfe : fAt h pts = q.s := hf
    rw [List.cons_append, List.map_cons, key] at hh
    have hq : q ∈ pts := (List.mem_filter.1 (show q ∈ pts.filter fun p => decide (¬ p.h < h) by rw [hl]; simp)).1
    have := hs q hq
    exact ⟨fun e => absurd e (by omega), fun _ => hfe.trans (Option.some.inj hh)⟩

section
variable {w0 w : World} {L : List HProp}


set_option maxHeartbeats 4000000 in
theorem fstL {v : Value} {c : Cf} {S : List Int} {pts : List Pt} (hr1 : RgF 84 w v c S pts) (hsz : pts.length ≤ 100000) (hps : PS pts) (hhb : Hs pts) (hss : ∀ q ∈ pts, 1 ≤ q.s) (k : Ky) {server : Int} (hh : (allS pts (hashK (keyH k) : Nat)).head? = some server) (H : At w0 L w) :
    Calls Try.prog 31 #[v, .agg #[.int .i64 k.k, .int .i64 k.a, .int .i64 k.b, .int .i64 k.c], .int .i64 server] w (Ret w0 (.bool true) L) := by
  obtain ⟨W, rfl⟩ : ∃ W : World, W = w := ⟨_, rfl⟩
  have HF := At.of W
  have H0 := Lib.hid H
  have R1 := Lib.hid hr1
  obtain ⟨ga, _, _, _, _, _, _, rfl, _⟩ := hr1
  have HPS := Lib.hid hps
  have HHB := Lib.hid hhb
  have HSS := Lib.hid hss
  have HFH := Lib.hid (fst_head hss hh)
  have HH1 := Lib.hid (fun (w2 : World) (M : List HProp) (HM : At W M w2) => hashP HM k)
  have HH2 := Lib.hid (fun (w2 : World) (M : List HProp) (HM : At W M w2) => hashP HM ⟨2, k.a, 0, 0⟩)
  clear H hps hhb hss hh
  by_cases hk3 : k.k = 3
  · have e : keyH k = ⟨2, k.a, 0, 0⟩ := by unfold keyH; rw [if_pos hk3]
    rw [e] at HFH
    obtain ⟨hv, hhv⟩ : ∃ hv, hashK ⟨2, k.a, 0, 0⟩ = hv := ⟨_, rfl⟩
    rw [hhv] at HH2 HFH
    obtain ⟨k1, k2, k3, k4⟩ := k
    obtain ⟨hz, hhz⟩ : ∃ hz, hashK ⟨k1, k2, k3, k4⟩ = hz := ⟨_, rfl⟩
    rw [hhz] at HH1
    (try dsimp only at *)
    subst hk3
    clear e hhz hhv
    refine calls_of_marks Try.func31 rfl ?_
    simp only [Try.ntmps31, List.size_toArray, List.length_cons, List.length_nil, Nat.reduceAdd, Nat.reduceSub, Array.replicate_succ, Array.replicate_zero, List.push_toArray, List.append_toArray, List.nil_append, List.cons_append]
    gi_wp2_with (first | ((refine in_step rfl ?_); (with_reducible refine k_box ?_); refine st_box rfl _ _ rfl _ rfl HF ?_; (clear HF; intro g4 w HF K hK; simp only [Value.cells, Act.eval, Value.cells, Array.getD_eq_getD_getElem?, List.getElem?_toArray, List.getElem?_cons_succ, List.getElem?_cons_zero, Option.getD_some] at HF; go_simp; refine hK _ _ ?_; clear hK K; show wpListIn _ _ _ _ _ _ _ _)) | ((refine in_step rfl ?_); (with_reducible refine k_alloc (T := 4) ?_); refine st_alloc rfl _ rfl (.bool false) ?_ #[.bool false] rfl HF ?_; (kernel_rfl); (clear HF; intro g6 w HF K hK; go_simp; refine hK _ _ ?_; clear hK K; show wpListIn _ _ _ _ _ _ _ _)) | ((refine in_step rfl ?_); (with_reducible refine k_load (T := 38) ?_); refine st_row rfl _ _ rfl _ rfl a38 4 s38 HF 1 rfl rfl ?_; (intro K hK; go_simp; refine hK _ _ ?_; clear hK K; show wpListIn _ _ _ _ _ _ _ _)) | ((refine in_step rfl ?_); (with_reducible refine k_load (T := 38) ?_); refine st_loads rfl _ _ rfl _ _ rfl a38 4 s38 HF 1 rfl ?_ ?_; (simp); (intro K hK; go_simp; refine hK _ _ ?_; clear hK K; show wpListIn _ _ _ _ _ _ _ _)))
    refine ⟨trivial, (calls_in (HH1.out _ _ HF)).mono ?_⟩
    rintro e w2 ⟨rfl, HX⟩
    clear HF
    have HF := HX
    clear HX
    gi_wp2_with (first | ((refine in_step rfl ?_); (with_reducible refine k_alloc (T := 3) ?_); refine st_alloc rfl _ rfl (.int .i64 0) ?_ #[.int .i64 0] rfl HF ?_; (kernel_rfl); (clear HF; intro g7 w HF K hK; go_simp; refine hK _ _ ?_; clear hK K; show wpListIn _ _ _ _ _ _ _ _)) | ((refine in_step rfl ?_); (with_reducible refine k_load ?_); refine st_load rfl _ _ rfl _ _ rfl ?_ HF 2 rfl rfl ?_; (kernel_rfl); (intro K hK; go_simp; refine hK _ _ ?_; clear hK K; show wpListIn _ _ _ _ _ _ _ _)) | ((refine in_step rfl ?_); (with_reducible refine k_store ?_); refine st_store rfl _ _ _ rfl _ _ rfl _ rfl rfl ?_ HF 0 rfl ?_ ?_; (kernel_rfl); (simp); (clear HF; intro w HF K hK; simp only [List.set_cons_zero, List.set_cons_succ, List.setIfInBounds_toArray, Act.eval, Value.cells, Array.getD_eq_getD_getElem?, List.getElem?_toArray, List.getElem?_cons_succ, List.getElem?_cons_zero, Option.getD_some] at HF; go_simp; refine hK _ _ ?_; clear hK K; show wpListIn _ _ _ _ _ _ _ _)))
    refine ⟨trivial, (calls_in (HH2.out _ _ HF)).mono ?_⟩
    rintro e w3 ⟨rfl, HX⟩
    clear HF
    have HF := HX
    clear HX
    have tk8 : True := trivial
    have tk9 : True := trivial
    have tk10 : True := trivial
    have tk11 : True := trivial
    gi_wp2_with (first | ((refine in_step rfl ?_); (with_reducible refine k_alloc (T := 3) ?_); (have _t := tk7); refine st_alloc rfl _ rfl (.int .i64 0) ?_ #[.int .i64 0] rfl HF ?_; (kernel_rfl); (clear HF tk7 _t; intro g7 w HF K hK; go_simp; refine hK _ _ ?_; clear hK K; show wpListIn _ _ _ _ _ _ _ _)) | ((refine in_step rfl ?_); (with_reducible refine k_alloc (T := 3) ?_); (have _t := tk8); refine st_alloc rfl _ rfl (.int .i64 0) ?_ #[.int .i64 0] rfl HF ?_; (kernel_rfl); (clear HF tk8 _t; intro g8 w HF K hK; go_simp; refine hK _ _ ?_; clear hK K; show wpListIn _ _ _ _ _ _ _ _)) | ((refine in_step rfl ?_); (with_reducible refine k_alloc (T := 3) ?_); (have _t := tk9); refine st_alloc rfl _ rfl (.int .i64 0) ?_ #[.int .i64 0] rfl HF ?_; (kernel_rfl); (clear HF tk9 _t; intro g9 w HF K hK; go_simp; refine hK _ _ ?_; clear hK K; show wpListIn _ _ _ _ _ _ _ _)) | ((refine in_step rfl ?_); (with_reducible refine k_alloc (T := 3) ?_); (have _t := tk10); refine st_alloc rfl _ rfl (.int .i64 0) ?_ #[.int .i64 0] rfl HF ?_; (kernel_rfl); (clear HF tk10 _t; intro g10 w HF K hK; go_simp; refine hK _ _ ?_; clear hK K; show wpListIn _ _ _ _ _ _ _ _)) | ((refine in_step rfl ?_); (with_reducible refine k_alloc (T := 3) ?_); (have _t := tk11); refine st_alloc rfl _ rfl (.int .i64 0) ?_ #[.int .i64 0] rfl HF ?_; (kernel_rfl); (clear HF tk11 _t; intro g11 w HF K hK; go_simp; refine hK _ _ ?_; clear hK K; show wpListIn _ _ _ _ _ _ _ _)) | ((refine in_step rfl ?_); (with_reducible refine k_load ?_); (first | refine st_load rfl _ _ rfl _ _ rfl ?_ HF 0 rfl rfl ?_ | refine st_load rfl _ _ rfl _ _ rfl ?_ HF 1 rfl rfl ?_ | refine st_load rfl _ _ rfl _ _ rfl ?_ HF 2 rfl rfl ?_ | refine st_load rfl _ _ rfl _ _ rfl ?_ HF 3 rfl rfl ?_); (kernel_rfl); (intro K hK; go_simp; refine hK _ _ ?_; clear hK K; show wpListIn _ _ _ _ _ _ _ _)) | ((refine in_step rfl ?_); (with_reducible refine k_store ?_); refine st_store rfl _ _ _ rfl _ _ rfl _ rfl rfl ?_ HF 0 rfl ?_ ?_; (kernel_rfl); (simp); (clear HF; intro w HF K hK; simp only [List.set_cons_zero, List.set_cons_succ, List.setIfInBounds_toArray, Act.eval, Value.cells, Array.getD_eq_getD_getElem?, List.getElem?_toArray, List.getElem?_cons_succ, List.getElem?_cons_zero, Option.getD_some] at HF; go_simp; refine hK _ _ ?_; clear hK K; show wpListIn _ _ _ _ _ _ _ _)))
    clear HH1 HH2
    refine ⟨trivial, (calls_in (points0 HF _)).mono ?_⟩
    rintro e w2 ⟨gb, rfl, HX⟩
    clear HF
    have HF := HX
    clear HX
    gi_wp2_with fail
    replace HF : At W (Blk gb (.cells #[.pointer (some ⟨ga, 0, none⟩)] 23 (0, 0)) :: Blk g11 (.cells #[.int .i64 (-1)] 3 (0, 0)) :: Blk g10 (.cells #[.int .i64 (-1)] 3 (0, 0)) :: Blk g9 (.cells #[.int .i64 (-1)] 3 (0, 0)) :: Blk g8 (.cells #[.int .i64 (-1)] 3 (0, 0)) :: Blk g7 (.cells #[.int .i64 (hv : Nat)] 3 (0, 0)) :: Blk g6 (.cells #[.bool false] 4 (0, 0)) :: Arg W :: []) _ := HF.sel 9 [0, 1, 2, 3, 4, 5, 6, 8]
    refine range_at1 (w0 := W) (gf := 48) (lb := #[.pointer (some ⟨gb, 0, none⟩)]) rfl (enters_of Try.func48 (by kernel_rfl) rfl) (encs := encP) (fun _ => rfl)
      (fun _ => [Blk gb (.cells #[.pointer (some ⟨ga, 0, none⟩)] 23 (0, 0))])
      (fun pre => Blk g11 (.cells #[.int .i64 (fLast pre)] 3 (0, 0)) :: Blk g10 (.cells #[.int .i64 (fLeast pre)] 3 (0, 0)) :: Blk g9 (.cells #[.int .i64 (fAt (hv : Nat) pre)] 3 (0, 0)) :: Blk g8 (.cells #[.int .i64 (-1)] 3 (0, 0)) :: Blk g7 (.cells #[.int .i64 (hv : Nat)] 3 (0, 0)) :: Blk g6 (.cells #[.bool false] 4 (0, 0)) :: Arg W :: [])
      (fun c pre => [pur False]) (fun xs => xs = pts) (fun pre => pre <+: pts) ?startA (fun J Jx hJ => pts_iter R1.out hsz (fun pre => by obtain ⟨X, hX⟩ := hJ pre; exact ⟨_, hX.trans (List.perm_append_comm.trans (by exact (List.perm_middle (l₁ := [_, _, _, _, _, _]))))⟩)) ?FrA (fun gp x => emp) ?assignA ?bodyA ?doneA ?stopA
    case startA => exact HF
    case assignA =>
      intro l D r pre x W2 K hsp HA hK
      dsimp only [encP]
      gi_wp2
      obtain ⟨gp, _⟩ : ∃ gp : Nat, gp = 0 := ⟨0, rfl⟩
      exact hK gp _ HA.addEmp
    case bodyA =>
      rintro l D r pre x gp W2 hsp HA
      have hall : ∀ q ∈ pre ++ [x], q ∈ pts := fun q hq => hsp.subset hq
      have hpre : ∀ q ∈ pre, 1 ≤ q.s := fun q hq => HSS.out q (hall q (by simp [hq]))
      have hxm := hall x (by simp)
      have hxb := HHB.out x hxm
      have hxs := HSS.out x hxm
      have hfl : fLast pre ≤ x.h := by
        unfold fLast
        cases hg : pre.getLast? with
        | none => dsimp only; omega
        | some q =>
          have h1 := HPS.out.sublist hsp.sublist
          exact (List.pairwise_append.1 h1).2.2 q (List.mem_of_getLast? hg) x (by simp)
      have hfe : fLeast pre = -1 ∨ 1 ≤ fLeast pre := by
        unfold fLeast
        cases hg : pre.head? with
        | none => exact .inl rfl
        | some q => exact .inr (hpre q (List.mem_of_head? hg))
      have hfa : fAt (hv : Nat) pre = -1 ∨ 1 ≤ fAt (hv : Nat) pre := by
        unfold fAt
        cases hg : pre.find? fun p => decide (((hv : Nat) : Int) ≤ p.h) with
        | none => exact .inl rfl
        | some q => exact .inr (hpre q (List.mem_of_find?_eq_some hg))
      have E1 := Lib.hid (fLast_snoc pre x)
      have E2 := fLeast_snoc pre x hpre
      have E3 := fAt_snoc (hv : Nat) pre x hpre
      obtain ⟨fl, hfl2⟩ : ∃ fl, fLast pre = fl := ⟨_, rfl⟩
      obtain ⟨fe, hfe2⟩ : ∃ fe, fLeast pre = fe := ⟨_, rfl⟩
      obtain ⟨fa, hfa2⟩ : ∃ fa, fAt (hv : Nat) pre = fa := ⟨_, rfl⟩
      rw [hfl2] at hfl HA
      rw [hfe2] at hfe E2 HA
      rw [hfa2] at hfa E3 HA
      clear hfl2 hfe2 hfa2 hpre hxm hall hsp
      have HB := HA.sel 11 [4, 5, 6, 7, 8, 10, 0, 1, 2, 3, 9]
      clear HA
      replace HB : At W (Blk g11 (.cells #[.int .i64 fl] 3 (0, 0)) :: Blk g10 (.cells #[.int .i64 fe] 3 (0, 0)) :: Blk g9 (.cells #[.int .i64 fa] 3 (0, 0)) :: Blk g8 (.cells #[.int .i64 (-1)] 3 (0, 0)) :: Blk g7 (.cells #[.int .i64 (hv : Nat)] 3 (0, 0)) :: Arg W :: emp :: Blk l (.loop r) :: Blk D (.deferred (some [])) :: Blk gb (.cells #[.pointer (some ⟨ga, 0, none⟩)] 23 (0, 0)) :: Blk g6 (.cells #[.bool false] 4 (0, 0)) :: []) W2 := HB
      obtain ⟨xh, xs, xn⟩ := x
      dsimp only at hxb hxs hfl E1 E2 E3
      have q1 : decide (xh < fl) = false := decide_eq_false (by omega)
      have q2 : decide (xh < 0) = false := decide_eq_false (by omega)
      have q3 : decide ((4294967296 : Int) ≤ xh) = false := decide_eq_false (by omega)
      have r1 : ¬ xh < fl := by omega
      have r2 : ¬ xh < 0 := by omega
      have r3 : ¬ (4294967296 : Int) ≤ xh := by omega
      by_cases c3 : ((hv : Nat) : Int) ≤ xh
      · rw [if_pos c3] at E3
        have d3 : decide (((hv : Nat) : Int) ≤ xh) = true := decide_eq_true c3
        rcases hfe with rfl | hfe
        · rw [if_pos rfl] at E2
          rcases hfa with rfl | hfa
          · rw [if_pos rfl] at E3
            gi_wp2_with (first | ((refine in_step rfl ?_); (with_reducible refine k_load ?_); (first | refine st_load rfl _ _ rfl _ _ rfl ?_ HB 0 rfl rfl ?_ | refine st_load rfl _ _ rfl _ _ rfl ?_ HB 1 rfl rfl ?_ | refine st_load rfl _ _ rfl _ _ rfl ?_ HB 2 rfl rfl ?_ | refine st_load rfl _ _ rfl _ _ rfl ?_ HB 3 rfl rfl ?_ | refine st_load rfl _ _ rfl _ _ rfl ?_ HB 4 rfl rfl ?_); (kernel_rfl); (intro K hK; go_simp; refine hK _ _ ?_; clear hK K; show wpListIn _ _ _ _ _ _ _ _)) | ((refine in_step rfl ?_); (with_reducible refine k_store ?_); (first | refine st_store rfl _ _ _ rfl _ _ rfl _ rfl rfl ?_ HB 0 rfl ?_ ?_ | refine st_store rfl _ _ _ rfl _ _ rfl _ rfl rfl ?_ HB 1 rfl ?_ ?_ | refine st_store rfl _ _ _ rfl _ _ rfl _ rfl rfl ?_ HB 2 rfl ?_ ?_); (kernel_rfl); (simp); (clear HB; intro w HB K hK; simp only [List.set_cons_zero, List.set_cons_succ, List.setIfInBounds_toArray, Act.eval, Value.cells, Array.getD_eq_getD_getElem?, List.getElem?_toArray, List.getElem?_cons_succ, List.getElem?_cons_zero, Option.getD_some] at HB; go_simp; refine hK _ _ ?_; clear hK K; show wpListIn _ _ _ _ _ _ _ _)))
            have HC : At W (Blk l (.loop r) :: Blk D (.deferred (some [])) :: Blk gb (.cells #[.pointer (some ⟨ga, 0, none⟩)] 23 (0, 0)) :: Blk g11 (.cells #[.int .i64 (fLast (pre ++ [⟨xh, xs, xn⟩]))] 3 (0, 0)) :: Blk g10 (.cells #[.int .i64 (fLeast (pre ++ [⟨xh, xs, xn⟩]))] 3 (0, 0)) :: Blk g9 (.cells #[.int .i64 (fAt (hv : Nat) (pre ++ [⟨xh, xs, xn⟩]))] 3 (0, 0)) :: Blk g8 (.cells #[.int .i64 (-1)] 3 (0, 0)) :: Blk g7 (.cells #[.int .i64 (hv : Nat)] 3 (0, 0)) :: Blk g6 (.cells #[.bool false] 4 (0, 0)) :: Arg W :: []) _ := (by rw [E1.out, E2, E3]; exact HB.sel 11 [7, 8, 9, 0, 1, 2, 3, 4, 10, 5])
            exact HC
          · have ha : (fa == -1) = false := by rw [beq_eq_false_iff_ne]; omega
            rw [if_neg (by omega)] at E3
            gi_wp2_with (first | ((refine in_step rfl ?_); (with_reducible refine k_load ?_); (first | refine st_load rfl _ _ rfl _ _ rfl ?_ HB 0 rfl rfl ?_ | refine st_load rfl _ _ rfl _ _ rfl ?_ HB 1 rfl rfl ?_ | refine st_load rfl _ _ rfl _ _ rfl ?_ HB 2 rfl rfl ?_ | refine st_load rfl _ _ rfl _ _ rfl ?_ HB 3 rfl rfl ?_ | refine st_load rfl _ _ rfl _ _ rfl ?_ HB 4 rfl rfl ?_); (kernel_rfl); (intro K hK; go_simp; refine hK _ _ ?_; clear hK K; show wpListIn _ _ _ _ _ _ _ _)) | ((refine in_step rfl ?_); (with_reducible refine k_store ?_); (first | refine st_store rfl _ _ _ rfl _ _ rfl _ rfl rfl ?_ HB 0 rfl ?_ ?_ | refine st_store rfl _ _ _ rfl _ _ rfl _ rfl rfl ?_ HB 1 rfl ?_ ?_ | refine st_store rfl _ _ _ rfl _ _ rfl _ rfl rfl ?_ HB 2 rfl ?_ ?_); (kernel_rfl); (simp); (clear HB; intro w HB K hK; simp only [List.set_cons_zero, List.set_cons_succ, List.setIfInBounds_toArray, Act.eval, Value.cells, Array.getD_eq_getD_getElem?, List.getElem?_toArray, List.getElem?_cons_succ, List.getElem?_cons_zero, Option.getD_some] at HB; go_simp; refine hK _ _ ?_; clear hK K; show wpListIn _ _ _ _ _ _ _ _)))
            have HC : At W (Blk l (.loop r) :: Blk D (.deferred (some [])) :: Blk gb (.cells #[.pointer (some ⟨ga, 0, none⟩)] 23 (0, 0)) :: Blk g11 (.cells #[.int .i64 (fLast (pre ++ [⟨xh, xs, xn⟩]))] 3 (0, 0)) :: Blk g10 (.cells #[.int .i64 (fLeast (pre ++ [⟨xh, xs, xn⟩]))] 3 (0, 0)) :: Blk g9 (.cells #[.int .i64 (fAt (hv : Nat) (pre ++ [⟨xh, xs, xn⟩]))] 3 (0, 0)) :: Blk g8 (.cells #[.int .i64 (-1)] 3 (0, 0)) :: Blk g7 (.cells #[.int .i64 (hv : Nat)] 3 (0, 0)) :: Blk g6 (.cells #[.bool false] 4 (0, 0)) :: Arg W :: []) _ := (by rw [E1.out, E2, E3]; exact HB.sel 11 [7, 8, 9, 0, 1, 2, 3, 4, 10, 5])
            exact HC
        · have he : (fe == -1) = false := by rw [beq_eq_false_iff_ne]; omega
          rw [if_neg (by omega)] at E2
          rcases hfa with rfl | hfa
          · rw [if_pos rfl] at E3
            gi_wp2_with (first | ((refine in_step rfl ?_); (with_reducible refine k_load ?_); (first | refine st_load rfl _ _ rfl _ _ rfl ?_ HB 0 rfl rfl ?_ | refine st_load rfl _ _ rfl _ _ rfl ?_ HB 1 rfl rfl ?_ | refine st_load rfl _ _ rfl _ _ rfl ?_ HB 2 rfl rfl ?_ | refine st_load rfl _ _ rfl _ _ rfl ?_ HB 3 rfl rfl ?_ | refine st_load rfl _ _ rfl _ _ rfl ?_ HB 4 rfl rfl ?_); (kernel_rfl); (intro K hK; go_simp; refine hK _ _ ?_; clear hK K; show wpListIn _ _ _ _ _ _ _ _)) | ((refine in_step rfl ?_); (with_reducible refine k_store ?_); (first | refine st_store rfl _ _ _ rfl _ _ rfl _ rfl rfl ?_ HB 0 rfl ?_ ?_ | refine st_store rfl _ _ _ rfl _ _ rfl _ rfl rfl ?_ HB 1 rfl ?_ ?_ | refine st_store rfl _ _ _ rfl _ _ rfl _ rfl rfl ?_ HB 2 rfl ?_ ?_); (kernel_rfl); (simp); (clear HB; intro w HB K hK; simp only [List.set_cons_zero, List.set_cons_succ, List.setIfInBounds_toArray, Act.eval, Value.cells, Array.getD_eq_getD_getElem?, List.getElem?_toArray, List.getElem?_cons_succ, List.getElem?_cons_zero, Option.getD_some] at HB; go_simp; refine hK _ _ ?_; clear hK K; show wpListIn _ _ _ _ _ _ _ _)))
            have HC : At W (Blk l (.loop r) :: Blk D (.deferred (some [])) :: Blk gb (.cells #[.pointer (some ⟨ga, 0, none⟩)] 23 (0, 0)) :: Blk g11 (.cells #[.int .i64 (fLast (pre ++ [⟨xh, xs, xn⟩]))] 3 (0, 0)) :: Blk g10 (.cells #[.int .i64 (fLeast (pre ++ [⟨xh, xs, xn⟩]))] 3 (0, 0)) :: Blk g9 (.cells #[.int .i64 (fAt (hv : Nat) (pre ++ [⟨xh, xs, xn⟩]))] 3 (0, 0)) :: Blk g8 (.cells #[.int .i64 (-1)] 3 (0, 0)) :: Blk g7 (.cells #[.int .i64 (hv : Nat)] 3 (0, 0)) :: Blk g6 (.cells #[.bool false] 4 (0, 0)) :: Arg W :: []) _ := (by rw [E1.out, E2, E3]; exact HB.sel 11 [7, 8, 9, 0, 1, 2, 3, 4, 10, 5])
            exact HC
          · have ha : (fa == -1) = false := by rw [beq_eq_false_iff_ne]; omega
            rw [if_neg (by omega)] at E3
            gi_wp2_with (first | ((refine in_step rfl ?_); (with_reducible refine k_load ?_); (first | refine st_load rfl _ _ rfl _ _ rfl ?_ HB 0 rfl rfl ?_ | refine st_load rfl _ _ rfl _ _ rfl ?_ HB 1 rfl rfl ?_ | refine st_load rfl _ _ rfl _ _ rfl ?_ HB 2 rfl rfl ?_ | refine st_load rfl _ _ rfl _ _ rfl ?_ HB 3 rfl rfl ?_ | refine st_load rfl _ _ rfl _ _ rfl ?_ HB 4 rfl rfl ?_); (kernel_rfl); (intro K hK; go_simp; refine hK _ _ ?_; clear hK K; show wpListIn _ _ _ _ _ _ _ _)) | ((refine in_step rfl ?_); (with_reducible refine k_store ?_); (first | refine st_store rfl _ _ _ rfl _ _ rfl _ rfl rfl ?_ HB 0 rfl ?_ ?_ | refine st_store rfl _ _ _ rfl _ _ rfl _ rfl rfl ?_ HB 1 rfl ?_ ?_ | refine st_store rfl _ _ _ rfl _ _ rfl _ rfl rfl ?_ HB 2 rfl ?_ ?_); (kernel_rfl); (simp); (clear HB; intro w HB K hK; simp only [List.set_cons_zero, List.set_cons_succ, List.setIfInBounds_toArray, Act.eval, Value.cells, Array.getD_eq_getD_getElem?, List.getElem?_toArray, List.getElem?_cons_succ, List.getElem?_cons_zero, Option.getD_some] at HB; go_simp; refine hK _ _ ?_; clear hK K; show wpListIn _ _ _ _ _ _ _ _)))
            have HC : At W (Blk l (.loop r) :: Blk D (.deferred (some [])) :: Blk gb (.cells #[.pointer (some ⟨ga, 0, none⟩)] 23 (0, 0)) :: Blk g11 (.cells #[.int .i64 (fLast (pre ++ [⟨xh, xs, xn⟩]))] 3 (0, 0)) :: Blk g10 (.cells #[.int .i64 (fLeast (pre ++ [⟨xh, xs, xn⟩]))] 3 (0, 0)) :: Blk g9 (.cells #[.int .i64 (fAt (hv : Nat) (pre ++ [⟨xh, xs, xn⟩]))] 3 (0, 0)) :: Blk g8 (.cells #[.int .i64 (-1)] 3 (0, 0)) :: Blk g7 (.cells #[.int .i64 (hv : Nat)] 3 (0, 0)) :: Blk g6 (.cells #[.bool false] 4 (0, 0)) :: Arg W :: []) _ := (by rw [E1.out, E2, E3]; exact HB.sel 11 [7, 8, 9, 0, 1, 2, 3, 4, 10, 5])
            exact HC
      · rw [if_neg c3] at E3
        have d3 : decide (((hv : Nat) : Int) ≤ xh) = false := decide_eq_false c3
        rcases hfe with rfl | hfe
        · rw [if_pos rfl] at E2
          rcases hfa with rfl | hfa
          · rw [if_pos rfl] at E3
            gi_wp2_with (first | ((refine in_step rfl ?_); (with_reducible refine k_load ?_); (first | refine st_load rfl _ _ rfl _ _ rfl ?_ HB 0 rfl rfl ?_ | refine st_load rfl _ _ rfl _ _ rfl ?_ HB 1 rfl rfl ?_ | refine st_load rfl _ _ rfl _ _ rfl ?_ HB 2 rfl rfl ?_ | refine st_load rfl _ _ rfl _ _ rfl ?_ HB 3 rfl rfl ?_ | refine st_load rfl _ _ rfl _ _ rfl ?_ HB 4 rfl rfl ?_); (kernel_rfl); (intro K hK; go_simp; refine hK _ _ ?_; clear hK K; show wpListIn _ _ _ _ _ _ _ _)) | ((refine in_step rfl ?_); (with_reducible refine k_store ?_); (first | refine st_store rfl _ _ _ rfl _ _ rfl _ rfl rfl ?_ HB 0 rfl ?_ ?_ | refine st_store rfl _ _ _ rfl _ _ rfl _ rfl rfl ?_ HB 1 rfl ?_ ?_ | refine st_store rfl _ _ _ rfl _ _ rfl _ rfl rfl ?_ HB 2 rfl ?_ ?_); (kernel_rfl); (simp); (clear HB; intro w HB K hK; simp only [List.set_cons_zero, List.set_cons_succ, List.setIfInBounds_toArray, Act.eval, Value.cells, Array.getD_eq_getD_getElem?, List.getElem?_toArray, List.getElem?_cons_succ, List.getElem?_cons_zero, Option.getD_some] at HB; go_simp; refine hK _ _ ?_; clear hK K; show wpListIn _ _ _ _ _ _ _ _)))
            have HC : At W (Blk l (.loop r) :: Blk D (.deferred (some [])) :: Blk gb (.cells #[.pointer (some ⟨ga, 0, none⟩)] 23 (0, 0)) :: Blk g11 (.cells #[.int .i64 (fLast (pre ++ [⟨xh, xs, xn⟩]))] 3 (0, 0)) :: Blk g10 (.cells #[.int .i64 (fLeast (pre ++ [⟨xh, xs, xn⟩]))] 3 (0, 0)) :: Blk g9 (.cells #[.int .i64 (fAt (hv : Nat) (pre ++ [⟨xh, xs, xn⟩]))] 3 (0, 0)) :: Blk g8 (.cells #[.int .i64 (-1)] 3 (0, 0)) :: Blk g7 (.cells #[.int .i64 (hv : Nat)] 3 (0, 0)) :: Blk g6 (.cells #[.bool false] 4 (0, 0)) :: Arg W :: []) _ := (by rw [E1.out, E2, E3]; exact HB.sel 11 [7, 8, 9, 0, 1, 2, 3, 4, 10, 5])
            exact HC
          · have ha : (fa == -1) = false := by rw [beq_eq_false_iff_ne]; omega
            rw [if_neg (by omega)] at E3
            gi_wp2_with (first | ((refine in_step rfl ?_); (with_reducible refine k_load ?_); (first | refine st_load rfl _ _ rfl _ _ rfl ?_ HB 0 rfl rfl ?_ | refine st_load rfl _ _ rfl _ _ rfl ?_ HB 1 rfl rfl ?_ | refine st_load rfl _ _ rfl _ _ rfl ?_ HB 2 rfl rfl ?_ | refine st_load rfl _ _ rfl _ _ rfl ?_ HB 3 rfl rfl ?_ | refine st_load rfl _ _ rfl _ _ rfl ?_ HB 4 rfl rfl ?_); (kernel_rfl); (intro K hK; go_simp; refine hK _ _ ?_; clear hK K; show wpListIn _ _ _ _ _ _ _ _)) | ((refine in_step rfl ?_); (with_reducible refine k_store ?_); (first | refine st_store rfl _ _ _ rfl _ _ rfl _ rfl rfl ?_ HB 0 rfl ?_ ?_ | refine st_store rfl _ _ _ rfl _ _ rfl _ rfl rfl ?_ HB 1 rfl ?_ ?_ | refine st_store rfl _ _ _ rfl _ _ rfl _ rfl rfl ?_ HB 2 rfl ?_ ?_); (kernel_rfl); (simp); (clear HB; intro w HB K hK; simp only [List.set_cons_zero, List.set_cons_succ, List.setIfInBounds_toArray, Act.eval, Value.cells, Array.getD_eq_getD_getElem?, List.getElem?_toArray, List.getElem?_cons_succ, List.getElem?_cons_zero, Option.getD_some] at HB; go_simp; refine hK _ _ ?_; clear hK K; show wpListIn _ _ _ _ _ _ _ _)))
            have HC : At W (Blk l (.loop r) :: Blk D (.deferred (some [])) :: Blk gb (.cells #[.pointer (some ⟨ga, 0, none⟩)] 23 (0, 0)) :: Blk g11 (.cells #[.int .i64 (fLast (pre ++ [⟨xh, xs, xn⟩]))] 3 (0, 0)) :: Blk g10 (.cells #[.int .i64 (fLeast (pre ++ [⟨xh, xs, xn⟩]))] 3 (0, 0)) :: Blk g9 (.cells #[.int .i64 (fAt (hv : Nat) (pre ++ [⟨xh, xs, xn⟩]))] 3 (0, 0)) :: Blk g8 (.cells #[.int .i64 (-1)] 3 (0, 0)) :: Blk g7 (.cells #[.int .i64 (hv : Nat)] 3 (0, 0)) :: Blk g6 (.cells #[.bool false] 4 (0, 0)) :: Arg W :: []) _ := (by rw [E1.out, E2, E3]; exact HB.sel 11 [7, 8, 9, 0, 1, 2, 3, 4, 10, 5])
            exact HC
        · have he : (fe == -1) = false := by rw [beq_eq_false_iff_ne]; omega
          rw [if_neg (by omega)] at E2
          rcases hfa with rfl | hfa
          · rw [if_pos rfl] at E3
            gi_wp2_with (first | ((refine in_step rfl ?_); (with_reducible refine k_load ?_); (first | refine st_load rfl _ _ rfl _ _ rfl ?_ HB 0 rfl rfl ?_ | refine st_load rfl _ _ rfl _ _ rfl ?_ HB 1 rfl rfl ?_ | refine st_load rfl _ _ rfl _ _ rfl ?_ HB 2 rfl rfl ?_ | refine st_load rfl _ _ rfl _ _ rfl ?_ HB 3 rfl rfl ?_ | refine st_load rfl _ _ rfl _ _ rfl ?_ HB 4 rfl rfl ?_); (kernel_rfl); (intro K hK; go_simp; refine hK _ _ ?_; clear hK K; show wpListIn _ _ _ _ _ _ _ _)) | ((refine in_step rfl ?_); (with_reducible refine k_store ?_); (first | refine st_store rfl _ _ _ rfl _ _ rfl _ rfl rfl ?_ HB 0 rfl ?_ ?_ | refine st_store rfl _ _ _ rfl _ _ rfl _ rfl rfl ?_ HB 1 rfl ?_ ?_ | refine st_store rfl _ _ _ rfl _ _ rfl _ rfl rfl ?_ HB 2 rfl ?_ ?_); (kernel_rfl); (simp); (clear HB; intro w HB K hK; simp only [List.set_cons_zero, List.set_cons_succ, List.setIfInBounds_toArray, Act.eval, Value.cells, Array.getD_eq_getD_getElem?, List.getElem?_toArray, List.getElem?_cons_succ, List.getElem?_cons_zero, Option.getD_some] at HB; go_simp; refine hK _ _ ?_; clear hK K; show wpListIn _ _ _ _ _ _ _ _)))
            have HC : At W (Blk l (.loop r) :: Blk D (.deferred (some [])) :: Blk gb (.cells #[.pointer (some ⟨ga, 0, none⟩)] 23 (0, 0)) :: Blk g11 (.cells #[.int .i64 (fLast (pre ++ [⟨xh, xs, xn⟩]))] 3 (0, 0)) :: Blk g10 (.cells #[.int .i64 (fLeast (pre ++ [⟨xh, xs, xn⟩]))] 3 (0, 0)) :: Blk g9 (.cells #[.int .i64 (fAt (hv : Nat) (pre ++ [⟨xh, xs, xn⟩]))] 3 (0, 0)) :: Blk g8 (.cells #[.int .i64 (-1)] 3 (0, 0)) :: Blk g7 (.cells #[.int .i64 (hv : Nat)] 3 (0, 0)) :: Blk g6 (.cells #[.bool false] 4 (0, 0)) :: Arg W :: []) _ := (by rw [E1.out, E2, E3]; exact HB.sel 11 [7, 8, 9, 0, 1, 2, 3, 4, 10, 5])
            exact HC
          · have ha : (fa == -1) = false := by rw [beq_eq_false_iff_ne]; omega
            rw [if_neg (by omega)] at E3
            gi_wp2_with (first | ((refine in_step rfl ?_); (with_reducible refine k_load ?_); (first | refine st_load rfl _ _ rfl _ _ rfl ?_ HB 0 rfl rfl ?_ | refine st_load rfl _ _ rfl _ _ rfl ?_ HB 1 rfl rfl ?_ | refine st_load rfl _ _ rfl _ _ rfl ?_ HB 2 rfl rfl ?_ | refine st_load rfl _ _ rfl _ _ rfl ?_ HB 3 rfl rfl ?_ | refine st_load rfl _ _ rfl _ _ rfl ?_ HB 4 rfl rfl ?_); (kernel_rfl); (intro K hK; go_simp; refine hK _ _ ?_; clear hK K; show wpListIn _ _ _ _ _ _ _ _)) | ((refine in_step rfl ?_); (with_reducible refine k_store ?_); (first | refine st_store rfl _ _ _ rfl _ _ rfl _ rfl rfl ?_ HB 0 rfl ?_ ?_ | refine st_store rfl _ _ _ rfl _ _ rfl _ rfl rfl ?_ HB 1 rfl ?_ ?_ | refine st_store rfl _ _ _ rfl _ _ rfl _ rfl rfl ?_ HB 2 rfl ?_ ?_); (kernel_rfl); (simp); (clear HB; intro w HB K hK; simp only [List.set_cons_zero, List.set_cons_succ, List.setIfInBounds_toArray, Act.eval, Value.cells, Array.getD_eq_getD_getElem?, List.getElem?_toArray, List.getElem?_cons_succ, List.getElem?_cons_zero, Option.getD_some] at HB; go_simp; refine hK _ _ ?_; clear hK K; show wpListIn _ _ _ _ _ _ _ _)))
            have HC : At W (Blk l (.loop r) :: Blk D (.deferred (some [])) :: Blk gb (.cells #[.pointer (some ⟨ga, 0, none⟩)] 23 (0, 0)) :: Blk g11 (.cells #[.int .i64 (fLast (pre ++ [⟨xh, xs, xn⟩]))] 3 (0, 0)) :: Blk g10 (.cells #[.int .i64 (fLeast (pre ++ [⟨xh, xs, xn⟩]))] 3 (0, 0)) :: Blk g9 (.cells #[.int .i64 (fAt (hv : Nat) (pre ++ [⟨xh, xs, xn⟩]))] 3 (0, 0)) :: Blk g8 (.cells #[.int .i64 (-1)] 3 (0, 0)) :: Blk g7 (.cells #[.int .i64 (hv : Nat)] 3 (0, 0)) :: Blk g6 (.cells #[.bool false] 4 (0, 0)) :: Arg W :: []) _ := (by rw [E1.out, E2, E3]; exact HB.sel 11 [7, 8, 9, 0, 1, 2, 3, 4, 10, 5])
            exact HC
    case doneA =>
      intro D xs W2 hxs HA
      rw [hxs] at HA
      clear HF hxs
      have hle : fLeast pts = -1 ∨ 1 ≤ fLeast pts := by
        unfold fLeast
        cases hg : pts.head? with
        | none => exact .inl rfl
        | some q => exact .inr (HSS.out q (List.mem_of_head? hg))
      have hfa : fAt (hv : Nat) pts = -1 ∨ 1 ≤ fAt (hv : Nat) pts := by
        unfold fAt
        cases hg : pts.find? fun p => decide (((hv : Nat) : Int) ≤ p.h) with
        | none => exact .inl rfl
        | some q => exact .inr (HSS.out q (List.mem_of_find?_eq_some hg))
      obtain ⟨t1, t2⟩ := HFH.out
      have HF : At W (Blk g9 (.cells #[.int .i64 (fAt (hv : Nat) pts)] 3 (0, 0)) :: Blk g10 (.cells #[.int .i64 (fLeast pts)] 3 (0, 0)) :: Blk g8 (.cells #[.int .i64 (-1)] 3 (0, 0)) :: Blk g6 (.cells #[.bool false] 4 (0, 0)) :: Blk D (.deferred (some [])) :: Arg W :: []) W2 := HA.sel 8 [3, 2, 4, 6, 0, 7]
      clear HA
      obtain ⟨fe, hfe2⟩ : ∃ fe, fLeast pts = fe := ⟨_, rfl⟩
      obtain ⟨fa, hfa2⟩ : ∃ fa, fAt (hv : Nat) pts = fa := ⟨_, rfl⟩
      rw [hfe2] at hle t1 HF
      rw [hfa2] at hfa t1 t2 HF
      clear hfe2 hfa2
      rename_i K0 hK0
      refine hK0 _ _ ?_
      clear hK0 K0
      refine wpIn_wide.2 ?_
      rcases hfa with rfl | hfa
      · have e := t1 rfl
        subst e
        clear t1 t2
        go_wp2_with (first | ((with_reducible refine k_load ?_); (first | refine st_load rfl _ _ rfl _ _ rfl ?_ HF 0 rfl rfl ?_ | refine st_load rfl _ _ rfl _ _ rfl ?_ HF 1 rfl rfl ?_ | refine st_load rfl _ _ rfl _ _ rfl ?_ HF 2 rfl rfl ?_); (kernel_rfl); (intro K hK; go_simp)) | ((with_reducible refine k_store ?_); (first | refine st_store rfl _ _ _ rfl _ _ rfl _ rfl rfl ?_ HF 0 rfl ?_ ?_ | refine st_store rfl _ _ _ rfl _ _ rfl _ rfl rfl ?_ HF 3 rfl ?_ ?_); (kernel_rfl); (simp); (clear HF; intro w HF K hK; simp only [List.set_cons_zero, List.set_cons_succ, List.setIfInBounds_toArray, Act.eval, Value.cells, Array.getD_eq_getD_getElem?, List.getElem?_toArray, List.getElem?_cons_succ, List.getElem?_cons_zero, Option.getD_some] at HF; go_simp)))
        have HB := HF.sel 6 [4, 3, 5]
        refine ⟨by simp, .inl ⟨_, _, rfl, run_takeDeferred HB.get0, ?_⟩⟩
        have HC := (At.putObj0 (o' := .deferred none) HB).drop
        exact ⟨_, results_one rfl rfl (by kernel_rfl) (HC.get 0 rfl) rfl, rfl, (HC.sel 2 [1]).lift0 H0.out⟩
      · have e := t2 (by omega)
        subst e
        have ha : (fa == -1) = false := by rw [beq_eq_false_iff_ne]; omega
        clear t1 t2
        go_wp2_with (first | ((with_reducible refine k_load ?_); (first | refine st_load rfl _ _ rfl _ _ rfl ?_ HF 0 rfl rfl ?_ | refine st_load rfl _ _ rfl _ _ rfl ?_ HF 1 rfl rfl ?_ | refine st_load rfl _ _ rfl _ _ rfl ?_ HF 2 rfl rfl ?_); (kernel_rfl); (intro K hK; go_simp)) | ((with_reducible refine k_store ?_); (first | refine st_store rfl _ _ _ rfl _ _ rfl _ rfl rfl ?_ HF 0 rfl ?_ ?_ | refine st_store rfl _ _ _ rfl _ _ rfl _ rfl rfl ?_ HF 3 rfl ?_ ?_); (kernel_rfl); (simp); (clear HF; intro w HF K hK; simp only [List.set_cons_zero, List.set_cons_succ, List.setIfInBounds_toArray, Act.eval, Value.cells, Array.getD_eq_getD_getElem?, List.getElem?_toArray, List.getElem?_cons_succ, List.getElem?_cons_zero, Option.getD_some] at HF; go_simp)))
        have HB := HF.sel 6 [4, 3, 5]
        refine ⟨by simp, .inl ⟨_, _, rfl, run_takeDeferred HB.get0, ?_⟩⟩
        have HC := (At.putObj0 (o' := .deferred none) HB).drop
        exact ⟨_, results_one rfl rfl (by kernel_rfl) (HC.get 0 rfl) rfl, rfl, (HC.sel 2 [1]).lift0 H0.out⟩
    case stopA =>
      rintro D c pre W hsp HA
      exact (At.unpure (HA.pick 1 rfl)).1.elim
  · have e : keyH k = k := by unfold keyH; rw [if_neg hk3]
    rw [e] at HFH
    obtain ⟨hv, hhv⟩ : ∃ hv, hashK k = hv := ⟨_, rfl⟩
    rw [hhv] at HH1 HFH
    obtain ⟨k1, k2, k3, k4⟩ := k
    (try dsimp only at *)
    have hk3b : (k1 == 3) = false := by rw [beq_eq_false_iff_ne]; exact hk3
    clear e hhv
    refine calls_of_marks Try.func31 rfl ?_
    simp only [Try.ntmps31, List.size_toArray, List.length_cons, List.length_nil, Nat.reduceAdd, Nat.reduceSub, Array.replicate_succ, Array.replicate_zero, List.push_toArray, List.append_toArray, List.nil_append, List.cons_append]
    gi_wp2_with (first | ((refine in_step rfl ?_); (with_reducible refine k_box ?_); refine st_box rfl _ _ rfl _ rfl HF ?_; (clear HF; intro g4 w HF K hK; simp only [Value.cells, Act.eval, Value.cells, Array.getD_eq_getD_getElem?, List.getElem?_toArray, List.getElem?_cons_succ, List.getElem?_cons_zero, Option.getD_some] at HF; go_simp; refine hK _ _ ?_; clear hK K; show wpListIn _ _ _ _ _ _ _ _)) | ((refine in_step rfl ?_); (with_reducible refine k_alloc (T := 4) ?_); refine st_alloc rfl _ rfl (.bool false) ?_ #[.bool false] rfl HF ?_; (kernel_rfl); (clear HF; intro g6 w HF K hK; go_simp; refine hK _ _ ?_; clear hK K; show wpListIn _ _ _ _ _ _ _ _)) | ((refine in_step rfl ?_); (with_reducible refine k_load (T := 38) ?_); refine st_row rfl _ _ rfl _ rfl a38 4 s38 HF 1 rfl rfl ?_; (intro K hK; go_simp; refine hK _ _ ?_; clear hK K; show wpListIn _ _ _ _ _ _ _ _)) | ((refine in_step rfl ?_); (with_reducible refine k_load (T := 38) ?_); refine st_loads rfl _ _ rfl _ _ rfl a38 4 s38 HF 1 rfl ?_ ?_; (simp); (intro K hK; go_simp; refine hK _ _ ?_; clear hK K; show wpListIn _ _ _ _ _ _ _ _)))
    refine ⟨trivial, (calls_in (HH1.out _ _ HF)).mono ?_⟩
    rintro e w2 ⟨rfl, HX⟩
    clear HF
    have HF := HX
    clear HX
    have tk7 : True := trivial
    have tk8 : True := trivial
    have tk9 : True := trivial
    have tk10 : True := trivial
    have tk11 : True := trivial
    gi_wp2_with (first | ((refine in_step rfl ?_); (with_reducible refine k_alloc (T := 3) ?_); (have _t := tk7); refine st_alloc rfl _ rfl (.int .i64 0) ?_ #[.int .i64 0] rfl HF ?_; (kernel_rfl); (clear HF tk7 _t; intro g7 w HF K hK; go_simp; refine hK _ _ ?_; clear hK K; show wpListIn _ _ _ _ _ _ _ _)) | ((refine in_step rfl ?_); (with_reducible refine k_alloc (T := 3) ?_); (have _t := tk8); refine st_alloc rfl _ rfl (.int .i64 0) ?_ #[.int .i64 0] rfl HF ?_; (kernel_rfl); (clear HF tk8 _t; intro g8 w HF K hK; go_simp; refine hK _ _ ?_; clear hK K; show wpListIn _ _ _ _ _ _ _ _)) | ((refine in_step rfl ?_); (with_reducible refine k_alloc (T := 3) ?_); (have _t := tk9); refine st_alloc rfl _ rfl (.int .i64 0) ?_ #[.int .i64 0] rfl HF ?_; (kernel_rfl); (clear HF tk9 _t; intro g9 w HF K hK; go_simp; refine hK _ _ ?_; clear hK K; show wpListIn _ _ _ _ _ _ _ _)) | ((refine in_step rfl ?_); (with_reducible refine k_alloc (T := 3) ?_); (have _t := tk10); refine st_alloc rfl _ rfl (.int .i64 0) ?_ #[.int .i64 0] rfl HF ?_; (kernel_rfl); (clear HF tk10 _t; intro g10 w HF K hK; go_simp; refine hK _ _ ?_; clear hK K; show wpListIn _ _ _ _ _ _ _ _)) | ((refine in_step rfl ?_); (with_reducible refine k_alloc (T := 3) ?_); (have _t := tk11); refine st_alloc rfl _ rfl (.int .i64 0) ?_ #[.int .i64 0] rfl HF ?_; (kernel_rfl); (clear HF tk11 _t; intro g11 w HF K hK; go_simp; refine hK _ _ ?_; clear hK K; show wpListIn _ _ _ _ _ _ _ _)) | ((refine in_step rfl ?_); (with_reducible refine k_load ?_); (first | refine st_load rfl _ _ rfl _ _ rfl ?_ HF 0 rfl rfl ?_ | refine st_load rfl _ _ rfl _ _ rfl ?_ HF 1 rfl rfl ?_ | refine st_load rfl _ _ rfl _ _ rfl ?_ HF 2 rfl rfl ?_ | refine st_load rfl _ _ rfl _ _ rfl ?_ HF 3 rfl rfl ?_); (kernel_rfl); (intro K hK; go_simp; refine hK _ _ ?_; clear hK K; show wpListIn _ _ _ _ _ _ _ _)) | ((refine in_step rfl ?_); (with_reducible refine k_store ?_); refine st_store rfl _ _ _ rfl _ _ rfl _ rfl rfl ?_ HF 0 rfl ?_ ?_; (kernel_rfl); (simp); (clear HF; intro w HF K hK; simp only [List.set_cons_zero, List.set_cons_succ, List.setIfInBounds_toArray, Act.eval, Value.cells, Array.getD_eq_getD_getElem?, List.getElem?_toArray, List.getElem?_cons_succ, List.getElem?_cons_zero, Option.getD_some] at HF; go_simp; refine hK _ _ ?_; clear hK K; show wpListIn _ _ _ _ _ _ _ _)))
    clear HH1 HH2
    refine ⟨trivial, (calls_in (points0 HF _)).mono ?_⟩
    rintro e w2 ⟨gb, rfl, HX⟩
    clear HF
    have HF := HX
    clear HX
    gi_wp2_with fail
    replace HF : At W (Blk gb (.cells #[.pointer (some ⟨ga, 0, none⟩)] 23 (0, 0)) :: Blk g11 (.cells #[.int .i64 (-1)] 3 (0, 0)) :: Blk g10 (.cells #[.int .i64 (-1)] 3 (0, 0)) :: Blk g9 (.cells #[.int .i64 (-1)] 3 (0, 0)) :: Blk g8 (.cells #[.int .i64 (-1)] 3 (0, 0)) :: Blk g7 (.cells #[.int .i64 (hv : Nat)] 3 (0, 0)) :: Blk g6 (.cells #[.bool false] 4 (0, 0)) :: Arg W :: []) _ := HF.sel 9 [0, 1, 2, 3, 4, 5, 6, 8]
    refine range_at1 (w0 := W) (gf := 48) (lb := #[.pointer (some ⟨gb, 0, none⟩)]) rfl (enters_of Try.func48 (by kernel_rfl) rfl) (encs := encP) (fun _ => rfl)
      (fun _ => [Blk gb (.cells #[.pointer (some ⟨ga, 0, none⟩)] 23 (0, 0))])
      (fun pre => Blk g11 (.cells #[.int .i64 (fLast pre)] 3 (0, 0)) :: Blk g10 (.cells #[.int .i64 (fLeast pre)] 3 (0, 0)) :: Blk g9 (.cells #[.int .i64 (fAt (hv : Nat) pre)] 3 (0, 0)) :: Blk g8 (.cells #[.int .i64 (-1)] 3 (0, 0)) :: Blk g7 (.cells #[.int .i64 (hv : Nat)] 3 (0, 0)) :: Blk g6 (.cells #[.bool false] 4 (0, 0)) :: Arg W :: [])
      (fun c pre => [pur False]) (fun xs => xs = pts) (fun pre => pre <+: pts) ?startB (fun J Jx hJ => pts_iter R1.out hsz (fun pre => by obtain ⟨X, hX⟩ := hJ pre; exact ⟨_, hX.trans (List.perm_append_comm.trans (by exact (List.perm_middle (l₁ := [_, _, _, _, _, _]))))⟩)) ?FrB (fun gp x => emp) ?assignB ?bodyB ?doneB ?stopB
    case startB => exact HF
    case assignB =>
      intro l D r pre x W2 K hsp HA hK
      dsimp only [encP]
      gi_wp2
      obtain ⟨gp, _⟩ : ∃ gp : Nat, gp = 0 := ⟨0, rfl⟩
      exact hK gp _ HA.addEmp
    case bodyB =>
      rintro l D r pre x gp W2 hsp HA
      have hall : ∀ q ∈ pre ++ [x], q ∈ pts := fun q hq => hsp.subset hq
      have hpre : ∀ q ∈ pre, 1 ≤ q.s := fun q hq => HSS.out q (hall q (by simp [hq]))
      have hxm := hall x (by simp)
      have hxb := HHB.out x hxm
      have hxs := HSS.out x hxm
      have hfl : fLast pre ≤ x.h := by
        unfold fLast
        cases hg : pre.getLast? with
        | none => dsimp only; omega
        | some q =>
          have h1 := HPS.out.sublist hsp.sublist
          exact (List.pairwise_append.1 h1).2.2 q (List.mem_of_getLast? hg) x (by simp)
      have hfe : fLeast pre = -1 ∨ 1 ≤ fLeast pre := by
        unfold fLeast
        cases hg : pre.head? with
        | none => exact .inl rfl
        | some q => exact .inr (hpre q (List.mem_of_head? hg))
      have hfa : fAt (hv : Nat) pre = -1 ∨ 1 ≤ fAt (hv : Nat) pre := by
        unfold fAt
        cases hg : pre.find? fun p => decide (((hv : Nat) : Int) ≤ p.h) with
        | none => exact .inl rfl
        | some q => exact .inr (hpre q (List.mem_of_find?_eq_some hg))
      have E1 := Lib.hid (fLast_snoc pre x)
      have E2 := fLeast_snoc pre x hpre
      have E3 := fAt_snoc (hv : Nat) pre x hpre
      obtain ⟨fl, hfl2⟩ : ∃ fl, fLast pre = fl := ⟨_, rfl⟩
      obtain ⟨fe, hfe2⟩ : ∃ fe, fLeast pre = fe := ⟨_, rfl⟩
      obtain ⟨fa, hfa2⟩ : ∃ fa, fAt (hv : Nat) pre = fa := ⟨_, rfl⟩
      rw [hfl2] at hfl HA
      rw [hfe2] at hfe E2 HA
      rw [hfa2] at hfa E3 HA
      clear hfl2 hfe2 hfa2 hpre hxm hall hsp
      have HB := HA.sel 11 [4, 5, 6, 7, 8, 10, 0, 1, 2, 3, 9]
      clear HA
      replace HB : At W (Blk g11 (.cells #[.int .i64 fl] 3 (0, 0)) :: Blk g10 (.cells #[.int .i64 fe] 3 (0, 0)) :: Blk g9 (.cells #[.int .i64 fa] 3 (0, 0)) :: Blk g8 (.cells #[.int .i64 (-1)] 3 (0, 0)) :: Blk g7 (.cells #[.int .i64 (hv : Nat)] 3 (0, 0)) :: Arg W :: emp :: Blk l (.loop r) :: Blk D (.deferred (some [])) :: Blk gb (.cells #[.pointer (some ⟨ga, 0, none⟩)] 23 (0, 0)) :: Blk g6 (.cells #[.bool false] 4 (0, 0)) :: []) W2 := HB
      obtain ⟨xh, xs, xn⟩ := x
      dsimp only at hxb hxs hfl E1 E2 E3
      have q1 : decide (xh < fl) = false := decide_eq_false (by omega)
      have q2 : decide (xh < 0) = false := decide_eq_false (by omega)
      have q3 : decide ((4294967296 : Int) ≤ xh) = false := decide_eq_false (by omega)
      have r1 : ¬ xh < fl := by omega
      have r2 : ¬ xh < 0 := by omega
      have r3 : ¬ (4294967296 : Int) ≤ xh := by omega
      by_cases c3 : ((hv : Nat) : Int) ≤ xh
      · rw [if_pos c3] at E3
        have d3 : decide (((hv : Nat) : Int) ≤ xh) = true := decide_eq_true c3
        rcases hfe with rfl | hfe
        · rw [if_pos rfl] at E2
          rcases hfa with rfl | hfa
          · rw [if_pos rfl] at E3
            gi_wp2_with (first | ((refine in_step rfl ?_); (with_reducible refine k_load ?_); (first | refine st_load rfl _ _ rfl _ _ rfl ?_ HB 0 rfl rfl ?_ | refine st_load rfl _ _ rfl _ _ rfl ?_ HB 1 rfl rfl ?_ | refine st_load rfl _ _ rfl _ _ rfl ?_ HB 2 rfl rfl ?_ | refine st_load rfl _ _ rfl _ _ rfl ?_ HB 3 rfl rfl ?_ | refine st_load rfl _ _ rfl _ _ rfl ?_ HB 4 rfl rfl ?_); (kernel_rfl); (intro K hK; go_simp; refine hK _ _ ?_; clear hK K; show wpListIn _ _ _ _ _ _ _ _)) | ((refine in_step rfl ?_); (with_reducible refine k_store ?_); (first | refine st_store rfl _ _ _ rfl _ _ rfl _ rfl rfl ?_ HB 0 rfl ?_ ?_ | refine st_store rfl _ _ _ rfl _ _ rfl _ rfl rfl ?_ HB 1 rfl ?_ ?_ | refine st_store rfl _ _ _ rfl _ _ rfl _ rfl rfl ?_ HB 2 rfl ?_ ?_); (kernel_rfl); (simp); (clear HB; intro w HB K hK; simp only [List.set_cons_zero, List.set_cons_succ, List.setIfInBounds_toArray, Act.eval, Value.cells, Array.getD_eq_getD_getElem?, List.getElem?_toArray, List.getElem?_cons_succ, List.getElem?_cons_zero, Option.getD_some] at HB; go_simp; refine hK _ _ ?_; clear hK K; show wpListIn _ _ _ _ _ _ _ _)))
            have HC : At W (Blk l (.loop r) :: Blk D (.deferred (some [])) :: Blk gb (.cells #[.pointer (some ⟨ga, 0, none⟩)] 23 (0, 0)) :: Blk g11 (.cells #[.int .i64 (fLast (pre ++ [⟨xh, xs, xn⟩]))] 3 (0, 0)) :: Blk g10 (.cells #[.int .i64 (fLeast (pre ++ [⟨xh, xs, xn⟩]))] 3 (0, 0)) :: Blk g9 (.cells #[.int .i64 (fAt (hv : Nat) (pre ++ [⟨xh, xs, xn⟩]))] 3 (0, 0)) :: Blk g8 (.cells #[.int .i64 (-1)] 3 (0, 0)) :: Blk g7 (.cells #[.int .i64 (hv : Nat)] 3 (0, 0)) :: Blk g6 (.cells #[.bool false] 4 (0, 0)) :: Arg W :: []) _ := (by rw [E1.out, E2, E3]; exact HB.sel 11 [7, 8, 9, 0, 1, 2, 3, 4, 10, 5])
            exact HC
          · have ha : (fa == -1) = false := by rw [beq_eq_false_iff_ne]; omega
            rw [if_neg (by omega)] at E3
            gi_wp2_with (first | ((refine in_step rfl ?_); (with_reducible refine k_load ?_); (first | refine st_load rfl _ _ rfl _ _ rfl ?_ HB 0 rfl rfl ?_ | refine st_load rfl _ _ rfl _ _ rfl ?_ HB 1 rfl rfl ?_ | refine st_load rfl _ _ rfl _ _ rfl ?_ HB 2 rfl rfl ?_ | refine st_load rfl _ _ rfl _ _ rfl ?_ HB 3 rfl rfl ?_ | refine st_load rfl _ _ rfl _ _ rfl ?_ HB 4 rfl rfl ?_); (kernel_rfl); (intro K hK; go_simp; refine hK _ _ ?_; clear hK K; show wpListIn _ _ _ _ _ _ _ _)) | ((refine in_step rfl ?_); (with_reducible refine k_store ?_); (first | refine st_store rfl _ _ _ rfl _ _ rfl _ rfl rfl ?_ HB 0 rfl ?_ ?_ | refine st_store rfl _ _ _ rfl _ _ rfl _ rfl rfl ?_ HB 1 rfl ?_ ?_ | refine st_store rfl _ _ _ rfl _ _ rfl _ rfl rfl ?_ HB 2 rfl ?_ ?_); (kernel_rfl); (simp); (clear HB; intro w HB K hK; simp only [List.set_cons_zero, List.set_cons_succ, List.setIfInBounds_toArray, Act.eval, Value.cells, Array.getD_eq_getD_getElem?, List.getElem?_toArray, List.getElem?_cons_succ, List.getElem?_cons_zero, Option.getD_some] at HB; go_simp; refine hK _ _ ?_; clear hK K; show wpListIn _ _ _ _ _ _ _ _)))
            have HC : At W (Blk l (.loop r) :: Blk D (.deferred (some [])) :: Blk gb (.cells #[.pointer (some ⟨ga, 0, none⟩)] 23 (0, 0)) :: Blk g11 (.cells #[.int .i64 (fLast (pre ++ [⟨xh, xs, xn⟩]))] 3 (0, 0)) :: Blk g10 (.cells #[.int .i64 (fLeast (pre ++ [⟨xh, xs, xn⟩]))] 3 (0, 0)) :: Blk g9 (.cells #[.int .i64 (fAt (hv : Nat) (pre ++ [⟨xh, xs, xn⟩]))] 3 (0, 0)) :: Blk g8 (.cells #[.int .i64 (-1)] 3 (0, 0)) :: Blk g7 (.cells #[.int .i64 (hv : Nat)] 3 (0, 0)) :: Blk g6 (.cells #[.bool false] 4 (0, 0)) :: Arg W :: []) _ := (by rw [E1.out, E2, E3]; exact HB.sel 11 [7, 8, 9, 0, 1, 2, 3, 4, 10, 5])
            exact HC
        · have he : (fe == -1) = false := by rw [beq_eq_false_iff_ne]; omega
          rw [if_neg (by omega)] at E2
          rcases hfa with rfl | hfa
          · rw [if_pos rfl] at E3
            gi_wp2_with (first | ((refine in_step rfl ?_); (with_reducible refine k_load ?_); (first | refine st_load rfl _ _ rfl _ _ rfl ?_ HB 0 rfl rfl ?_ | refine st_load rfl _ _ rfl _ _ rfl ?_ HB 1 rfl rfl ?_ | refine st_load rfl _ _ rfl _ _ rfl ?_ HB 2 rfl rfl ?_ | refine st_load rfl _ _ rfl _ _ rfl ?_ HB 3 rfl rfl ?_ | refine st_load rfl _ _ rfl _ _ rfl ?_ HB 4 rfl rfl ?_); (kernel_rfl); (intro K hK; go_simp; refine hK _ _ ?_; clear hK K; show wpListIn _ _ _ _ _ _ _ _)) | ((refine in_step rfl ?_); (with_reducible refine k_store ?_); (first | refine st_store rfl _ _ _ rfl _ _ rfl _ rfl rfl ?_ HB 0 rfl ?_ ?_ | refine st_store rfl _ _ _ rfl _ _ rfl _ rfl rfl ?_ HB 1 rfl ?_ ?_ | refine st_store rfl _ _ _ rfl _ _ rfl _ rfl rfl ?_ HB 2 rfl ?_ ?_); (kernel_rfl); (simp); (clear HB; intro w HB K hK; simp only [List.set_cons_zero, List.set_cons_succ, List.setIfInBounds_toArray, Act.eval, Value.cells, Array.getD_eq_getD_getElem?, List.getElem?_toArray, List.getElem?_cons_succ, List.getElem?_cons_zero, Option.getD_some] at HB; go_simp; refine hK _ _ ?_; clear hK K; show wpListIn _ _ _ _ _ _ _ _)))
            have HC : At W (Blk l (.loop r) :: Blk D (.deferred (some [])) :: Blk gb (.cells #[.pointer (some ⟨ga, 0, none⟩)] 23 (0, 0)) :: Blk g11 (.cells #[.int .i64 (fLast (pre ++ [⟨xh, xs, xn⟩]))] 3 (0, 0)) :: Blk g10 (.cells #[.int .i64 (fLeast (pre ++ [⟨xh, xs, xn⟩]))] 3 (0, 0)) :: Blk g9 (.cells #[.int .i64 (fAt (hv : Nat) (pre ++ [⟨xh, xs, xn⟩]))] 3 (0, 0)) :: Blk g8 (.cells #[.int .i64 (-1)] 3 (0, 0)) :: Blk g7 (.cells #[.int .i64 (hv : Nat)] 3 (0, 0)) :: Blk g6 (.cells #[.bool false] 4 (0, 0)) :: Arg W :: []) _ := (by rw [E1.out, E2, E3]; exact HB.sel 11 [7, 8, 9, 0, 1, 2, 3, 4, 10, 5])
            exact HC
          · have ha : (fa == -1) = false := by rw [beq_eq_false_iff_ne]; omega
            rw [if_neg (by omega)] at E3
            gi_wp2_with (first | ((refine in_step rfl ?_); (with_reducible refine k_load ?_); (first | refine st_load rfl _ _ rfl _ _ rfl ?_ HB 0 rfl rfl ?_ | refine st_load rfl _ _ rfl _ _ rfl ?_ HB 1 rfl rfl ?_ | refine st_load rfl _ _ rfl _ _ rfl ?_ HB 2 rfl rfl ?_ | refine st_load rfl _ _ rfl _ _ rfl ?_ HB 3 rfl rfl ?_ | refine st_load rfl _ _ rfl _ _ rfl ?_ HB 4 rfl rfl ?_); (kernel_rfl); (intro K hK; go_simp; refine hK _ _ ?_; clear hK K; show wpListIn _ _ _ _ _ _ _ _)) | ((refine in_step rfl ?_); (with_reducible refine k_store ?_); (first | refine st_store rfl _ _ _ rfl _ _ rfl _ rfl rfl ?_ HB 0 rfl ?_ ?_ | refine st_store rfl _ _ _ rfl _ _ rfl _ rfl rfl ?_ HB 1 rfl ?_ ?_ | refine st_store rfl _ _ _ rfl _ _ rfl _ rfl rfl ?_ HB 2 rfl ?_ ?_); (kernel_rfl); (simp); (clear HB; intro w HB K hK; simp only [List.set_cons_zero, List.set_cons_succ, List.setIfInBounds_toArray, Act.eval, Value.cells, Array.getD_eq_getD_getElem?, List.getElem?_toArray, List.getElem?_cons_succ, List.getElem?_cons_zero, Option.getD_some] at HB; go_simp; refine hK _ _ ?_; clear hK K; show wpListIn _ _ _ _ _ _ _ _)))
            have HC : At W (Blk l (.loop r) :: Blk D (.deferred (some [])) :: Blk gb (.cells #[.pointer (some ⟨ga, 0, none⟩)] 23 (0, 0)) :: Blk g11 (.cells #[.int .i64 (fLast (pre ++ [⟨xh, xs, xn⟩]))] 3 (0, 0)) :: Blk g10 (.cells #[.int .i64 (fLeast (pre ++ [⟨xh, xs, xn⟩]))] 3 (0, 0)) :: Blk g9 (.cells #[.int .i64 (fAt (hv : Nat) (pre ++ [⟨xh, xs, xn⟩]))] 3 (0, 0)) :: Blk g8 (.cells #[.int .i64 (-1)] 3 (0, 0)) :: Blk g7 (.cells #[.int .i64 (hv : Nat)] 3 (0, 0)) :: Blk g6 (.cells #[.bool false] 4 (0, 0)) :: Arg W :: []) _ := (by rw [E1.out, E2, E3]; exact HB.sel 11 [7, 8, 9, 0, 1, 2, 3, 4, 10, 5])
            exact HC
      · rw [if_neg c3] at E3
        have d3 : decide (((hv : Nat) : Int) ≤ xh) = false := decide_eq_false c3
        rcases hfe with rfl | hfe
        · rw [if_pos rfl] at E2
          rcases hfa with rfl | hfa
          · rw [if_pos rfl] at E3
            gi_wp2_with (first | ((refine in_step rfl ?_); (with_reducible refine k_load ?_); (first | refine st_load rfl _ _ rfl _ _ rfl ?_ HB 0 rfl rfl ?_ | refine st_load rfl _ _ rfl _ _ rfl ?_ HB 1 rfl rfl ?_ | refine st_load rfl _ _ rfl _ _ rfl ?_ HB 2 rfl rfl ?_ | refine st_load rfl _ _ rfl _ _ rfl ?_ HB 3 rfl rfl ?_ | refine st_load rfl _ _ rfl _ _ rfl ?_ HB 4 rfl rfl ?_); (kernel_rfl); (intro K hK; go_simp; refine hK _ _ ?_; clear hK K; show wpListIn _ _ _ _ _ _ _ _)) | ((refine in_step rfl ?_); (with_reducible refine k_store ?_); (first | refine st_store rfl _ _ _ rfl _ _ rfl _ rfl rfl ?_ HB 0 rfl ?_ ?_ | refine st_store rfl _ _ _ rfl _ _ rfl _ rfl rfl ?_ HB 1 rfl ?_ ?_ | refine st_store rfl _ _ _ rfl _ _ rfl _ rfl rfl ?_ HB 2 rfl ?_ ?_); (kernel_rfl); (simp); (clear HB; intro w HB K hK; simp only [List.set_cons_zero, List.set_cons_succ, List.setIfInBounds_toArray, Act.eval, Value.cells, Array.getD_eq_getD_getElem?, List.getElem?_toArray, List.getElem?_cons_succ, List.getElem?_cons_zero, Option.getD_some] at HB; go_simp; refine hK _ _ ?_; clear hK K; show wpListIn _ _ _ _ _ _ _ _)))
            have HC : At W (Blk l (.loop r) :: Blk D (.deferred (some [])) :: Blk gb (.cells #[.pointer (some ⟨ga, 0, none⟩)] 23 (0, 0)) :: Blk g11 (.cells #[.int .i64 (fLast (pre ++ [⟨xh, xs, xn⟩]))] 3 (0, 0)) :: Blk g10 (.cells #[.int .i64 (fLeast (pre ++ [⟨xh, xs, xn⟩]))] 3 (0, 0)) :: Blk g9 (.cells #[.int .i64 (fAt (hv : Nat) (pre ++ [⟨xh, xs, xn⟩]))] 3 (0, 0)) :: Blk g8 (.cells #[.int .i64 (-1)] 3 (0, 0)) :: Blk g7 (.cells #[.int .i64 (hv : Nat)] 3 (0, 0)) :: Blk g6 (.cells #[.bool false] 4 (0, 0)) :: Arg W :: []) _ := (by rw [E1.out, E2, E3]; exact HB.sel 11 [7, 8, 9, 0, 1, 2, 3, 4, 10, 5])
            exact HC
          · have ha : (fa == -1) = false := by rw [beq_eq_false_iff_ne]; omega
            rw [if_neg (by omega)] at E3
            gi_wp2_with (first | ((refine in_step rfl ?_); (with_reducible refine k_load ?_); (first | refine st_load rfl _ _ rfl _ _ rfl ?_ HB 0 rfl rfl ?_ | refine st_load rfl _ _ rfl _ _ rfl ?_ HB 1 rfl rfl ?_ | refine st_load rfl _ _ rfl _ _ rfl ?_ HB 2 rfl rfl ?_ | refine st_load rfl _ _ rfl _ _ rfl ?_ HB 3 rfl rfl ?_ | refine st_load rfl _ _ rfl _ _ rfl ?_ HB 4 rfl rfl ?_); (kernel_rfl); (intro K hK; go_simp; refine hK _ _ ?_; clear hK K; show wpListIn _ _ _ _ _ _ _ _)) | ((refine in_step rfl ?_); (with_reducible refine k_store ?_); (first | refine st_store rfl _ _ _ rfl _ _ rfl _ rfl rfl ?_ HB 0 rfl ?_ ?_ | refine st_store rfl _ _ _ rfl _ _ rfl _ rfl rfl ?_ HB 1 rfl ?_ ?_ | refine st_store rfl _ _ _ rfl _ _ rfl _ rfl rfl ?_ HB 2 rfl ?_ ?_); (kernel_rfl); (simp); (clear HB; intro w HB K hK; simp only [List.set_cons_zero, List.set_cons_succ, List.setIfInBounds_toArray, Act.eval, Value.cells, Array.getD_eq_getD_getElem?, List.getElem?_toArray, List.getElem?_cons_succ, List.getElem?_cons_zero, Option.getD_some] at HB; go_simp; refine hK _ _ ?_; clear hK K; show wpListIn _ _ _ _ _ _ _ _)))
            have HC : At W (Blk l (.loop r) :: Blk D (.deferred (some [])) :: Blk gb (.cells #[.pointer (some ⟨ga, 0, none⟩)] 23 (0, 0)) :: Blk g11 (.cells #[.int .i64 (fLast (pre ++ [⟨xh, xs, xn⟩]))] 3 (0, 0)) :: Blk g10 (.cells #[.int .i64 (fLeast (pre ++ [⟨xh, xs, xn⟩]))] 3 (0, 0)) :: Blk g9 (.cells #[.int .i64 (fAt (hv : Nat) (pre ++ [⟨xh, xs, xn⟩]))] 3 (0, 0)) :: Blk g8 (.cells #[.int .i64 (-1)] 3 (0, 0)) :: Blk g7 (.cells #[.int .i64 (hv : Nat)] 3 (0, 0)) :: Blk g6 (.cells #[.bool false] 4 (0, 0)) :: Arg W :: []) _ := (by rw [E1.out, E2, E3]; exact HB.sel 11 [7, 8, 9, 0, 1, 2, 3, 4, 10, 5])
            exact HC
        · have he : (fe == -1) = false := by rw [beq_eq_false_iff_ne]; omega
          rw [if_neg (by omega)] at E2
          rcases hfa with rfl | hfa
          · rw [if_pos rfl] at E3
            gi_wp2_with (first | ((refine in_step rfl ?_); (with_reducible refine k_load ?_); (first | refine st_load rfl _ _ rfl _ _ rfl ?_ HB 0 rfl rfl ?_ | refine st_load rfl _ _ rfl _ _ rfl ?_ HB 1 rfl rfl ?_ | refine st_load rfl _ _ rfl _ _ rfl ?_ HB 2 rfl rfl ?_ | refine st_load rfl _ _ rfl _ _ rfl ?_ HB 3 rfl rfl ?_ | refine st_load rfl _ _ rfl _ _ rfl ?_ HB 4 rfl rfl ?_); (kernel_rfl); (intro K hK; go_simp; refine hK _ _ ?_; clear hK K; show wpListIn _ _ _ _ _ _ _ _)) | ((refine in_step rfl ?_); (with_reducible refine k_store ?_); (first | refine st_store rfl _ _ _ rfl _ _ rfl _ rfl rfl ?_ HB 0 rfl ?_ ?_ | refine st_store rfl _ _ _ rfl _ _ rfl _ rfl rfl ?_ HB 1 rfl ?_ ?_ | refine st_store rfl _ _ _ rfl _ _ rfl _ rfl rfl ?_ HB 2 rfl ?_ ?_); (kernel_rfl); (simp); (clear HB; intro w HB K hK; simp only [List.set_cons_zero, List.set_cons_succ, List.setIfInBounds_toArray, Act.eval, Value.cells, Array.getD_eq_getD_getElem?, List.getElem?_toArray, List.getElem?_cons_succ, List.getElem?_cons_zero, Option.getD_some] at HB; go_simp; refine hK _ _ ?_; clear hK K; show wpListIn _ _ _ _ _ _ _ _)))
            have HC : At W (Blk l (.loop r) :: Blk D (.deferred (some [])) :: Blk gb (.cells #[.pointer (some ⟨ga, 0, none⟩)] 23 (0, 0)) :: Blk g11 (.cells #[.int .i64 (fLast (pre ++ [⟨xh, xs, xn⟩]))] 3 (0, 0)) :: Blk g10 (.cells #[.int .i64 (fLeast (pre ++ [⟨xh, xs, xn⟩]))] 3 (0, 0)) :: Blk g9 (.cells #[.int .i64 (fAt (hv : Nat) (pre ++ [⟨xh, xs, xn⟩]))] 3 (0, 0)) :: Blk g8 (.cells #[.int .i64 (-1)] 3 (0, 0)) :: Blk g7 (.cells #[.int .i64 (hv : Nat)] 3 (0, 0)) :: Blk g6 (.cells #[.bool false] 4 (0, 0)) :: Arg W :: []) _ := (by rw [E1.out, E2, E3]; exact HB.sel 11 [7, 8, 9, 0, 1, 2, 3, 4, 10, 5])
            exact HC
          · have ha : (fa == -1) = false := by rw [beq_eq_false_iff_ne]; omega
            rw [if_neg (by omega)] at E3
            gi_wp2_with (first | ((refine in_step rfl ?_); (with_reducible refine k_load ?_); (first | refine st_load rfl _ _ rfl _ _ rfl ?_ HB 0 rfl rfl ?_ | refine st_load rfl _ _ rfl _ _ rfl ?_ HB 1 rfl rfl ?_ | refine st_load rfl _ _ rfl _ _ rfl ?_ HB 2 rfl rfl ?_ | refine st_load rfl _ _ rfl _ _ rfl ?_ HB 3 rfl rfl ?_ | refine st_load rfl _ _ rfl _ _ rfl ?_ HB 4 rfl rfl ?_); (kernel_rfl); (intro K hK; go_simp; refine hK _ _ ?_; clear hK K; show wpListIn _ _ _ _ _ _ _ _)) | ((refine in_step rfl ?_); (with_reducible refine k_store ?_); (first | refine st_store rfl _ _ _ rfl _ _ rfl _ rfl rfl ?_ HB 0 rfl ?_ ?_ | refine st_store rfl _ _ _ rfl _ _ rfl _ rfl rfl ?_ HB 1 rfl ?_ ?_ | refine st_store rfl _ _ _ rfl _ _ rfl _ rfl rfl ?_ HB 2 rfl ?_ ?_); (kernel_rfl); (simp); (clear HB; intro w HB K hK; simp only [List.set_cons_zero, List.set_cons_succ, List.setIfInBounds_toArray, Act.eval, Value.cells, Array.getD_eq_getD_getElem?, List.getElem?_toArray, List.getElem?_cons_succ, List.getElem?_cons_zero, Option.getD_some] at HB; go_simp; refine hK _ _ ?_; clear hK K; show wpListIn _ _ _ _ _ _ _ _)))
            have HC : At W (Blk l (.loop r) :: Blk D (.deferred (some [])) :: Blk gb (.cells #[.pointer (some ⟨ga, 0, none⟩)] 23 (0, 0)) :: Blk g11 (.cells #[.int .i64 (fLast (pre ++ [⟨xh, xs, xn⟩]))] 3 (0, 0)) :: Blk g10 (.cells #[.int .i64 (fLeast (pre ++ [⟨xh, xs, xn⟩]))] 3 (0, 0)) :: Blk g9 (.cells #[.int .i64 (fAt (hv : Nat) (pre ++ [⟨xh, xs, xn⟩]))] 3 (0, 0)) :: Blk g8 (.cells #[.int .i64 (-1)] 3 (0, 0)) :: Blk g7 (.cells #[.int .i64 (hv : Nat)] 3 (0, 0)) :: Blk g6 (.cells #[.bool false] 4 (0, 0)) :: Arg W :: []) _ := (by rw [E1.out, E2, E3]; exact HB.sel 11 [7, 8, 9, 0, 1, 2, 3, 4, 10, 5])
            exact HC
    case doneB =>
      intro D xs W2 hxs HA
      rw [hxs] at HA
      clear HF hxs
      have hle : fLeast pts = -1 ∨ 1 ≤ fLeast pts := by
        unfold fLeast
        cases hg : pts.head? with
        | none => exact .inl rfl
        | some q => exact .inr (HSS.out q (List.mem_of_head? hg))
      have hfa : fAt (hv : Nat) pts = -1 ∨ 1 ≤ fAt (hv : Nat) pts := by
        unfold fAt
        cases hg : pts.find? fun p => decide (((hv : Nat) : Int) ≤ p.h) with
        | none => exact .inl rfl
        | some q => exact .inr (HSS.out q (List.mem_of_find?_eq_some hg))
      obtain ⟨t1, t2⟩ := HFH.out
      have HF : At W (Blk g9 (.cells #[.int .i64 (fAt (hv : Nat) pts)] 3 (0, 0)) :: Blk g10 (.cells #[.int .i64 (fLeast pts)] 3 (0, 0)) :: Blk g8 (.cells #[.int .i64 (-1)] 3 (0, 0)) :: Blk g6 (.cells #[.bool false] 4 (0, 0)) :: Blk D (.deferred (some [])) :: Arg W :: []) W2 := HA.sel 8 [3, 2, 4, 6, 0, 7]
      clear HA
      obtain ⟨fe, hfe2⟩ : ∃ fe, fLeast pts = fe := ⟨_, rfl⟩
      obtain ⟨fa, hfa2⟩ : ∃ fa, fAt (hv : Nat) pts = fa := ⟨_, rfl⟩
      rw [hfe2] at hle t1 HF
      rw [hfa2] at hfa t1 t2 HF
      clear hfe2 hfa2
      rename_i K0 hK0
      refine hK0 _ _ ?_
      clear hK0 K0
      refine wpIn_wide.2 ?_
      rcases hfa with rfl | hfa
      · have e := t1 rfl
        subst e
        clear t1 t2
        go_wp2_with (first | ((with_reducible refine k_load ?_); (first | refine st_load rfl _ _ rfl _ _ rfl ?_ HF 0 rfl rfl ?_ | refine st_load rfl _ _ rfl _ _ rfl ?_ HF 1 rfl rfl ?_ | refine st_load rfl _ _ rfl _ _ rfl ?_ HF 2 rfl rfl ?_); (kernel_rfl); (intro K hK; go_simp)) | ((with_reducible refine k_store ?_); (first | refine st_store rfl _ _ _ rfl _ _ rfl _ rfl rfl ?_ HF 0 rfl ?_ ?_ | refine st_store rfl _ _ _ rfl _ _ rfl _ rfl rfl ?_ HF 3 rfl ?_ ?_); (kernel_rfl); (simp); (clear HF; intro w HF K hK; simp only [List.set_cons_zero, List.set_cons_succ, List.setIfInBounds_toArray, Act.eval, Value.cells, Array.getD_eq_getD_getElem?, List.getElem?_toArray, List.getElem?_cons_succ, List.getElem?_cons_zero, Option.getD_some] at HF; go_simp)))
        have HB := HF.sel 6 [4, 3, 5]
        refine ⟨by simp, .inl ⟨_, _, rfl, run_takeDeferred HB.get0, ?_⟩⟩
        have HC := (At.putObj0 (o' := .deferred none) HB).drop
        exact ⟨_, results_one rfl rfl (by kernel_rfl) (HC.get 0 rfl) rfl, rfl, (HC.sel 2 [1]).lift0 H0.out⟩
      · have e := t2 (by omega)
        subst e
        have ha : (fa == -1) = false := by rw [beq_eq_false_iff_ne]; omega
        clear t1 t2
        go_wp2_with (first | ((with_reducible refine k_load ?_); (first | refine st_load rfl _ _ rfl _ _ rfl ?_ HF 0 rfl rfl ?_ | refine st_load rfl _ _ rfl _ _ rfl ?_ HF 1 rfl rfl ?_ | refine st_load rfl _ _ rfl _ _ rfl ?_ HF 2 rfl rfl ?_); (kernel_rfl); (intro K hK; go_simp)) | ((with_reducible refine k_store ?_); (first | refine st_store rfl _ _ _ rfl _ _ rfl _ rfl rfl ?_ HF 0 rfl ?_ ?_ | refine st_store rfl _ _ _ rfl _ _ rfl _ rfl rfl ?_ HF 3 rfl ?_ ?_); (kernel_rfl); (simp); (clear HF; intro w HF K hK; simp only [List.set_cons_zero, List.set_cons_succ, List.setIfInBounds_toArray, Act.eval, Value.cells, Array.getD_eq_getD_getElem?, List.getElem?_toArray, List.getElem?_cons_succ, List.getElem?_cons_zero, Option.getD_some] at HF; go_simp)))
        have HB := HF.sel 6 [4, 3, 5]
        refine ⟨by simp, .inl ⟨_, _, rfl, run_takeDeferred HB.get0, ?_⟩⟩
        have HC := (At.putObj0 (o' := .deferred none) HB).drop
        exact ⟨_, results_one rfl rfl (by kernel_rfl) (HC.get 0 rfl) rfl, rfl, (HC.sel 2 [1]).lift0 H0.out⟩
    case stopB =>
      rintro D c pre W hsp HA
      exact (At.unpure (HA.pick 1 rfl)).1.elim
end
end Rg
end Go.Proofs.Ytohfboolicheeaa
