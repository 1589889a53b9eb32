/-
  The law's again: a sequence is the same each time, left early or not, and within itself.
-/
import Derived.Test.YtohfboolicheeaaRgAgn
namespace Go.Proofs.Ytohfboolicheeaa
open Go.Hp Go.RowKit
set_option linter.unusedVariables false
set_option linter.unusedSimpArgs false
set_option maxRecDepth 100000
set_option maxHeartbeats 4000000
attribute [local go_sem] Oper.semAt_some
namespace Rg
theorem sta27 : sizeT Try.prog 27 = some 1 := by kernel_rfl
theorem zta27 : zeroT Try.prog 27 = some (.slice none 0 0) := by kernel_rfl
theorem zta60 : zeroT Try.prog 60 = some .nilFunc := by kernel_rfl
/-- Hash and server of each point, in one row. -/
def flatP (l : List Pt) : List Int := l.flatMap fun p => [p.h, p.s]
theorem flatP_snoc (l : List Pt) (p : Pt) : flatP (l ++ [p]) = flatP l ++ [p.h, p.s] := by unfold flatP; rw [List.flatMap_append]; rfl
theorem flatP_len (l : List Pt) : (flatP l).length = 2 * l.length := by
  induction l with
  | nil => rfl
  | cons p l ih =>
    have e : flatP (p :: l) = [p.h, p.s] ++ flatP l := rfl
    rw [e, List.length_append, ih, List.length_cons]
    simp
    omega
theorem flatP_h {l : List Pt} {k : Nat} {p : Pt} (h : l[k]? = some p) : (flatP l)[2 * k]? = some p.h := by
  induction l generalizing k with
  | nil => cases h
  | cons q l ih =>
    have e : flatP (q :: l) = q.h :: q.s :: flatP l := rfl
    rw [e]
    cases k with
    | zero => simp at h; subst h; rfl
    | succ k =>
      rw [List.getElem?_cons_succ] at h
      rw [show 2 * (k + 1) = 2 * k + 1 + 1 by omega, List.getElem?_cons_succ, List.getElem?_cons_succ]
      exact ih h
theorem flatP_s {l : List Pt} {k : Nat} {p : Pt} (h : l[k]? = some p) : (flatP l)[2 * k + 1]? = some p.s := by
  induction l generalizing k with
  | nil => cases h
  | cons q l ih =>
    have e : flatP (q :: l) = q.h :: q.s :: flatP l := rfl
    rw [e]
    cases k with
    | zero => simp at h; subst h; rfl
    | succ k =>
      rw [List.getElem?_cons_succ] at h
      rw [show 2 * (k + 1) + 1 = 2 * k + 1 + 1 + 1 by omega, List.getElem?_cons_succ, List.getElem?_cons_succ]
      exact ih h
def LstH (g : Nat) (xs : List Int) : HProp := fun hp => ∃ (a : Option Addr) (n c : Nat), Stars [OI (.slice a n c) xs, Blk g (.cells #[.slice a n c] 27 (0, 0))] hp
section
variable {w0 w : World} {L : List HProp}
theorem lst_open {g : Nat} {xs : List Int} (H : At w0 (LstH g xs :: L) w) : ∃ a n c, At w0 (OI (.slice a n c) xs :: Blk g (.cells #[.slice a n c] 27 (0, 0)) :: L) w := by
  obtain ⟨a, H⟩ := At.ex H
  obtain ⟨n, H⟩ := At.ex H
  obtain ⟨c, H⟩ := At.ex H
  exact ⟨a, n, c, At.flat H⟩
theorem lst_mk {g : Nat} {xs : List Int} {a : Option Addr} {n c : Nat} (H : At w0 (OI (.slice a n c) xs :: Blk g (.cells #[.slice a n c] 27 (0, 0)) :: L) w) : At w0 (LstH g xs :: L) w :=
  At.imp (At.fold (M := [_, _]) H) fun _ hh => ⟨a, n, c, hh⟩
theorem oi_two {v : Value} {l : List Int} {x y : Int} (H : At w0 (OwnRow 3 1 v (l.length + 2) (iCs l ++ [.int .i64 x, .int .i64 y]) :: L) w) : At w0 (OI v (l ++ [x, y]) :: L) w := by
  unfold OI
  rw [iCs_app, List.length_append]
  exact H
theorem own_cell0 {g n' cap j : Nat} {l : List Int} {x : Int} (H : At w0 (OI (.slice (some ⟨g, 0, none⟩) n' cap) l :: L) w) (hj : l[j]? = some x) : w.cell? ⟨g, j, none⟩ = some (.int .i64 x) := by
  have h1 : (iCs l)[j]? = some (.int .i64 x) := by rw [iCs_map, List.getElem?_map, hj]; rfl
  have := own_cell H h1
  rwa [Addr.add_lit, Nat.zero_add] at this
theorem el_facts {m np nf : Nat} (h1 : m + 1 ≤ np) (h2 : nf = 2 * np) (h3 : np ≤ 100000) : wrap64 (2 * (m : Int)) = ((2 * m : Nat) : Int) ∧ wrap64 (((2 * m : Nat) : Int) + 1) = ((2 * m + 1 : Nat) : Int) ∧ wrap64 ((m : Int) + 1) = ((m + 1 : Nat) : Int) ∧ ((2 * m : Nat) : Int) < nf ∧ ((2 * m + 1 : Nat) : Int) < nf ∧ ¬ (nf : Int) ≤ ((2 * m + 1 : Nat) : Int) :=
  ⟨by rw [wrap64_of (by omega) (by omega)]; omega, by rw [wrap64_of (by omega) (by omega)]; omega, by rw [wrap64_of (by omega) (by omega)]; omega, by omega, by omega, by omega⟩
theorem inc_fact {k : Nat} (h : k + 1 ≤ 100000) : wrap64 ((k : Int) + 1) = ((k + 1 : Nat) : Int) := by rw [wrap64_of (by omega) (by omega)]; omega
theorem fl_fact {np nf : Nat} (h2 : nf = 2 * np) (h3 : np ≤ 100000) : wrap64 (2 * (np : Int)) = ((nf : Nat) : Int) := by rw [wrap64_of (by omega) (by omega)]; omega
theorem agn {v : Value} {c : Cf} {S : List Int} {pts : List Pt} (hr1 : RgF 84 w v c S pts) (hsz : pts.length ≤ 100000) (hpos : 0 < pts.length) (stop0 : Int) (H : At w0 L w) :
    Calls Try.prog 43 #[v, .int .i64 stop0] w (Ret w0 (.bool true) L) := by
  obtain ⟨W, rfl⟩ : ∃ W : World, W = w := ⟨_, rfl⟩
  have HF := At.of W
  have H0 := Lib.hid H
  have R1 := Lib.hid hr1
  have HSZ := Lib.hid hsz
  have HPO := Lib.hid hpos
  obtain ⟨ga, _, _, _, _, _, _, rfl, _⟩ := hr1
  clear H
  refine calls_of_marks Try.func43 rfl ?_
  simp only [Try.ntmps43, List.size_toArray, List.length_cons, List.length_nil, Nat.reduceAdd, Nat.reduceSub, Array.replicate_succ, Array.replicate_zero, List.push_toArray, List.append_toArray, List.nil_append, List.cons_append]
  gi_wp2_with (first | ((refine in_step rfl ?_); (with_reducible refine k_box ?_); refine st_box rfl _ _ rfl _ rfl HF ?_; (clear HF; intro g3 w HF K hK; simp only [Value.cells, Act.eval, Value.cells, Array.getD_eq_getD_getElem?, List.getElem?_toArray, List.getElem?_cons_succ, List.getElem?_cons_zero, Option.getD_some] at HF; go_simp; refine hK _ _ ?_; clear hK K; show wpListIn _ _ _ _ _ _ _ _)) | ((refine in_step rfl ?_); (with_reducible refine k_alloc (T := 4) ?_); refine st_alloc rfl _ rfl (.bool false) ?_ #[.bool false] rfl HF ?_; (kernel_rfl); (clear HF; intro g4 w HF K hK; go_simp; refine hK _ _ ?_; clear hK K; show wpListIn _ _ _ _ _ _ _ _)))
  refine ⟨trivial, (calls_in (points0 HF _)).mono ?_⟩
  rintro e w2 ⟨gb, rfl, HX⟩
  clear HF
  have HF := HX
  clear HX
  have hnf : ∀ w : World, (binOp .eql 60 (.func (.func 48) #[] #[.pointer (some ⟨gb, 0, none⟩)]) .nilFunc).run Try.prog w = .ok (.bool false) w := fun w => rfl
  gi_wp2_with (first | ((refine in_step rfl ?_); (with_reducible refine k_alloc (T := 60) ?_); refine st_alloc rfl _ rfl (.nilFunc) ?_ #[.nilFunc] rfl HF ?_; (kernel_rfl); (clear HF; intro g5 w HF K hK; go_simp; refine hK _ _ ?_; clear hK K; show wpListIn _ _ _ _ _ _ _ _)) | ((refine in_step rfl ?_); (with_reducible refine k_alloc (T := 27) ?_); refine st_alloc rfl _ rfl (.slice none 0 0) ?_ #[.slice none 0 0] rfl HF ?_; (kernel_rfl); (clear HF; intro g6 w HF K hK; go_simp; refine hK _ _ ?_; clear hK K; show wpListIn _ _ _ _ _ _ _ _)) | ((refine in_step rfl ?_); (with_reducible refine k_store ?_); refine st_store rfl _ _ _ rfl _ _ rfl _ rfl rfl ?_ HF 0 rfl ?_ ?_; (kernel_rfl); (simp); (clear HF; intro w HF K hK; simp only [List.set_cons_zero, List.set_cons_succ, List.setIfInBounds_toArray, Act.eval, Value.cells, Array.getD_eq_getD_getElem?, List.getElem?_toArray, List.getElem?_cons_succ, List.getElem?_cons_zero, Option.getD_some] at HF; go_simp; refine hK _ _ ?_; clear hK K; show wpListIn _ _ _ _ _ _ _ _)) | ((refine in_step rfl ?_); (with_reducible refine k_load ?_); (first | refine st_load rfl _ _ rfl _ _ rfl ?_ HF 0 rfl rfl ?_ | refine st_load rfl _ _ rfl _ _ rfl ?_ HF 1 rfl rfl ?_); (kernel_rfl); (intro K hK; go_simp; refine hK _ _ ?_; clear hK K; show wpListIn _ _ _ _ _ _ _ _)))
  replace HF : At W (Arg W :: Blk gb (.cells #[.pointer (some ⟨ga, 0, none⟩)] 23 (0, 0)) :: LstH g6 (flatP []) :: Blk g5 (.cells #[.func (.func 48) #[] #[.pointer (some ⟨gb, 0, none⟩)]] 60 (0, 0)) :: Blk g4 (.cells #[.bool false] 4 (0, 0)) :: Blk g3 (.cells #[.int .i64 stop0] 3 (0, 0)) :: []) _ := (lst_mk (xs := flatP []) (oi_nil HF)).sel 6 [5, 2, 0, 1, 3, 4]
  refine range_at1 (w0 := W) (gf := 48) (lb := #[.pointer (some ⟨gb, 0, none⟩)]) rfl (enters_of Try.func48 (by kernel_rfl) rfl) (encs := encP) (fun _ => rfl)
    (fun _ => [])
    (fun pre => Arg W :: Blk gb (.cells #[.pointer (some ⟨ga, 0, none⟩)] 23 (0, 0)) :: LstH g6 (flatP pre) :: Blk g5 (.cells #[.func (.func 48) #[] #[.pointer (some ⟨gb, 0, none⟩)]] 60 (0, 0)) :: Blk g4 (.cells #[.bool false] 4 (0, 0)) :: Blk g3 (.cells #[.int .i64 stop0] 3 (0, 0)) :: [])
    (fun c pre => [pur False]) (fun xs => xs = pts) (fun pre => pre <+: pts) ?startA (fun J Jx hJ => pts_iter2 R1.out HSZ.out (fun pre => by obtain ⟨X, hX⟩ := hJ pre; exact ⟨_, hX.trans (List.perm_middle.trans (List.perm_middle.cons _))⟩)) ?FrA (fun gp x => emp) ?assignA ?bodyA ?doneA ?stopA
  case startA => exact HF
  case assignA =>
    intro l D r pre x W2 K hsp HA hK
    dsimp only [encP]
    gi_wp2
    obtain ⟨gp, _⟩ : ∃ gp : Nat, gp = 0 := ⟨0, rfl⟩
    exact hK gp _ HA.addEmp
  case bodyA =>
    rintro l D r pre x gp W2 hsp HA
    have hlen : pre.length + 1 ≤ pts.length := by
      have h1 := hsp.length_le
      rw [List.length_append] at h1
      exact h1
    have HLN := Lib.hid (show (flatP pre).length + 2 ≤ 200002 by rw [flatP_len]; omega)
    have HSN := Lib.hid (flatP_snoc pre x)
    obtain ⟨xh, xs, xn⟩ := x
    obtain ⟨a, n, c9, HB⟩ := lst_open (HA.sel 9 [5, 0, 1, 2, 3, 4, 6, 7, 8])
    clear HA hlen hsp
    replace HB : At W (OI (.slice a n c9) (flatP pre) :: Blk g6 (.cells #[.slice a n c9] 27 (0, 0)) :: emp :: Blk l (.loop r) :: Blk D (.deferred (some [])) :: Arg W :: Blk gb (.cells #[.pointer (some ⟨ga, 0, none⟩)] 23 (0, 0)) :: Blk g5 (.cells #[.func (.func 48) #[] #[.pointer (some ⟨gb, 0, none⟩)]] 60 (0, 0)) :: Blk g4 (.cells #[.bool false] 4 (0, 0)) :: Blk g3 (.cells #[.int .i64 stop0] 3 (0, 0)) :: []) W2 := HB
    gi_wp2_with (first | ((refine in_step rfl ?_); (with_reducible refine k_load ?_); refine st_load rfl _ _ rfl _ _ rfl ?_ HB 1 rfl rfl ?_; (kernel_rfl); (intro K hK; go_simp; refine hK _ _ ?_; clear hK K; show wpListIn _ _ _ _ _ _ _ _)) | ((refine in_step rfl ?_); (with_reducible refine k_store ?_); refine st_store rfl _ _ _ rfl _ _ rfl _ rfl rfl ?_ HB 2 rfl ?_ ?_; (kernel_rfl); (simp); (clear HB; intro w HB K hK; simp only [List.set_cons_zero, List.set_cons_succ, List.setIfInBounds_toArray, Act.eval, Value.cells, Array.getD_eq_getD_getElem?, List.getElem?_toArray, List.getElem?_cons_succ, List.getElem?_cons_zero, Option.getD_some] at HB; go_simp; refine hK _ _ ?_; clear hK K; show wpListIn _ _ _ _ _ _ _ _))        | ((refine in_step rfl ?_); (with_reducible refine k_lit ?_); refine st_lit rfl _ _ _ rfl #[.int .i64 xh, .int .i64 xs] 3 2 HB ?_ ?_; (go_simp); (clear HB; intro g1 W3 HB K hK; go_simp; refine hK _ _ ?_; clear hK K; show wpListIn _ _ _ _ _ _ _ _))        | ((refine in_step rfl ?_); (with_reducible refine k_builtin ?_); refine st_append rfl _ _ _ rfl 3 Try.underlying27 1 st3 8 bt3 _ zt3 rfl (.slice a n c9) (flatP pre).length (iCs (flatP pre)) rfl (HB.sel 2 [1, 0]) (some ⟨g1, 0, none⟩) 2 2 [.int .i64 xh, .int .i64 xs] rfl rfl (fun _ => ⟨_, rfl, cells_of (HB.get 0 rfl)⟩) (by simp [Value.oneCell']) ?_ ?_ ?_; (have := HLN.out; simp only [maxLen]; omega); (have := HLN.out; omega); (clear HB; intro v2 W4 HB K hK; obtain ⟨s4, t4, u4, rfl⟩ := own_form HB; go_simp; refine hK _ _ ?_; clear hK K; show wpListIn _ _ _ _ _ _ _ _)))
    have HC := lst_mk (g := g6) ((oi_two HB).sel 11 [0, 2, 4, 5, 6, 7, 8, 9, 10])
    rw [← HSN.out] at HC
    exact HC.sel 8 [1, 2, 3, 4, 0, 5, 6, 7]
  case stopA =>
    rintro D c pre W hsp HA
    exact (At.unpure (HA.pick 1 rfl)).1.elim
  case doneA =>
    rename_i K0 hK0
    intro D1 xs W2 hxs HA
    rw [hxs] at HA
    clear HF hxs
    obtain ⟨FL, hFL⟩ : ∃ FL, flatP pts = FL := ⟨_, rfl⟩
    have HFl := Lib.hid hFL
    rw [hFL] at HA
    clear hFL
    obtain ⟨a, n, c9, HB⟩ := lst_open (HA.sel 7 [3, 1, 2, 4, 5, 6, 0])
    clear HA
    obtain ⟨gl, cl, hv, _⟩ := own_addr (by rw [← HFl.out, flatP_len]; omega) HB
    cases hv
    have HF : At W (OI (.slice (blkA gl) FL.length c9) FL :: Blk g6 (.cells #[.slice (blkA gl) FL.length c9] 27 (0, 0)) :: Arg W :: Blk gb (.cells #[.pointer (some ⟨ga, 0, none⟩)] 23 (0, 0)) :: Blk g5 (.cells #[.func (.func 48) #[] #[.pointer (some ⟨gb, 0, none⟩)]] 60 (0, 0)) :: Blk g4 (.cells #[.bool false] 4 (0, 0)) :: Blk g3 (.cells #[.int .i64 stop0] 3 (0, 0)) :: Blk D1 (.deferred (some [])) :: []) W2 := HB
    clear HB
    refine hK0 _ _ ?_
    clear hK0 K0
    clear hsz hpos
    gi_wp2_with (first | ((refine in_step rfl ?_); (with_reducible refine k_alloc (T := 3) ?_); refine st_alloc rfl _ rfl (.int .i64 0) ?_ #[.int .i64 0] rfl HF ?_; (kernel_rfl); (clear HF; intro g9 w HF K hK; go_simp; refine hK _ _ ?_; clear hK K; show wpListIn _ _ _ _ _ _ _ _)) | ((refine in_step rfl ?_); (with_reducible refine k_store ?_); refine st_store rfl _ _ _ rfl _ _ rfl _ rfl rfl ?_ HF 0 rfl ?_ ?_; (kernel_rfl); (simp); (clear HF; intro w HF K hK; simp only [List.set_cons_zero, List.set_cons_succ, List.setIfInBounds_toArray, Act.eval, Value.cells, Array.getD_eq_getD_getElem?, List.getElem?_toArray, List.getElem?_cons_succ, List.getElem?_cons_zero, Option.getD_some] at HF; go_simp; refine hK _ _ ?_; clear hK K; show wpListIn _ _ _ _ _ _ _ _)) | ((refine in_step rfl ?_); (with_reducible refine k_load ?_); refine st_load rfl _ _ rfl _ _ rfl ?_ HF 5 rfl rfl ?_; (kernel_rfl); (intro K hK; go_simp; refine hK _ _ ?_; clear hK K; show wpListIn _ _ _ _ _ _ _ _)))
    replace HF : At W (Arg W :: Blk gb (.cells #[.pointer (some ⟨ga, 0, none⟩)] 23 (0, 0)) :: OI (.slice (blkA gl) FL.length c9) FL :: Blk g6 (.cells #[.slice (blkA gl) FL.length c9] 27 (0, 0)) :: Blk g9 (.cells #[.int .i64 ((0 : Nat) : Int)] 3 (0, 0)) :: Blk g5 (.cells #[.func (.func 48) #[] #[.pointer (some ⟨gb, 0, none⟩)]] 60 (0, 0)) :: Blk g4 (.cells #[.bool false] 4 (0, 0)) :: Blk g3 (.cells #[.int .i64 stop0] 3 (0, 0)) :: Blk D1 (.deferred (some [])) :: []) _ := HF.sel 9 [3, 4, 1, 2, 0, 5, 6, 7, 8]
    refine range_at1 (w0 := W) (gf := 48) (lb := #[.pointer (some ⟨gb, 0, none⟩)]) rfl (enters_of Try.func48 (by kernel_rfl) rfl) (encs := encP) (fun _ => rfl)
      (fun _ => [])
      (fun pre => Arg W :: Blk gb (.cells #[.pointer (some ⟨ga, 0, none⟩)] 23 (0, 0)) :: OI (.slice (blkA gl) FL.length c9) FL :: Blk g6 (.cells #[.slice (blkA gl) FL.length c9] 27 (0, 0)) :: Blk g9 (.cells #[.int .i64 ((pre.length : Nat) : Int)] 3 (0, 0)) :: Blk g5 (.cells #[.func (.func 48) #[] #[.pointer (some ⟨gb, 0, none⟩)]] 60 (0, 0)) :: Blk g4 (.cells #[.bool false] 4 (0, 0)) :: Blk g3 (.cells #[.int .i64 stop0] 3 (0, 0)) :: Blk D1 (.deferred (some [])) :: [])
      (fun c pre => pur (c = Code.exit 2) :: Arg W :: Blk gb (.cells #[.pointer (some ⟨ga, 0, none⟩)] 23 (0, 0)) :: OI (.slice (blkA gl) FL.length c9) FL :: Blk g6 (.cells #[.slice (blkA gl) FL.length c9] 27 (0, 0)) :: Blk g9 (.cells #[.int .i64 ((pre.length : Nat) : Int)] 3 (0, 0)) :: Blk g5 (.cells #[.func (.func 48) #[] #[.pointer (some ⟨gb, 0, none⟩)]] 60 (0, 0)) :: Blk g4 (.cells #[.bool false] 4 (0, 0)) :: Blk g3 (.cells #[.int .i64 stop0] 3 (0, 0)) :: Blk D1 (.deferred (some [])) :: [])
      (fun xs => xs = pts) (fun pre => pre <+: pts) ?startB (fun J Jx hJ => pts_iter2 R1.out HSZ.out (fun pre => by obtain ⟨X, hX⟩ := hJ pre; exact ⟨_, hX.trans (List.perm_middle.trans (List.perm_middle.cons _))⟩)) ?FrB (fun gp x => emp) ?assignB ?bodyB ?doneB ?stopB
    case startB => exact HF
    case assignB =>
      intro l D r pre x W2 K hsp HA hK
      dsimp only [encP]
      gi_wp2
      obtain ⟨gp, _⟩ : ∃ gp : Nat, gp = 0 := ⟨0, rfl⟩
      exact hK gp _ HA.addEmp
    case bodyB =>
      rintro l D r pre x gp W2 hsp HA
      have hlen : pre.length + 1 ≤ pts.length := by
        have h1 := hsp.length_le
        rw [List.length_append] at h1
        exact h1
      have hx : pts[pre.length]? = some x := by
        obtain ⟨t, ht⟩ := hsp
        rw [← ht, List.append_assoc, List.getElem?_append_right (Nat.le_refl _), Nat.sub_self]
        rfl
      have hfl : FL.length = 2 * pts.length := by rw [← HFl.out, flatP_len]
      have hszz := HSZ.out
      have hc1 := flatP_h hx
      have hc2 := flatP_s hx
      rw [HFl.out] at hc1 hc2
      obtain ⟨xh, xs, xn⟩ := x
      (try dsimp only at hc1 hc2)
      obtain ⟨m, hm⟩ : ∃ m, pre.length = m := ⟨_, rfl⟩
      rw [hm] at hlen hc1 hc2 HA
      obtain ⟨hw1, hw2, hw3, ge0, ge1, hge⟩ := el_facts hlen hfl hszz
      obtain ⟨e0, he0⟩ : ∃ e, 2 * m = e := ⟨_, rfl⟩
      obtain ⟨e1, he1⟩ : ∃ e, 2 * m + 1 = e := ⟨_, rfl⟩
      obtain ⟨m1, hm1⟩ : ∃ k, m + 1 = k := ⟨_, rfl⟩
      have HM := Lib.hid (show (pre ++ [(⟨xh, xs, xn⟩ : Pt)]).length = m1 by rw [List.length_append, hm]; exact hm1)
      rw [he1] at hc2 hw2 ge1 hge
      rw [he0] at hc1 hw1 hw2 ge0
      rw [hm1] at hw3
      have HC1 := Lib.hid hc1
      have HC2 := Lib.hid hc2
      clear hx hc1 hc2 hlen hfl hszz hm he0 he1 hm1 hsp
      have HB := HA.sel 12 [7, 6, 5, 10, 8, 3, 4, 1, 2, 9, 11]
      clear HA HF
      replace HB : At W (Blk g9 (.cells #[.int .i64 ((m : Nat) : Int)] 3 (0, 0)) :: Blk g6 (.cells #[.slice (blkA gl) FL.length c9] 27 (0, 0)) :: OI (.slice (blkA gl) FL.length c9) FL :: Blk g3 (.cells #[.int .i64 stop0] 3 (0, 0)) :: Blk g5 (.cells #[.func (.func 48) #[] #[.pointer (some ⟨gb, 0, none⟩)]] 60 (0, 0)) :: Arg W :: Blk gb (.cells #[.pointer (some ⟨ga, 0, none⟩)] 23 (0, 0)) :: Blk l (.loop r) :: Blk D (.deferred (some [])) :: Blk g4 (.cells #[.bool false] 4 (0, 0)) :: Blk D1 (.deferred (some [])) :: []) W2 := HB
      by_cases hst : ((m1 : Nat) : Int) = stop0
      · have hsb : (((m1 : Nat) : Int) == stop0) = true := by rw [beq_iff_eq]; exact hst
        clear hst
        gi_wp2_with (first | ((refine in_step rfl ?_); (with_reducible refine k_load ?_); (first | refine st_load1 rfl _ _ rfl _ rfl rfl (own_cell0 (HB.pick 2 rfl) HC1.out) ?_ | refine st_load1 rfl _ _ rfl _ rfl rfl (own_cell0 (HB.pick 2 rfl) HC2.out) ?_); (intro K hK; go_simp; refine hK _ _ ?_; clear hK K; show wpListIn _ _ _ _ _ _ _ _)) | ((refine in_step rfl ?_); (with_reducible refine k_load ?_); (first | refine st_load rfl _ _ rfl _ _ rfl ?_ HB 0 rfl rfl ?_ | refine st_load rfl _ _ rfl _ _ rfl ?_ HB 1 rfl rfl ?_ | refine st_load rfl _ _ rfl _ _ rfl ?_ HB 3 rfl rfl ?_ | refine st_load rfl _ _ rfl _ _ rfl ?_ HB 5 rfl rfl ?_); (kernel_rfl); (intro K hK; go_simp; refine hK _ _ ?_; clear hK K; show wpListIn _ _ _ _ _ _ _ _)) | ((refine in_step rfl ?_); (with_reducible refine k_store ?_); refine st_store rfl _ _ _ rfl _ _ rfl _ rfl rfl ?_ HB 0 rfl ?_ ?_; (kernel_rfl); (simp); (clear HB; intro w HB K hK; simp only [List.set_cons_zero, List.set_cons_succ, List.setIfInBounds_toArray, Act.eval, Value.cells, Array.getD_eq_getD_getElem?, List.getElem?_toArray, List.getElem?_cons_succ, List.getElem?_cons_zero, Option.getD_some] at HB; go_simp; refine hK _ _ ?_; clear hK K; show wpListIn _ _ _ _ _ _ _ _)) | ((refine in_step rfl ?_); (with_reducible refine k_alloc (T := 3) ?_); refine st_alloc rfl _ rfl (.int .i64 0) ?_ #[.int .i64 0] rfl HB ?_; (kernel_rfl); (clear HB; intro g12 w HB K hK; go_simp; refine hK _ _ ?_; clear hK K; show wpListIn _ _ _ _ _ _ _ _)))
        rw [hw3] at HB
        replace HB : At W (Arg W :: Blk gb (.cells #[.pointer (some ⟨ga, 0, none⟩)] 23 (0, 0)) :: Blk g12 (.cells #[.int .i64 ((0 : Nat) : Int)] 3 (0, 0)) :: Blk g9 (.cells #[.int .i64 ((m1 : Nat) : Int)] 3 (0, 0)) :: Blk g6 (.cells #[.slice (blkA gl) FL.length c9] 27 (0, 0)) :: OI (.slice (blkA gl) FL.length c9) FL :: Blk g3 (.cells #[.int .i64 stop0] 3 (0, 0)) :: Blk g5 (.cells #[.func (.func 48) #[] #[.pointer (some ⟨gb, 0, none⟩)]] 60 (0, 0)) :: Blk l (.loop r) :: Blk D (.deferred (some [])) :: Blk g4 (.cells #[.bool false] 4 (0, 0)) :: Blk D1 (.deferred (some [])) :: []) _ := HB.sel 12 [6, 7, 0, 1, 2, 3, 4, 5, 8, 9, 10, 11]
        clear hw1 hw2 hw3 ge0 ge1 hge hsb
        refine range_in1 (w0 := W) (gf := 48) (lb := #[.pointer (some ⟨gb, 0, none⟩)]) (HB.get 8 rfl) rfl (enters_of Try.func48 (by kernel_rfl) rfl) (encs := encP) (fun _ => rfl)
          (fun _ => [])
          (fun pre => Arg W :: Blk gb (.cells #[.pointer (some ⟨ga, 0, none⟩)] 23 (0, 0)) :: Blk g12 (.cells #[.int .i64 ((pre.length : Nat) : Int)] 3 (0, 0)) :: Blk g9 (.cells #[.int .i64 ((m1 : Nat) : Int)] 3 (0, 0)) :: Blk g6 (.cells #[.slice (blkA gl) FL.length c9] 27 (0, 0)) :: OI (.slice (blkA gl) FL.length c9) FL :: Blk g3 (.cells #[.int .i64 stop0] 3 (0, 0)) :: Blk g5 (.cells #[.func (.func 48) #[] #[.pointer (some ⟨gb, 0, none⟩)]] 60 (0, 0)) :: Blk l (.loop r) :: Blk D (.deferred (some [])) :: Blk g4 (.cells #[.bool false] 4 (0, 0)) :: Blk D1 (.deferred (some [])) :: [])
          (fun c pre => [pur False]) (fun xs => xs = pts) (fun pre => pre <+: pts) ?startI (fun J Jx hJ => pts_iter2 R1.out HSZ.out (fun pre => by obtain ⟨X, hX⟩ := hJ pre; exact ⟨_, hX.trans (List.perm_middle.trans (List.perm_middle.cons _))⟩)) ?FrI (fun gp x => emp) ?assignI ?bodyI ?doneI ?stopI
        case startI => exact HB
        case assignI =>
          intro l2 r2 pre2 x2 W3 K hsp HA hK
          dsimp only [encP]
          gi_wp2
          (try go_simp)
          obtain ⟨gp2, _⟩ : ∃ gp : Nat, gp = 0 := ⟨0, rfl⟩
          exact hK gp2 _ HA.addEmp
        case bodyI =>
          rintro l2 r2 pre2 x2 gp2 W3 hsp HA
          have hlen : pre2.length + 1 ≤ pts.length := by
            have h1 := hsp.length_le
            rw [List.length_append] at h1
            exact h1
          obtain ⟨k, hk⟩ : ∃ k, pre2.length = k := ⟨_, rfl⟩
          rw [hk] at hlen
          have hwi := inc_fact (Nat.le_trans hlen HSZ.out)
          have HM2 := Lib.hid (show (pre2 ++ [x2]).length = k + 1 by rw [List.length_append, hk]; rfl)
          have HB2 := HA.sel 14 [4, 0, 1, 2, 3, 5, 6, 7, 8, 9, 10, 11, 12, 13]
          rw [hk] at HB2
          clear HA HB hlen hk hsp
          replace HB2 : At W (Blk g12 (.cells #[.int .i64 ((k : Nat) : Int)] 3 (0, 0)) :: emp :: Blk l2 (.loop r2) :: Arg W :: Blk gb (.cells #[.pointer (some ⟨ga, 0, none⟩)] 23 (0, 0)) :: Blk g9 (.cells #[.int .i64 ((m1 : Nat) : Int)] 3 (0, 0)) :: Blk g6 (.cells #[.slice (blkA gl) FL.length c9] 27 (0, 0)) :: OI (.slice (blkA gl) FL.length c9) FL :: Blk g3 (.cells #[.int .i64 stop0] 3 (0, 0)) :: Blk g5 (.cells #[.func (.func 48) #[] #[.pointer (some ⟨gb, 0, none⟩)]] 60 (0, 0)) :: Blk l (.loop r) :: Blk D (.deferred (some [])) :: Blk g4 (.cells #[.bool false] 4 (0, 0)) :: Blk D1 (.deferred (some [])) :: []) W3 := HB2
          gi_wp2_with (first | ((refine in_step rfl ?_); (with_reducible refine k_load ?_); refine st_load rfl _ _ rfl _ _ rfl ?_ HB2 0 rfl rfl ?_; (kernel_rfl); (intro K hK; go_simp; refine hK _ _ ?_; clear hK K; show wpListIn _ _ _ _ _ _ _ _)) | ((refine in_step rfl ?_); (with_reducible refine k_store ?_); refine st_store rfl _ _ _ rfl _ _ rfl _ rfl rfl ?_ HB2 0 rfl ?_ ?_; (kernel_rfl); (simp); (clear HB2; intro w HB2 K hK; simp only [List.set_cons_zero, List.set_cons_succ, List.setIfInBounds_toArray, Act.eval, Value.cells, Array.getD_eq_getD_getElem?, List.getElem?_toArray, List.getElem?_cons_succ, List.getElem?_cons_zero, Option.getD_some] at HB2; go_simp; refine hK _ _ ?_; clear hK K; show wpListIn _ _ _ _ _ _ _ _)))
          have HC := HB2.sel 14 [2, 3, 4, 0, 5, 6, 7, 8, 9, 10, 11, 12, 13]
          rw [hwi, ← HM2.out] at HC
          exact HC
        case stopI =>
          rintro c pre W3 hsp HA
          exact (At.unpure HA).1.elim
        case doneI =>
          rename_i K0 hK0
          intro xs W3 hxs HA
          rw [hxs] at HA
          clear HB hxs
          refine hK0 _ _ ?_
          clear hK0 K0
          have hw8 := fl_fact (show FL.length = 2 * pts.length by rw [← HFl.out, flatP_len]) HSZ.out
          rw [← HM.out] at HA
          have HB3 := HA
          clear HA
          gi_wp2_with (first | ((refine in_step rfl ?_); (with_reducible refine k_load ?_); (first | refine st_load rfl _ _ rfl _ _ rfl ?_ HB3 2 rfl rfl ?_ | refine st_load rfl _ _ rfl _ _ rfl ?_ HB3 4 rfl rfl ?_); (kernel_rfl); (intro K hK; go_simp; refine hK _ _ ?_; clear hK K; show wpListIn _ _ _ _ _ _ _ _)))
          exact (At.pure (rfl : Code.exit 2 = Code.exit 2) HB3).sel 13 [9, 10, 0, 1, 2, 6, 5, 4, 8, 11, 7, 12]
      · have hsb : (((m1 : Nat) : Int) == stop0) = false := by rw [beq_eq_false_iff_ne]; exact hst
        clear hst
        gi_wp2_with (first | ((refine in_step rfl ?_); (with_reducible refine k_load ?_); (first | refine st_load1 rfl _ _ rfl _ rfl rfl (own_cell0 (HB.pick 2 rfl) HC1.out) ?_ | refine st_load1 rfl _ _ rfl _ rfl rfl (own_cell0 (HB.pick 2 rfl) HC2.out) ?_); (intro K hK; go_simp; refine hK _ _ ?_; clear hK K; show wpListIn _ _ _ _ _ _ _ _)) | ((refine in_step rfl ?_); (with_reducible refine k_load ?_); (first | refine st_load rfl _ _ rfl _ _ rfl ?_ HB 0 rfl rfl ?_ | refine st_load rfl _ _ rfl _ _ rfl ?_ HB 1 rfl rfl ?_ | refine st_load rfl _ _ rfl _ _ rfl ?_ HB 3 rfl rfl ?_); (kernel_rfl); (intro K hK; go_simp; refine hK _ _ ?_; clear hK K; show wpListIn _ _ _ _ _ _ _ _)) | ((refine in_step rfl ?_); (with_reducible refine k_store ?_); refine st_store rfl _ _ _ rfl _ _ rfl _ rfl rfl ?_ HB 0 rfl ?_ ?_; (kernel_rfl); (simp); (clear HB; intro w HB K hK; simp only [List.set_cons_zero, List.set_cons_succ, List.setIfInBounds_toArray, Act.eval, Value.cells, Array.getD_eq_getD_getElem?, List.getElem?_toArray, List.getElem?_cons_succ, List.getElem?_cons_zero, Option.getD_some] at HB; go_simp; refine hK _ _ ?_; clear hK K; show wpListIn _ _ _ _ _ _ _ _)))
        have HC := HB.sel 11 [7, 8, 5, 6, 2, 1, 0, 4, 9, 3, 10]
        rw [hw3, ← HM.out] at HC
        exact HC
    case stopB =>
      rename_i K0 hK0
      intro D2 c pre W2 hsp HA
      obtain ⟨hc, HA2⟩ := At.unpure (HA.pick 1 rfl)
      subst hc
      obtain ⟨nv, hnv⟩ : ∃ nv : Int, ((pre.length : Nat) : Int) = nv := ⟨_, rfl⟩
      rw [hnv] at HA2
      clear HF HA hnv hsp
      have HF := HA2.sel 10 [5, 3, 4, 1, 2, 6, 7, 8, 9, 0]
      clear HA2
      gi_wp2_with (first | ((refine in_step rfl ?_); (with_reducible refine k_store ?_); refine st_store rfl _ _ _ rfl _ _ rfl _ rfl rfl ?_ HF 0 rfl ?_ ?_; (kernel_rfl); (simp); (clear HF; intro w HF K hK; simp only [List.set_cons_zero, List.set_cons_succ, List.setIfInBounds_toArray, Act.eval, Value.cells, Array.getD_eq_getD_getElem?, List.getElem?_toArray, List.getElem?_cons_succ, List.getElem?_cons_zero, Option.getD_some] at HF; go_simp; refine hK _ _ ?_; clear hK K; show wpListIn _ _ _ _ _ _ _ _)) | ((refine in_step rfl ?_); (with_reducible refine k_load ?_); refine st_load rfl _ _ rfl _ _ rfl ?_ HF 5 rfl rfl ?_; (kernel_rfl); (intro K hK; go_simp; refine hK _ _ ?_; clear hK K; show wpListIn _ _ _ _ _ _ _ _)))
      replace HF : At W (Arg W :: Blk gb (.cells #[.pointer (some ⟨ga, 0, none⟩)] 23 (0, 0)) :: OI (.slice (blkA gl) FL.length c9) FL :: Blk g6 (.cells #[.slice (blkA gl) FL.length c9] 27 (0, 0)) :: Blk g9 (.cells #[.int .i64 ((0 : Nat) : Int)] 3 (0, 0)) :: Blk g5 (.cells #[.func (.func 48) #[] #[.pointer (some ⟨gb, 0, none⟩)]] 60 (0, 0)) :: Blk g4 (.cells #[.bool false] 4 (0, 0)) :: Blk g3 (.cells #[.int .i64 stop0] 3 (0, 0)) :: Blk D1 (.deferred (some [])) :: Blk D2 (.deferred (some [])) :: []) _ := HF.sel 10 [3, 4, 1, 2, 0, 5, 6, 7, 8, 9]
      refine range_at1 (w0 := W) (gf := 48) (lb := #[.pointer (some ⟨gb, 0, none⟩)]) rfl (enters_of Try.func48 (by kernel_rfl) rfl) (encs := encP) (fun _ => rfl)
        (fun _ => [])
        (fun pre => Arg W :: Blk gb (.cells #[.pointer (some ⟨ga, 0, none⟩)] 23 (0, 0)) :: OI (.slice (blkA gl) FL.length c9) FL :: Blk g6 (.cells #[.slice (blkA gl) FL.length c9] 27 (0, 0)) :: Blk g9 (.cells #[.int .i64 ((pre.length : Nat) : Int)] 3 (0, 0)) :: Blk g5 (.cells #[.func (.func 48) #[] #[.pointer (some ⟨gb, 0, none⟩)]] 60 (0, 0)) :: Blk g4 (.cells #[.bool false] 4 (0, 0)) :: Blk g3 (.cells #[.int .i64 stop0] 3 (0, 0)) :: Blk D1 (.deferred (some [])) :: Blk D2 (.deferred (some [])) :: [])
        (fun c pre => [pur False]) (fun xs => xs = pts) (fun pre => pre <+: pts) ?startCB (fun J Jx hJ => pts_iter2 R1.out HSZ.out (fun pre => by obtain ⟨X, hX⟩ := hJ pre; exact ⟨_, hX.trans (List.perm_middle.trans (List.perm_middle.cons _))⟩)) ?FrCB (fun gp x => emp) ?assignCB ?bodyCB ?doneCB ?stopCB
      case startCB => exact HF
      case assignCB =>
        intro l D r pre x W2 K hsp HA hK
        dsimp only [encP]
        gi_wp2
        obtain ⟨gp, _⟩ : ∃ gp : Nat, gp = 0 := ⟨0, rfl⟩
        exact hK gp _ HA.addEmp
      case bodyCB =>
        rintro l D r pre x gp W2 hsp HA
        have hlen : pre.length + 1 ≤ pts.length := by
          have h1 := hsp.length_le
          rw [List.length_append] at h1
          exact h1
        have hx : pts[pre.length]? = some x := by
          obtain ⟨t, ht⟩ := hsp
          rw [← ht, List.append_assoc, List.getElem?_append_right (Nat.le_refl _), Nat.sub_self]
          rfl
        have hfl : FL.length = 2 * pts.length := by rw [← HFl.out, flatP_len]
        have hszz := HSZ.out
        have hc1 := flatP_h hx
        have hc2 := flatP_s hx
        rw [HFl.out] at hc1 hc2
        obtain ⟨xh, xs, xn⟩ := x
        (try dsimp only at hc1 hc2)
        obtain ⟨m, hm⟩ : ∃ m, pre.length = m := ⟨_, rfl⟩
        rw [hm] at hlen hc1 hc2 HA
        obtain ⟨hw1, hw2, hw3, ge0, ge1, hge⟩ := el_facts hlen hfl hszz
        obtain ⟨e0, he0⟩ : ∃ e, 2 * m = e := ⟨_, rfl⟩
        obtain ⟨e1, he1⟩ : ∃ e, 2 * m + 1 = e := ⟨_, rfl⟩
        obtain ⟨m1, hm1⟩ : ∃ k, m + 1 = k := ⟨_, rfl⟩
        have HM := Lib.hid (show (pre ++ [(⟨xh, xs, xn⟩ : Pt)]).length = m1 by rw [List.length_append, hm]; exact hm1)
        rw [he1] at hc2 hw2 ge1 hge
        rw [he0] at hc1 hw1 hw2 ge0
        rw [hm1] at hw3
        have HC1 := Lib.hid hc1
        have HC2 := Lib.hid hc2
        clear hx hc1 hc2 hlen hfl hszz hm he0 he1 hm1 hsp
        have HB := HA.sel 13 [7, 6, 5, 0, 1, 2, 3, 4, 8, 9, 10, 11, 12]
        clear HA HF
        replace HB : At W (Blk g9 (.cells #[.int .i64 ((m : Nat) : Int)] 3 (0, 0)) :: Blk g6 (.cells #[.slice (blkA gl) FL.length c9] 27 (0, 0)) :: OI (.slice (blkA gl) FL.length c9) FL :: emp :: Blk l (.loop r) :: Blk D (.deferred (some [])) :: Arg W :: Blk gb (.cells #[.pointer (some ⟨ga, 0, none⟩)] 23 (0, 0)) :: Blk g5 (.cells #[.func (.func 48) #[] #[.pointer (some ⟨gb, 0, none⟩)]] 60 (0, 0)) :: Blk g4 (.cells #[.bool false] 4 (0, 0)) :: Blk g3 (.cells #[.int .i64 stop0] 3 (0, 0)) :: Blk D1 (.deferred (some [])) :: Blk D2 (.deferred (some [])) :: []) W2 := HB
        gi_wp2_with (first | ((refine in_step rfl ?_); (with_reducible refine k_load ?_); (first | refine st_load1 rfl _ _ rfl _ rfl rfl (own_cell0 (HB.pick 2 rfl) HC1.out) ?_ | refine st_load1 rfl _ _ rfl _ rfl rfl (own_cell0 (HB.pick 2 rfl) HC2.out) ?_); (intro K hK; go_simp; refine hK _ _ ?_; clear hK K; show wpListIn _ _ _ _ _ _ _ _)) | ((refine in_step rfl ?_); (with_reducible refine k_load ?_); (first | refine st_load rfl _ _ rfl _ _ rfl ?_ HB 0 rfl rfl ?_ | refine st_load rfl _ _ rfl _ _ rfl ?_ HB 1 rfl rfl ?_); (kernel_rfl); (intro K hK; go_simp; refine hK _ _ ?_; clear hK K; show wpListIn _ _ _ _ _ _ _ _)) | ((refine in_step rfl ?_); (with_reducible refine k_store ?_); refine st_store rfl _ _ _ rfl _ _ rfl _ rfl rfl ?_ HB 0 rfl ?_ ?_; (kernel_rfl); (simp); (clear HB; intro w HB K hK; simp only [List.set_cons_zero, List.set_cons_succ, List.setIfInBounds_toArray, Act.eval, Value.cells, Array.getD_eq_getD_getElem?, List.getElem?_toArray, List.getElem?_cons_succ, List.getElem?_cons_zero, Option.getD_some] at HB; go_simp; refine hK _ _ ?_; clear hK K; show wpListIn _ _ _ _ _ _ _ _)))
        have HC := HB.sel 13 [4, 5, 6, 7, 2, 1, 0, 8, 9, 10, 11, 12]
        rw [hw3, ← HM.out] at HC
        exact HC
      case stopCB =>
        rintro D c pre W3 hsp HA
        exact (At.unpure (HA.pick 1 rfl)).1.elim
      case doneCB =>
        rename_i K0 hK0
        intro D3 xs W3 hxs HA
        rw [hxs] at HA
        clear HF hxs
        refine hK0 _ _ ?_
        clear hK0 K0
        have hw8 := fl_fact (show FL.length = 2 * pts.length by rw [← HFl.out, flatP_len]) HSZ.out
        have hgt : (0 : Int) < ((pts.length : Nat) : Int) := Int.ofNat_lt.2 HPO.out
        have HF := HA
        clear HA
        refine wpIn_wide.2 ?_
        go_wp2_with (first | ((with_reducible refine k_load ?_); (first | refine st_load rfl _ _ rfl _ _ rfl ?_ HF 4 rfl rfl ?_ | refine st_load rfl _ _ rfl _ _ rfl ?_ HF 5 rfl rfl ?_); (kernel_rfl); (intro K hK; go_simp)) | ((with_reducible refine k_store ?_); refine st_store rfl _ _ _ rfl _ _ rfl _ rfl rfl ?_ HF 7 rfl ?_ ?_; (kernel_rfl); (simp); (clear HF; intro w HF K hK; simp only [List.set_cons_zero, List.set_cons_succ, List.setIfInBounds_toArray, Act.eval, Value.cells, Array.getD_eq_getD_getElem?, List.getElem?_toArray, List.getElem?_cons_succ, List.getElem?_cons_zero, Option.getD_some] at HF; go_simp)))
        have HB := HF.sel 11 [0, 10, 9, 7, 1]
        refine ⟨by simp, .inl ⟨_, _, rfl, run_takeDeferred HB.get0, ?_⟩⟩
        have HB2 := (At.putObj0 (o' := .deferred none) HB).drop
        refine ⟨by simp, .inl ⟨_, _, rfl, run_takeDeferred HB2.get0, ?_⟩⟩
        have HB3 := (At.putObj0 (o' := .deferred none) HB2).drop
        refine ⟨by simp, .inl ⟨_, _, rfl, run_takeDeferred HB3.get0, ?_⟩⟩
        have HC := (At.putObj0 (o' := .deferred none) HB3).drop
        exact ⟨_, results_one rfl rfl (by kernel_rfl) (HC.get 0 rfl) rfl, (by have hp9 := HPO.out; simp [hp9]), (HC.sel 2 [1]).lift0 H0.out⟩
    case doneB =>
      rename_i K0 hK0
      intro D2 xs W2 hxs HA
      rw [hxs] at HA
      clear HF hxs
      refine hK0 _ _ ?_
      clear hK0 K0
      have HF := HA.sel 10 [5, 3, 4, 1, 2, 6, 7, 8, 9, 0]
      clear HA
      obtain ⟨nv, hnv⟩ : ∃ nv : Int, ((pts.length : Nat) : Int) = nv := ⟨_, rfl⟩
      replace HF : At W (Blk g9 (.cells #[.int .i64 nv] 3 (0, 0)) :: OI (.slice (blkA gl) FL.length c9) FL :: Blk g6 (.cells #[.slice (blkA gl) FL.length c9] 27 (0, 0)) :: Arg W :: Blk gb (.cells #[.pointer (some ⟨ga, 0, none⟩)] 23 (0, 0)) :: Blk g5 (.cells #[.func (.func 48) #[] #[.pointer (some ⟨gb, 0, none⟩)]] 60 (0, 0)) :: Blk g4 (.cells #[.bool false] 4 (0, 0)) :: Blk g3 (.cells #[.int .i64 stop0] 3 (0, 0)) :: Blk D1 (.deferred (some [])) :: Blk D2 (.deferred (some [])) :: []) W2 := by rw [← hnv]; exact HF
      clear hnv
      gi_wp2_with (first | ((refine in_step rfl ?_); (with_reducible refine k_store ?_); refine st_store rfl _ _ _ rfl _ _ rfl _ rfl rfl ?_ HF 0 rfl ?_ ?_; (kernel_rfl); (simp); (clear HF; intro w HF K hK; simp only [List.set_cons_zero, List.set_cons_succ, List.setIfInBounds_toArray, Act.eval, Value.cells, Array.getD_eq_getD_getElem?, List.getElem?_toArray, List.getElem?_cons_succ, List.getElem?_cons_zero, Option.getD_some] at HF; go_simp; refine hK _ _ ?_; clear hK K; show wpListIn _ _ _ _ _ _ _ _)) | ((refine in_step rfl ?_); (with_reducible refine k_load ?_); refine st_load rfl _ _ rfl _ _ rfl ?_ HF 5 rfl rfl ?_; (kernel_rfl); (intro K hK; go_simp; refine hK _ _ ?_; clear hK K; show wpListIn _ _ _ _ _ _ _ _)))
      replace HF : At W (Arg W :: Blk gb (.cells #[.pointer (some ⟨ga, 0, none⟩)] 23 (0, 0)) :: OI (.slice (blkA gl) FL.length c9) FL :: Blk g6 (.cells #[.slice (blkA gl) FL.length c9] 27 (0, 0)) :: Blk g9 (.cells #[.int .i64 ((0 : Nat) : Int)] 3 (0, 0)) :: Blk g5 (.cells #[.func (.func 48) #[] #[.pointer (some ⟨gb, 0, none⟩)]] 60 (0, 0)) :: Blk g4 (.cells #[.bool false] 4 (0, 0)) :: Blk g3 (.cells #[.int .i64 stop0] 3 (0, 0)) :: Blk D1 (.deferred (some [])) :: Blk D2 (.deferred (some [])) :: []) _ := HF.sel 10 [3, 4, 1, 2, 0, 5, 6, 7, 8, 9]
      refine range_at1 (w0 := W) (gf := 48) (lb := #[.pointer (some ⟨gb, 0, none⟩)]) rfl (enters_of Try.func48 (by kernel_rfl) rfl) (encs := encP) (fun _ => rfl)
        (fun _ => [])
        (fun pre => Arg W :: Blk gb (.cells #[.pointer (some ⟨ga, 0, none⟩)] 23 (0, 0)) :: OI (.slice (blkA gl) FL.length c9) FL :: Blk g6 (.cells #[.slice (blkA gl) FL.length c9] 27 (0, 0)) :: Blk g9 (.cells #[.int .i64 ((pre.length : Nat) : Int)] 3 (0, 0)) :: Blk g5 (.cells #[.func (.func 48) #[] #[.pointer (some ⟨gb, 0, none⟩)]] 60 (0, 0)) :: Blk g4 (.cells #[.bool false] 4 (0, 0)) :: Blk g3 (.cells #[.int .i64 stop0] 3 (0, 0)) :: Blk D1 (.deferred (some [])) :: Blk D2 (.deferred (some [])) :: [])
        (fun c pre => [pur False]) (fun xs => xs = pts) (fun pre => pre <+: pts) ?startCA (fun J Jx hJ => pts_iter2 R1.out HSZ.out (fun pre => by obtain ⟨X, hX⟩ := hJ pre; exact ⟨_, hX.trans (List.perm_middle.trans (List.perm_middle.cons _))⟩)) ?FrCA (fun gp x => emp) ?assignCA ?bodyCA ?doneCA ?stopCA
      case startCA => exact HF
      case assignCA =>
        intro l D r pre x W2 K hsp HA hK
        dsimp only [encP]
        gi_wp2
        obtain ⟨gp, _⟩ : ∃ gp : Nat, gp = 0 := ⟨0, rfl⟩
        exact hK gp _ HA.addEmp
      case bodyCA =>
        rintro l D r pre x gp W2 hsp HA
        have hlen : pre.length + 1 ≤ pts.length := by
          have h1 := hsp.length_le
          rw [List.length_append] at h1
          exact h1
        have hx : pts[pre.length]? = some x := by
          obtain ⟨t, ht⟩ := hsp
          rw [← ht, List.append_assoc, List.getElem?_append_right (Nat.le_refl _), Nat.sub_self]
          rfl
        have hfl : FL.length = 2 * pts.length := by rw [← HFl.out, flatP_len]
        have hszz := HSZ.out
        have hc1 := flatP_h hx
        have hc2 := flatP_s hx
        rw [HFl.out] at hc1 hc2
        obtain ⟨xh, xs, xn⟩ := x
        (try dsimp only at hc1 hc2)
        obtain ⟨m, hm⟩ : ∃ m, pre.length = m := ⟨_, rfl⟩
        rw [hm] at hlen hc1 hc2 HA
        obtain ⟨hw1, hw2, hw3, ge0, ge1, hge⟩ := el_facts hlen hfl hszz
        obtain ⟨e0, he0⟩ : ∃ e, 2 * m = e := ⟨_, rfl⟩
        obtain ⟨e1, he1⟩ : ∃ e, 2 * m + 1 = e := ⟨_, rfl⟩
        obtain ⟨m1, hm1⟩ : ∃ k, m + 1 = k := ⟨_, rfl⟩
        have HM := Lib.hid (show (pre ++ [(⟨xh, xs, xn⟩ : Pt)]).length = m1 by rw [List.length_append, hm]; exact hm1)
        rw [he1] at hc2 hw2 ge1 hge
        rw [he0] at hc1 hw1 hw2 ge0
        rw [hm1] at hw3
        have HC1 := Lib.hid hc1
        have HC2 := Lib.hid hc2
        clear hx hc1 hc2 hlen hfl hszz hm he0 he1 hm1 hsp
        have HB := HA.sel 13 [7, 6, 5, 0, 1, 2, 3, 4, 8, 9, 10, 11, 12]
        clear HA HF
        replace HB : At W (Blk g9 (.cells #[.int .i64 ((m : Nat) : Int)] 3 (0, 0)) :: Blk g6 (.cells #[.slice (blkA gl) FL.length c9] 27 (0, 0)) :: OI (.slice (blkA gl) FL.length c9) FL :: emp :: Blk l (.loop r) :: Blk D (.deferred (some [])) :: Arg W :: Blk gb (.cells #[.pointer (some ⟨ga, 0, none⟩)] 23 (0, 0)) :: Blk g5 (.cells #[.func (.func 48) #[] #[.pointer (some ⟨gb, 0, none⟩)]] 60 (0, 0)) :: Blk g4 (.cells #[.bool false] 4 (0, 0)) :: Blk g3 (.cells #[.int .i64 stop0] 3 (0, 0)) :: Blk D1 (.deferred (some [])) :: Blk D2 (.deferred (some [])) :: []) W2 := HB
        gi_wp2_with (first | ((refine in_step rfl ?_); (with_reducible refine k_load ?_); (first | refine st_load1 rfl _ _ rfl _ rfl rfl (own_cell0 (HB.pick 2 rfl) HC1.out) ?_ | refine st_load1 rfl _ _ rfl _ rfl rfl (own_cell0 (HB.pick 2 rfl) HC2.out) ?_); (intro K hK; go_simp; refine hK _ _ ?_; clear hK K; show wpListIn _ _ _ _ _ _ _ _)) | ((refine in_step rfl ?_); (with_reducible refine k_load ?_); (first | refine st_load rfl _ _ rfl _ _ rfl ?_ HB 0 rfl rfl ?_ | refine st_load rfl _ _ rfl _ _ rfl ?_ HB 1 rfl rfl ?_); (kernel_rfl); (intro K hK; go_simp; refine hK _ _ ?_; clear hK K; show wpListIn _ _ _ _ _ _ _ _)) | ((refine in_step rfl ?_); (with_reducible refine k_store ?_); refine st_store rfl _ _ _ rfl _ _ rfl _ rfl rfl ?_ HB 0 rfl ?_ ?_; (kernel_rfl); (simp); (clear HB; intro w HB K hK; simp only [List.set_cons_zero, List.set_cons_succ, List.setIfInBounds_toArray, Act.eval, Value.cells, Array.getD_eq_getD_getElem?, List.getElem?_toArray, List.getElem?_cons_succ, List.getElem?_cons_zero, Option.getD_some] at HB; go_simp; refine hK _ _ ?_; clear hK K; show wpListIn _ _ _ _ _ _ _ _)))
        have HC := HB.sel 13 [4, 5, 6, 7, 2, 1, 0, 8, 9, 10, 11, 12]
        rw [hw3, ← HM.out] at HC
        exact HC
      case stopCA =>
        rintro D c pre W3 hsp HA
        exact (At.unpure (HA.pick 1 rfl)).1.elim
      case doneCA =>
        rename_i K0 hK0
        intro D3 xs W3 hxs HA
        rw [hxs] at HA
        clear HF hxs
        refine hK0 _ _ ?_
        clear hK0 K0
        have hw8 := fl_fact (show FL.length = 2 * pts.length by rw [← HFl.out, flatP_len]) HSZ.out
        have hgt : (0 : Int) < ((pts.length : Nat) : Int) := Int.ofNat_lt.2 HPO.out
        have HF := HA
        clear HA
        refine wpIn_wide.2 ?_
        go_wp2_with (first | ((with_reducible refine k_load ?_); (first | refine st_load rfl _ _ rfl _ _ rfl ?_ HF 4 rfl rfl ?_ | refine st_load rfl _ _ rfl _ _ rfl ?_ HF 5 rfl rfl ?_); (kernel_rfl); (intro K hK; go_simp)) | ((with_reducible refine k_store ?_); refine st_store rfl _ _ _ rfl _ _ rfl _ rfl rfl ?_ HF 7 rfl ?_ ?_; (kernel_rfl); (simp); (clear HF; intro w HF K hK; simp only [List.set_cons_zero, List.set_cons_succ, List.setIfInBounds_toArray, Act.eval, Value.cells, Array.getD_eq_getD_getElem?, List.getElem?_toArray, List.getElem?_cons_succ, List.getElem?_cons_zero, Option.getD_some] at HF; go_simp)))
        have HB := HF.sel 11 [0, 10, 9, 7, 1]
        refine ⟨by simp, .inl ⟨_, _, rfl, run_takeDeferred HB.get0, ?_⟩⟩
        have HB2 := (At.putObj0 (o' := .deferred none) HB).drop
        refine ⟨by simp, .inl ⟨_, _, rfl, run_takeDeferred HB2.get0, ?_⟩⟩
        have HB3 := (At.putObj0 (o' := .deferred none) HB2).drop
        refine ⟨by simp, .inl ⟨_, _, rfl, run_takeDeferred HB3.get0, ?_⟩⟩
        have HC := (At.putObj0 (o' := .deferred none) HB3).drop
        exact ⟨_, results_one rfl rfl (by kernel_rfl) (HC.get 0 rfl) rfl, (by have hp9 := HPO.out; simp [hp9]), (HC.sel 2 [1]).lift0 H0.out⟩
end
end Rg
end Go.Proofs.Ytohfboolicheeaa
