/-
  The sequence of a ring's points; the law's points.
-/
import Derived.Test.YtohfboolicheeaaRgArgs
import Derived.Test.YtohfboolicheeaaRgShare
import Derived.Test.YtohfboolicheeaaRegIn
import Derived.LoopIn
import Derived.OwnWalkIn
import Derived.Shelf.Abstract
namespace Go.Proofs.Ytohfboolicheeaa
open Go.Hp Go.RowKit
set_option linter.unusedVariables false
set_option linter.unusedSimpArgs false
set_option maxRecDepth 100000
set_option maxHeartbeats 2000000
attribute [local go_sem] Oper.semAt_some
namespace Rg

/-- range over a function, where a round begins in a known frame. -/
theorem range_at1 {α : Type} {P : Program} {g : Operand} {ps : Array Tmp} {assign body : Code} {Q : Exit → Act → World → Prop} {a : Act} {w w0 : World}
    {gf : Nat} {lb : Array Value} (hg : a.eval g = .func (.func gf) #[] lb) (eg : ∀ args w, (callFunc gf args).run P w = .ok (.enter gf args) w) {encs : α → Array Value} (hps : ∀ x, (encs x).size = ps.size)
    (F I : List α → List HProp) (Ix : Code → List α → List HProp) (S Sp : List α → Prop) (H : At w0 (F [] ++ I []) w)
    (hseq : ∀ (J Jx : List α → List HProp), (∀ pre, ∃ X, (J pre).Perm (X ++ I pre)) → IterAt P gf lb encs w0 F J Jx S Sp) (Fr : Nat → α → Act) (Bx : Nat → α → HProp)
    (hassign : ∀ (l D : Nat) (r : Loop) (pre : List α) (x : α) (W : World) (K : Act → World → Prop), Sp (pre ++ [x]) → At w0 (Blk l (.loop r) :: Blk D (.deferred (some [])) :: (F pre ++ I pre)) W →
      (∀ gp W', At w0 (Bx gp x :: (Blk l (.loop r) :: Blk D (.deferred (some [])) :: (F pre ++ I pre))) W' → K (Fr gp x) W') →
      assign.wpIn (wideAt (some l)) 9 P (Exit.then K (fun _ _ _ => False)) { tmps := (ps.zip (encs x)).foldl (fun t (p, v) => t.setIfInBounds p v) a.tmps, defers := [] } W)
    (hbody : ∀ (l D : Nat) (r : Loop) (pre : List α) (x : α) (gp : Nat) (W : World), Sp (pre ++ [x]) → At w0 (Bx gp x :: (Blk l (.loop r) :: Blk D (.deferred (some [])) :: (F pre ++ I pre))) W →
      body.wpIn (wideAt (some l)) 9 P (roundAt w0 (Blk l (.loop r) :: Blk D (.deferred (some [])) :: F pre) I Ix (pre ++ [x])) (Fr gp x) W)
    (hdone : ∀ (D : Nat) (xs : List α) (W : World), S xs → At w0 (Blk D (.deferred (some [])) :: I xs) W → Q .normal { a with defers := { target := .collected D, args := #[] } :: a.defers } W)
    (hstop : ∀ (D : Nat) (c : Code) (pre : List α) (W : World), Sp pre → At w0 (Blk D (.deferred (some [])) :: Ix c pre) W → c.wpIn (wideAt none) 9 P Q { a with defers := { target := .collected D, args := #[] } :: a.defers } W) :
    (Code.rangeFunc g ps assign body).wpIn (wideAt none) 9 P Q a w := by
  refine wp_rangeFunc_at hg eg hps F I Ix S Sp H hseq (fun x a' => [fun hp => ∃ gp, a' = Fr gp x ∧ Bx gp x hp]) ?_ ?_ hdone hstop
  · intro l D r pre x W K hs HA hK
    exact hassign l D r pre x W K hs HA fun gp W' HA' => hK _ _ (At.imp HA' fun _ hh => ⟨gp, rfl, hh⟩)
  · intro l D r pre x a' W hs HA
    obtain ⟨gp, HA1⟩ := At.ex HA
    obtain ⟨rfl, HA2⟩ := At.and HA1
    exact hbody l D r pre x gp W hs HA2

abbrev ptA (g : Nat) : Option Addr := some ⟨g, 0, none⟩
abbrev ptB (g : Nat) : Option Addr := some ⟨g, 6, none⟩
abbrev ptC (b : Addr) (m : Nat) : Option Addr := some (b.add (m * 3))
abbrev ptD (b : Addr) (m : Nat) : Option Addr := some ((b.add (m * 3)).add 1)
theorem results_one {P : Program} {fn : Func} {p : Tmp} {ty : TypeId} (h : fn.results = #[.cell p ty]) {tmps : Array Value} {w : World} {g : Nat} {t : TypeId} {cs : Array Value} {fr : Nat × Nat} {v : Value}
    (hp : tmps.getD p undef = .pointer (some ⟨g, 0, none⟩)) (hT : plainT P ty = true) (hg : w.heap[g]? = some (.cells cs t fr)) (hc : cs[0]? = some v) :
    (results fn tmps).run P w = .ok v w := by
  have hr := run_loadVar_cell (P := P) (off := 0) hT hg hc
  have hp' : tmps[p]?.getD undef = .pointer (some ⟨g, 0, none⟩) := by simpa using hp
  simp [results, h, hp', asAddr, hr]
def encP (p : Pt) : Array Value := #[.int .i64 p.h, .int .i64 p.s]
theorem pre_of_take {α : Type} {l : List α} {k : Nat} {x : α} (h : l[k]? = some x) : l.take k ++ [x] <+: l := by
  have e : l.take k ++ [x] = l.take (k + 1) := by rw [List.take_add_one, h]; rfl
  rw [e]
  exact List.take_prefix _ _

section
variable {w0 w : World} {L : List HProp}

theorem ext_J {W w : World} {A : HProp} {M : List HProp} (H : At W (A :: M) w) (h : ∃ N, M.Perm (Arg W :: N)) : Ext W w := by
  obtain ⟨N, p⟩ := h
  exact ((H.drop).perm p).ext 0 rfl
set_option maxHeartbeats 4000000 in
/-- The ring stands in W: its points come in turn. -/
theorem pts_iter {W : World} {v : Value} {c : Cf} {S : List Int} {pts : List Pt} {gb : Nat} {J Jx : List Pt → List HProp} (hr : RgF 84 W v c S pts) (hsz : pts.length ≤ 100000) (hJ : ∀ pre, ∃ M, (J pre).Perm (Arg W :: M)) :
    IterAt Try.prog 48 #[.pointer (some ⟨gb, 0, none⟩)] encP W (fun _ => [Blk gb (.cells #[v] 23 (0, 0))]) J Jx (fun xs => xs = pts) (fun pre => pre <+: pts) := by
  intro n W1 hY H
  obtain ⟨g, s1, s2, s3, p1, p2, p3, rfl, hg, hS, hp⟩ := hr
  have Hg := Lib.hid (fun (w2 : World) (hx : Ext W w2) => hx.cell (show W.cell? ⟨g, 6, none⟩ = some (.slice p1 p2 p3) from by
    have := cells_of hg 6 (.slice p1 p2 p3) rfl
    rwa [Addr.add_lit, Nat.zero_add] at this))
  obtain ⟨ad, cap, hv, c1, c2, c3⟩ := hp.value
  cases hv
  rw [List.length_map] at c1 c3 hp Hg
  have HV := Lib.hid hp
  have C3 := Lib.hid c3
  replace H : At W (Blk gb (.cells #[.pointer (some ⟨g, 0, none⟩)] 23 (0, 0)) :: J []) W1 := H
  clear hp hS hg c3 c1 c2
  have HJ := Lib.hid hJ
  have HY := Lib.hid hY
  clear hJ
  clear hY
  refine calls_of_in (r := none) (n := 9) ?_
  refine callsIn_of_wp Try.func48 rfl trivial ?_ rfl
  simp only [Try.ntmps48, List.size_toArray, List.length_cons, List.length_nil, Nat.reduceAdd, Nat.reduceSub, Array.replicate_succ, Array.replicate_zero, List.push_toArray, List.append_toArray, List.nil_append, List.cons_append]
  gi_wp2_with (first | ((refine in_step rfl ?_); (with_reducible refine k_load (T := 23) ?_); refine st_load rfl _ _ rfl _ _ rfl ?_ H 0 rfl (v := .pointer (some ⟨g, 0, none⟩)) rfl ?_; (kernel_rfl); (intro K hK; go_simp; refine hK _ _ ?_; clear hK K; show wpListIn _ _ _ _ _ _ _ _))      | ((refine in_step rfl ?_); (with_reducible refine k_load ?_); refine st_load1 rfl _ _ rfl _ rfl rfl (Hg.out _ (ext_J H (HJ.out _))) ?_; (intro K hK; go_simp; refine hK _ _ ?_; clear hK K; show wpListIn _ _ _ _ _ _ _ _)))
  gi_loopw [10] (fun i wr => ∃ k : Nat, k ≤ pts.length ∧ i = .int .i64 k ∧ At W (Blk gb (.cells #[.pointer (some ⟨g, 0, none⟩)] 23 (0, 0)) :: J (pts.take k)) wr) (fun i _ => pts.length - (intOf i).toNat)
  case atStart => exact ⟨0, Nat.zero_le _, rfl, H⟩
  case round =>
    clear H
    obtain ⟨k, hk, rfl, H⟩ := hrel
    by_cases hlt : k < pts.length
    · have g1 : (k : Int) < pts.length := by omega
      obtain ⟨x, hx⟩ : ∃ x, pts[k]? = some x := ⟨_, List.getElem?_eq_getElem hlt⟩
      obtain ⟨b, rfl⟩ := C3.out (by omega)
      have Hc := Lib.hid (fun (w2 : World) (hxx : Ext W w2) i u hi => hxx.cell (recs_get HV.out hx i u hi))
      have Ht := Lib.hid (pre_of_take hx)
      have Hk := Lib.hid (show pts.take k ++ [x] = pts.take (k + 1) by rw [List.take_add_one, hx]; rfl)
      clear hx
      obtain ⟨xh, xs, xn⟩ := x
      gi_wp2_with (first | ((refine in_step rfl ?_); (with_reducible refine k_load (T := 87) ?_); (first | refine st_loadCells rfl _ _ rfl _ rfl a87 [.int .i64 xh, .int .i64 xs, .int .i64 xn] s87 (Hc.out _ (ext_J H (HJ.out _))) ?_); (intro K hK; go_simp; refine hK _ _ ?_; clear hK K; show wpListIn _ _ _ _ _ _ _ _))          | ((refine in_step rfl ?_); (with_reducible refine k_alloc ?_); refine st_alloc rfl _ rfl _ z87 _ rfl H ?_; (clear H; intro g5 w2 H K hK; simp only [Value.cells] at H; go_simp; refine hK _ _ ?_; clear hK K; show wpListIn _ _ _ _ _ _ _ _))          | ((refine in_step rfl ?_); (with_reducible refine k_store ?_); refine st_put rfl _ _ _ rfl _ rfl _ rfl ?_ s87 H 0 rfl rfl ?_; (simp [Value.oneCell']); (clear H; intro w3 H K hK; simp only [List.set_cons_zero] at H; obtain ⟨fn, tmps, assign, body, hy, hR⟩ := HY.out (pts.take k) ⟨xh, xs, xn⟩ w3 Ht.out H.drop; dsimp only [encP] at hy; go_simp; refine hK _ _ ?_; clear hK K; show wpListIn _ _ _ _ _ _ _ _))          | ((refine in_step rfl ?_); (with_reducible refine k_load (T := 3) ?_); (first | refine st_load rfl _ _ rfl _ _ rfl ?_ H 0 rfl (v := .int .i64 xh) rfl ?_ | refine st_load rfl _ _ rfl _ _ rfl ?_ H 0 rfl (v := .int .i64 xs) rfl ?_); (kernel_rfl); (intro K hK; go_simp; refine hK _ _ ?_; clear hK K; show wpListIn _ _ _ _ _ _ _ _)))
      refine (round_any hR).mono ?_
      rintro e W3 (⟨rfl, H3⟩ | ⟨rfl, H3⟩)
      · clear hR hy H
        gi_wp2
        go_roundw
        case rel => exact ⟨k + 1, by omega, by simp, by rw [← Hk.out]; exact H3⟩
        case measure => simp [intOf]; omega
      · clear hR hy H
        gi_wp2
        refine bodyPost_ret (results_none rfl _ _ _) rfl ?_
        exact ⟨⟨_, rfl⟩, Or.inr ⟨_, Ht.out, At.drop H3⟩⟩
    · have g1 : ¬ (k : Int) < pts.length := by omega
      gi_wp2
      go_end0
      have e2 : pts.take k = pts := List.take_of_length_le (by omega)
      rw [e2] at H
      refine ⟨⟨_, rfl⟩, Or.inl (At.drop H)⟩

set_option maxHeartbeats 4000000 in
theorem pointsL {v1 v2 : Value} {c : Cf} {S : List Int} {pts : List Pt} (hr1 : RgF 84 w v1 c S pts) (hr2 : RgF 45 w v2 c S pts) (hsz : pts.length ≤ 100000) (H : At w0 L w) :
    Calls Try.prog 14 #[v1, v2] w (Ret w0 (.bool true) L) := by
  obtain ⟨W, rfl⟩ : ∃ W : World, W = w := ⟨_, rfl⟩
  have HF := At.of W
  have H0 := Lib.hid H
  have R1 := Lib.hid hr1
  obtain ⟨ga, _, _, _, _, _, _, rfl, _⟩ := hr1
  obtain ⟨g, s1, s2, s3, p1, p2, p3, rfl, hg, hS, hp⟩ := hr2
  have Hg := Lib.hid (fun (w2 : World) (hx : Ext W w2) => hx.cell (show W.cell? ⟨g, 6, none⟩ = some (.slice p1 p2 p3) from by
    have := cells_of hg 6 (.slice p1 p2 p3) rfl
    rwa [Addr.add_lit, Nat.zero_add] at this))
  obtain ⟨ad, cap, hv, c1, c2, c3⟩ := hp.value
  cases hv
  rw [List.length_map] at c1 c3 hp Hg
  have HV := Lib.hid hp
  have C3 := Lib.hid c3
  clear hp hS hg c3 c1 c2 H
  have tok : True := trivial
  refine calls_of_marks Try.func14 rfl ?_
  simp only [Try.ntmps14, List.size_toArray, List.length_cons, List.length_nil, Nat.reduceAdd, Nat.reduceSub, Array.replicate_succ, Array.replicate_zero, List.push_toArray, List.append_toArray, List.nil_append, List.cons_append]
  gi_wp2_with (first | ((refine in_step rfl ?_); (with_reducible refine k_box ?_); refine st_box rfl _ _ rfl _ rfl HF ?_; (clear HF; intro g3 w1 HF K hK; simp only [Value.cells, Act.eval, Value.cells, Array.getD_eq_getD_getElem?, List.getElem?_toArray, List.getElem?_cons_succ, List.getElem?_cons_zero, Option.getD_some] at HF; go_simp; refine hK _ _ ?_; clear hK K; show wpListIn _ _ _ _ _ _ _ _))      | ((refine in_step rfl ?_); (with_reducible refine k_alloc ?_); refine st_alloc rfl _ rfl (.bool false) ?_ #[.bool false] rfl HF ?_; (kernel_rfl); (clear HF; intro g4 w2 HF K hK; go_simp; refine hK _ _ ?_; clear hK K; show wpListIn _ _ _ _ _ _ _ _)))
  refine ⟨trivial, (calls_in (points0 HF _)).mono ?_⟩
  rintro e w2 ⟨gb, rfl, HX⟩
  clear HF
  have HF := HX
  clear HX
  have hnf : ∀ w : World, (binOp .eql 60 (.func (.func 48) #[] #[.pointer (some ⟨gb, 0, none⟩)]) .nilFunc).run Try.prog w = .ok (.bool false) w := fun w => rfl
  gi_wp2_with (first | ((refine in_step rfl ?_); (with_reducible refine k_alloc ?_); refine st_alloc rfl _ rfl (.int .i64 0) ?_ #[.int .i64 0] rfl HF ?_; (kernel_rfl); (clear HF; intro g6 w2 HF K hK; go_simp; refine hK _ _ ?_; clear hK K; show wpListIn _ _ _ _ _ _ _ _))      | ((refine in_step rfl ?_); (with_reducible refine k_store ?_); refine st_store rfl _ _ _ rfl _ _ rfl _ rfl rfl ?_ HF 0 rfl ?_ ?_; (kernel_rfl); (simp); (clear HF; intro W3 HF K hK; simp only [List.set_cons_zero, List.set_cons_succ, List.setIfInBounds_toArray, Act.eval, Value.cells, Array.getD_eq_getD_getElem?, List.getElem?_toArray, List.getElem?_cons_succ, List.getElem?_cons_zero, Option.getD_some] at HF; go_simp; refine hK _ _ ?_; clear hK K; show wpListIn _ _ _ _ _ _ _ _)))
  replace HF : At W (Blk g6 (.cells #[.int .i64 0] 3 (0, 0)) :: Blk gb (.cells #[.pointer (some ⟨ga, 0, none⟩)] 23 (0, 0)) :: Blk g4 (.cells #[.bool false] 4 (0, 0)) :: Blk g3 (.cells #[.pointer (some ⟨g, 0, none⟩)] 24 (0, 0)) :: Arg W :: []) _ := HF
  refine range_at1 (w0 := W) (gf := 48) (lb := #[.pointer (some ⟨gb, 0, none⟩)]) rfl (enters_of Try.func48 (by kernel_rfl) rfl) (encs := encP) (fun _ => rfl)
    (fun _ => [Blk gb (.cells #[.pointer (some ⟨ga, 0, none⟩)] 23 (0, 0))])
    (fun pre => Blk g6 (.cells #[.int .i64 (pre.length : Nat)] 3 (0, 0)) :: Blk g4 (.cells #[.bool false] 4 (0, 0)) :: Blk g3 (.cells #[.pointer (some ⟨g, 0, none⟩)] 24 (0, 0)) :: Arg W :: [])
    (fun c pre => [pur False]) (fun xs => xs = pts) (fun pre => pre <+: pts) ?start (fun J Jx hJ => pts_iter R1.out hsz (fun pre => by obtain ⟨X, hX⟩ := hJ pre; exact ⟨_, hX.trans (List.perm_append_comm.trans (by exact (List.perm_middle (l₁ := [_, _, _]))))⟩)) ?Fr (fun gp x => emp) ?assign ?body ?done ?stop
  case start => exact HF.sel 5 [1, 0, 2, 3, 4]
  case assign =>
    intro l D r pre x W2 K hsp HA hK
    dsimp only [encP]
    gi_wp2
    obtain ⟨gp, _⟩ : ∃ gp : Nat, gp = 0 := ⟨0, rfl⟩
    exact hK gp _ HA.addEmp
  case body =>
    rintro l D r pre x gp W2 hsp HA
    have hlen : pre.length + 1 ≤ pts.length := by
      have h1 := hsp.length_le
      rw [List.length_append] at h1
      exact h1
    have hx : pts[pre.length]? = some x := by
      obtain ⟨t, ht⟩ := hsp
      rw [← ht, List.append_assoc, List.getElem?_append_right (Nat.le_refl _), Nat.sub_self]
      rfl
    obtain ⟨ba, rfl⟩ := C3.out (by omega)
    have Hpt := Lib.hid (fun (w2 : World) (hxx : Ext W w2) => (show ∀ i u, ([.int .i64 x.h, .int .i64 x.s, .int .i64 x.n] : List Value)[i]? = some u → w2.cell? ((ba.add (pre.length * 3)).add i) = some u from fun i u hi => by
      refine hxx.cell ?_
      have := recs_get HV.out hx i u hi
      rwa [Addr.add_add] at this ⊢))
    have hge : decide (pts.length ≤ pre.length) = false := decide_eq_false (by omega)
    have hge2 : decide ((pts.length : Int) ≤ pre.length) = false := decide_eq_false (by omega)
    have gk : (pre.length : Int) < pts.length := by omega
    have hgen : ¬ (pts.length : Int) ≤ pre.length := by omega
    have hw1 : wrap64 ((pre.length : Int) + 1) = pre.length + 1 := wrap64_of (by omega) (by omega)
    obtain ⟨xh, xs, xn⟩ := x
    obtain ⟨m, hm⟩ : ∃ m, pre.length = m := ⟨_, rfl⟩
    have HM := Lib.hid (show ((pre ++ [(⟨xh, xs, xn⟩ : Pt)]).length : Int) = m + 1 by rw [List.length_append, hm]; rfl)
    rw [hm] at HA Hpt hge hge2 gk hgen hw1
    dsimp only at Hpt
    have HMM := Lib.hid hm
    clear hx hlen hsp hm
    have HB := HA.sel 8 [4, 6, 7, 0, 1, 2, 3, 5]
    clear HA
    replace HB : At W (Blk g6 (.cells #[.int .i64 (m : Nat)] 3 (0, 0)) :: Blk g3 (.cells #[.pointer (some ⟨g, 0, none⟩)] 24 (0, 0)) :: Arg W :: emp :: Blk l (.loop r) :: Blk D (.deferred (some [])) :: Blk gb (.cells #[.pointer (some ⟨ga, 0, none⟩)] 23 (0, 0)) :: Blk g4 (.cells #[.bool false] 4 (0, 0)) :: []) W2 := HB
    gi_wp2_with fail
    apply wpIn_region_eff [] (fun i => (#[[], [], [], [], [], [], [], [], [], [], [], [], [], [], [], [], [], [], [], [], [], [], [], [], [], [], [], [], [], [], []] : Array (List Nat)).getD i []) (fun val i => ((.int .i64 (m : Nat) :: .pointer (ptA g) :: .pointer (ptA g) :: .pointer (ptB g) :: .slice (some ba) pts.length p3 :: .int .i64 pts.length :: .bool false :: .bool false :: .pointer (ptA g) :: .pointer (ptA g) :: .pointer (ptB g) :: .slice (some ba) pts.length p3 :: .int .i64 (m : Nat) :: .pointer (ptC ba m) :: .pointer (ptC ba m) :: .int .i64 xh :: .int .i64 xh :: .bool false :: .bool false :: .bool false :: .pointer (ptA g) :: .pointer (ptA g) :: .pointer (ptB g) :: .slice (some ba) pts.length p3 :: .int .i64 (m : Nat) :: .pointer (ptC ba m) :: .pointer (ptD ba m) :: .int .i64 xs :: .int .i64 xs :: .bool false :: .bool false :: []) : List Value).toArray.getD i undef) (fun E val => At W (Blk g6 (.cells #[.int .i64 (m : Nat)] 3 (0, 0)) :: Blk g3 (.cells #[.pointer (some ⟨g, 0, none⟩)] 24 (0, 0)) :: Arg W :: emp :: Blk l (.loop r) :: Blk D (.deferred (some [])) :: Blk gb (.cells #[.pointer (some ⟨ga, 0, none⟩)] 23 (0, 0)) :: Blk g4 (.cells #[.bool false] 4 (0, 0)) :: [])) (by kernel_rfl) (by kernel_rfl) (by kernel_rfl) (by kernel_rfl) (by kernel_rfl) (HB)
    case step =>
      iterate 31 (refine ⟨eff_pl rfl (fun _ => by rfl) fun E val hn T ds w K H hk ho hK => ?_, ?_⟩; rotate_left)
      exact trivial
      · have o6 := ho 6 (by kernel_rfl); clear ho; simp [know, dstAt, Region.binds] at hk o6
        (refine op_loadT rfl o6 ?_ H 0 rfl rfl ?_; (kernel_rfl); exact hK _ H)
      · have o3 := ho 3 (by kernel_rfl); clear ho; simp [know, dstAt, Region.binds] at hk o3
        (refine op_loadT rfl o3 ?_ H 1 rfl rfl ?_; (kernel_rfl); exact hK _ H)
      · clear ho; simp [know, dstAt, Region.binds] at hk; go_simp; exact hK _ H
      · clear ho; simp [know, dstAt, Region.binds] at hk; go_simp; exact hK _ H
      · clear ho; simp [know, dstAt, Region.binds] at hk
        (refine op_load1T rfl hk (by kernel_rfl) (Hg.out _ (H.ext 2 rfl)) ?_; exact hK _ H)
      · clear ho; simp [know, dstAt, Region.binds] at hk; go_simp; exact hK _ H
      · clear ho; simp [know, dstAt, Region.binds] at hk; go_simp; exact hK _ H
      · clear ho; simp [know, dstAt, Region.binds] at hk; go_simp; exact hK _ H
      · have o3 := ho 3 (by kernel_rfl); clear ho; simp [know, dstAt, Region.binds] at hk o3
        (refine op_loadT rfl o3 ?_ H 1 rfl rfl ?_; (kernel_rfl); exact hK _ H)
      · clear ho; simp [know, dstAt, Region.binds] at hk; go_simp; exact hK _ H
      · clear ho; simp [know, dstAt, Region.binds] at hk; go_simp; exact hK _ H
      · clear ho; simp [know, dstAt, Region.binds] at hk
        (refine op_load1T rfl hk.1 (by kernel_rfl) (Hg.out _ (H.ext 2 rfl)) ?_; exact hK _ H)
      · have o6 := ho 6 (by kernel_rfl); clear ho; simp [know, dstAt, Region.binds] at hk o6
        (refine op_loadT rfl o6 ?_ H 0 rfl rfl ?_; (kernel_rfl); exact hK _ H)
      · clear ho; simp [know, dstAt, Region.binds] at hk; go_simp; exact hK _ H
      · clear ho; simp [know, dstAt, Region.binds] at hk; go_simp; exact hK _ H
      · clear ho; simp [know, dstAt, Region.binds] at hk
        (refine op_load1T rfl hk.1 (by kernel_rfl) (Hpt.out _ (H.ext 2 rfl) 0 _ rfl) ?_; exact hK _ H)
      · have o7 := ho 7 (by kernel_rfl); clear ho; simp [know, dstAt, Region.binds] at hk o7; go_simp; exact hK _ H
      · clear ho; simp [know, dstAt, Region.binds] at hk; go_simp; exact hK _ H
      · clear ho; simp [know, dstAt, Region.binds] at hk; go_simp; exact hK _ H
      · clear ho; simp [know, dstAt, Region.binds] at hk; go_simp; exact hK _ H
      · have o3 := ho 3 (by kernel_rfl); clear ho; simp [know, dstAt, Region.binds] at hk o3
        (refine op_loadT rfl o3 ?_ H 1 rfl rfl ?_; (kernel_rfl); exact hK _ H)
      · clear ho; simp [know, dstAt, Region.binds] at hk; go_simp; exact hK _ H
      · clear ho; simp [know, dstAt, Region.binds] at hk; go_simp; exact hK _ H
      · clear ho; simp [know, dstAt, Region.binds] at hk
        (refine op_load1T rfl hk.1 (by kernel_rfl) (Hg.out _ (H.ext 2 rfl)) ?_; exact hK _ H)
      · have o6 := ho 6 (by kernel_rfl); clear ho; simp [know, dstAt, Region.binds] at hk o6
        (refine op_loadT rfl o6 ?_ H 0 rfl rfl ?_; (kernel_rfl); exact hK _ H)
      · clear ho; simp [know, dstAt, Region.binds] at hk; go_simp; exact hK _ H
      · clear ho; simp [know, dstAt, Region.binds] at hk; go_simp; exact hK _ H
      · clear ho; simp [know, dstAt, Region.binds] at hk
        (refine op_load1T rfl hk.1 (by kernel_rfl) (Hpt.out _ (H.ext 2 rfl) 1 _ rfl) ?_; exact hK _ H)
      · have o8 := ho 8 (by kernel_rfl); clear ho; simp [know, dstAt, Region.binds] at hk o8; go_simp; exact hK _ H
      · clear ho; simp [know, dstAt, Region.binds] at hk; go_simp; exact hK _ H
      · clear ho; simp [know, dstAt, Region.binds] at hk; go_simp; exact hK _ H
    case ins =>
      iterate 31 (refine ⟨ins_pl rfl (fun _ _ _ => rfl), ?_⟩)
      exact trivial
    case jns =>
      iterate 31 (refine ⟨j_pl (fun _ _ _ => rfl), ?_⟩)
      exact trivial
    case fin =>
      intro E val w5 hE H
      clear hE HB
      have HB := H
      clear H
      simp [putAll, Act.put]
      gi_wp2_with (first | ((refine in_step rfl ?_); (with_reducible refine k_load (T := 3) ?_); refine st_load rfl _ _ rfl _ _ rfl ?_ HB 0 rfl (v := .int .i64 (m : Nat)) rfl ?_; (kernel_rfl); (intro K hK; go_simp; refine hK _ _ ?_; clear hK K; show wpListIn _ _ _ _ _ _ _ _))          | ((refine in_step rfl ?_); (with_reducible refine k_store ?_); refine st_store rfl _ _ _ rfl _ _ rfl _ rfl rfl ?_ HB 0 rfl ?_ ?_; (kernel_rfl); (simp); (clear HB; intro W3 HB K hK; simp only [List.set_cons_zero, List.set_cons_succ, List.setIfInBounds_toArray, Act.eval, Value.cells, Array.getD_eq_getD_getElem?, List.getElem?_toArray, List.getElem?_cons_succ, List.getElem?_cons_zero, Option.getD_some] at HB; go_simp; refine hK _ _ ?_; clear hK K; show wpListIn _ _ _ _ _ _ _ _)))
      have HC := HB.sel 8 [4, 5, 6, 0, 7, 1, 2]
      rw [← HM.out] at HC
      exact HC
  case done =>
    intro D xs W2 hxs HA
    rw [hxs] at HA
    clear HF hnf tok hxs
    have HF : At W (Blk g6 (.cells #[.int .i64 (pts.length : Nat)] 3 (0, 0)) :: Blk g3 (.cells #[.pointer (some ⟨g, 0, none⟩)] 24 (0, 0)) :: Blk g4 (.cells #[.bool false] 4 (0, 0)) :: Blk D (.deferred (some [])) :: Arg W :: []) W2 := HA.sel 5 [1, 3, 2, 0, 4]
    clear HA
    rename_i K0 hK0
    refine hK0 _ _ ?_
    clear hK0 K0
    refine wpIn_wide.2 ?_
    go_wp2_with fail
    apply wp_region_eff [7] (fun i => (#[[], [], [], [], [], [], [], []] : Array (List Nat)).getD i []) (fun val i => ((.int .i64 (pts.length : Nat) :: .pointer (ptA g) :: .pointer (ptA g) :: .pointer (ptB g) :: .slice p1 pts.length p3 :: .int .i64 pts.length :: .bool true :: val 7 :: []) : List Value).toArray.getD i undef) (fun E val => At W (Blk g6 (.cells #[.int .i64 (pts.length : Nat)] 3 (0, 0)) :: Blk g3 (.cells #[.pointer (some ⟨g, 0, none⟩)] 24 (0, 0)) :: Blk g4 (.cells #[.bool (E 7)] 4 (0, 0)) :: Blk D (.deferred (some [])) :: Arg W :: [])) (by kernel_rfl) (by kernel_rfl) (by kernel_rfl) (by kernel_rfl) (HF)
    case step =>
      iterate 7 (refine ⟨eff_pl rfl (fun _ => by rfl) fun E val hn T ds w K H hk ho hK => ?_, ?_⟩; rotate_left)
      refine ⟨eff_mk rfl (fun _ => by rfl) fun E val hE0 hcl hn T ds w K H hk ho hK => ?_, ?_⟩; rotate_left
      exact trivial
      · have o6 := ho 6 (by kernel_rfl); clear ho; simp [know, dstAt, Region.binds] at hk o6
        (refine op_loadT rfl o6 ?_ H 0 rfl rfl ?_; (kernel_rfl); exact hK _ H)
      · have o3 := ho 3 (by kernel_rfl); clear ho; simp [know, dstAt, Region.binds] at hk o3
        (refine op_loadT rfl o3 ?_ H 1 rfl rfl ?_; (kernel_rfl); exact hK _ H)
      · clear ho; simp [know, dstAt, Region.binds] at hk; go_simp; exact hK _ H
      · clear ho; simp [know, dstAt, Region.binds] at hk; go_simp; exact hK _ H
      · clear ho; simp [know, dstAt, Region.binds] at hk
        (refine op_load1T rfl hk (by kernel_rfl) (Hg.out _ (H.ext 4 rfl)) ?_; exact hK _ H)
      · clear ho; simp [know, dstAt, Region.binds] at hk; go_simp; exact hK _ H
      · clear ho; simp [know, dstAt, Region.binds] at hk; go_simp; exact hK _ H
      · have o4 := ho 4 (by kernel_rfl); clear ho; simp [know, dstAt, Region.binds] at hk o4
        refine op_storeT rfl o4 hk.1 rfl ?_ H 2 rfl (by simp) ?_; (kernel_rfl); (intro w' H; refine hK _ _ ?_; have t7 : updE E 7 7 = true := rfl; simp only [t7]; exact H)
    case ins =>
      iterate 7 (refine ⟨ins_pl rfl (fun _ _ _ => rfl), ?_⟩)
      refine ⟨ins_mk rfl (fun _ => rfl), ?_⟩
      exact trivial
    case jns =>
      iterate 7 (refine ⟨j_pl (fun _ _ _ => rfl), ?_⟩)
      refine ⟨j_mk rfl, ?_⟩
      exact trivial
    case fin =>
      intro E val w5 hE H
      have e7 := hE 7 (by decide)
      rw [e7] at H
      clear hE e7 HF
      have HF := H
      clear H
      simp [putAll, Act.put]
      go_wp2_with fail
      have HB := HF.sel 5 [3, 2, 4]
      refine ⟨by simp, .inl ⟨_, _, rfl, run_takeDeferred HB.get0, ?_⟩⟩
      have HC := (At.putObj0 (o' := .deferred none) HB).drop
      exact ⟨_, results_one rfl rfl (by kernel_rfl) (HC.get 0 rfl) rfl, rfl, (HC.sel 2 [1]).lift0 H0.out⟩
  case stop =>
    rintro D c pre W hsp HA
    exact (At.unpure (HA.pick 1 rfl)).1.elim
end
end Rg
end Go.Proofs.Ytohfboolicheeaa
