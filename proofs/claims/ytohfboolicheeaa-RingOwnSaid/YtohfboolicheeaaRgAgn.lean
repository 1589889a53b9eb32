/-
  A sequence ranged over within itself; the law's again.
-/
import Derived.Test.YtohfboolicheeaaRgPts
import Derived.Test.YtohfboolicheeaaRgIts
import Derived.RangeFuncNested
namespace Go.Hp
open Go.RowKit
set_option linter.unusedVariables false
set_option linter.unusedSimpArgs false
theorem wp_rangeFunc_in {α : Type} {P : Program} {g : Operand} {ps : Array Tmp} {assign body : Code} {Q : Exit → Act → World → Prop} {a : Act} {w w0 : World}
    {gf : Nat} {lb : Array Value} {l0 : Nat} {r0 : Loop} (hl0 : w.heap[l0]? = some (.loop r0)) (hg : a.eval g = .func (.func gf) #[] lb) (eg : ∀ args w, (callFunc gf args).run P w = .ok (.enter gf args) w) {encs : α → Array Value} (hps : ∀ x, (encs x).size = ps.size)
    (F I : List α → List HProp) (Ix : Code → List α → List HProp) (S Sp : List α → Prop) (H : At w0 (F [] ++ I []) w)
    (hseq : ∀ (J Jx : List α → List HProp), (∀ pre, ∃ X, (J pre).Perm (X ++ I pre)) → IterAt P gf lb encs w0 F J Jx S Sp) (Ax : α → Act → List HProp)
    (hassign : ∀ (l : Nat) (r : Loop) (pre : List α) (x : α) (W : World) (K : Act → World → Prop), Sp (pre ++ [x]) → At w0 (Blk l (.loop r) :: (F pre ++ I pre)) W →
      (∀ a' W', At w0 (Ax x a' ++ (Blk l (.loop r) :: (F pre ++ I pre))) W' → K a' W') →
      assign.wpIn (wideAt (some l)) 9 P (Exit.then K (fun _ _ _ => False)) { tmps := (ps.zip (encs x)).foldl (fun t (p, v) => t.setIfInBounds p v) a.tmps, defers := [] } W)
    (hbody : ∀ (l : Nat) (r : Loop) (pre : List α) (x : α) (a' : Act) (W : World), Sp (pre ++ [x]) → At w0 (Ax x a' ++ (Blk l (.loop r) :: (F pre ++ I pre))) W →
      body.wpIn (wideAt (some l)) 9 P (roundAt w0 (Blk l (.loop r) :: F pre) I Ix (pre ++ [x])) a' W)
    (hdone : ∀ (xs : List α) (W : World), S xs → At w0 (I xs) W → Q .normal a W)
    (hstop : ∀ (c : Code) (pre : List α) (W : World), Sp pre → At w0 (Ix c pre) W → c.wpIn (wideAt (some l0)) 9 P Q a W) :
    (Code.rangeFunc g ps assign body).wpIn (wideAt (some l0)) 9 P Q a w := by
  refine wpIn_rangeFunc ?_
  intro fn hfn
  obtain ⟨rec, hrec⟩ : ∃ rec : LoopState → Option Code → Loop, rec = fun st pe => { state := st, pending := pe, fn, tmps := a.tmps, params := ps, assign, body, defers := r0.defers } := ⟨_, rfl⟩
  have H2 := H.alloc (.loop (rec .ready none))
  obtain ⟨W1, hW1⟩ : ∃ W1, w.alloc (.loop (rec .ready none)) = W1 := ⟨_, rfl⟩
  rw [hW1] at H2
  refine ⟨w.heap.size, [], W1, { target := .fn (.func gf) lb, args := #[.func (.yield w.heap.size) #[] #[]] }, W1, gf,
    #[.func (.yield w.heap.size) #[] #[]] ++ lb, W1, ?_, ?_, ?_, ?_, fun h => (by cases h), ?_⟩
  · rw [← hW1, hrec]; exact run_enterLoop_inner hl0 _ _ _ _ _
  · simp only [resolve, hg]
    simp [go_sem]
  · intro f' _; trivial
  · simp [invoke, go_sem, eg]
  · generalize w.heap.size = D at *
    refine calls_in ?_
    have hin := hseq (fun pre => Blk D (.loop (rec .ready none)) :: I pre)
      (fun pre => (fun h => ∃ c, Stars (Blk D (.loop (rec .done (some c))) :: Ix c pre) h) :: []) (fun pre => ⟨[Blk D (.loop (rec .ready none))], List.Perm.refl _⟩)
    have move : ∀ {A : HProp} {X Y : List HProp} {W : World}, At w0 (X ++ (A :: Y)) W → At w0 (A :: (X ++ Y)) W := fun h => h.perm List.perm_middle
    have moveb : ∀ {A : HProp} {X Y : List HProp} {W : World}, At w0 (A :: (X ++ Y)) W → At w0 (X ++ (A :: Y)) W := fun h => h.perm List.perm_middle.symm
    refine Calls.mono (hin D W1 ?_ (moveb H2)) ?_
    · intro pre x W hsp hJ
      have hJ1 := move hJ
      have hl := hJ1.get0
      have hy := run_yield (P := P) (args := encs x) hl (by rw [hrec]; exact hps x)
      rw [hrec] at hy
      refine ⟨fn, _, assign, body, hy, roundIn_of_wpIn (F := wideAt none) trivial ?_⟩
      refine hassign D (rec .ready none) pre x W _ hsp hJ1 ?_
      intro a' Wa HA
      have HA1 : At w0 (Blk D (.loop (rec .ready none)) :: (Ax x a' ++ ((F pre ++ I pre)))) Wa := HA.perm List.perm_middle
      refine ⟨_, run_beginRound HA1.get0 (by rw [hrec]), ?_⟩
      have HB : At w0 (Blk D (.loop { rec .ready none with state := .busy }) :: (Ax x a' ++ ((F pre ++ I pre)))) _ := HA1.putObj0
      have HB1 := HB.perm (List.perm_middle (l₁ := Ax x a') (l₂ := (F pre ++ I pre)) (a := Blk D (.loop { rec .ready none with state := .busy }))).symm
      refine wpIn_mono (hbody D _ pre x a' _ hsp HB1) ?_
      have fin : ∀ (jump : Option Code) (Y : List HProp) (W3 : World), At w0 ((Blk D (.loop { rec .ready none with state := .busy }) :: F pre) ++ Y) W3 →
          (Instr.endRound D jump).run P W3 = .ok (.bool jump.isNone) (W3.putObj D (.loop (rec (if jump.isNone then .ready else .done) jump))) ∧
          At w0 (F pre ++ (Blk D (.loop (rec (if jump.isNone then .ready else .done) jump)) :: Y)) (W3.putObj D (.loop (rec (if jump.isNone then .ready else .done) jump))) := by
        intro jump Y W3 h3
        have hl3 := h3.get0
        have hr := run_endRound (P := P) jump hl3
        rw [hrec] at hr ⊢
        exact ⟨hr, moveb (At.putObj0 h3)⟩
      rintro e a3 W3 hp
      cases e with
      | normal =>
        obtain ⟨hr, h4⟩ := fin none _ W3 hp
        exact ⟨_, _, hr, .inl ⟨rfl, h4⟩⟩
      | ret =>
        obtain ⟨hr, h4⟩ := fin (some .ret) _ W3 hp
        refine ⟨_, _, hr, .inr ⟨rfl, ?_⟩⟩
        have h5 := h4.perm List.perm_append_comm
        have h6 := At.imp (B := fun h => ∃ c, Stars (Blk D (.loop (rec .done (some c))) :: Ix c (pre ++ [x])) h) (At.fold h5) (fun _ hh => ⟨.ret, hh⟩)
        exact h6.perm (List.perm_append_comm (l₁ := [_]) (l₂ := F pre))
      | exit id =>
        obtain ⟨hr, h4⟩ := fin (some (.exit id)) _ W3 hp
        refine ⟨_, _, hr, .inr ⟨rfl, ?_⟩⟩
        have h5 := h4.perm List.perm_append_comm
        have h6 := At.imp (B := fun h => ∃ c, Stars (Blk D (.loop (rec .done (some c))) :: Ix c (pre ++ [x])) h) (At.fold h5) (fun _ hh => ⟨.exit id, hh⟩)
        exact h6.perm (List.perm_append_comm (l₁ := [_]) (l₂ := F pre))
      | goto t =>
        obtain ⟨hr, h4⟩ := fin (some (.goto t)) _ W3 hp
        refine ⟨_, _, hr, .inr ⟨rfl, ?_⟩⟩
        have h5 := h4.perm List.perm_append_comm
        have h6 := At.imp (B := fun h => ∃ c, Stars (Blk D (.loop (rec .done (some c))) :: Ix c (pre ++ [x])) h) (At.fold h5) (fun _ hh => ⟨.goto t, hh⟩)
        exact h6.perm (List.perm_append_comm (l₁ := [_]) (l₂ := F pre))
      | panic ch => exact hp.elim
      | outgrown => exact hp.elim
    · rintro e W2 ⟨⟨v, rfl⟩, (⟨xs, hS, h⟩ | ⟨pre, hSp, h⟩)⟩
      · have hl := h.get0
        have hr := run_endLoop (P := P) hl (by rw [hrec]; simp)
        refine ⟨none, _, by rw [hr, hrec], hdone xs _ hS ?_⟩
        exact (At.putObj0 h).drop
      · obtain ⟨c, h⟩ := At.ex h
        have h := (At.flat h)
        rw [List.append_nil] at h
        have hl := h.get0
        have hr := run_endLoop (P := P) hl (by rw [hrec]; simp)
        refine ⟨some c, _, by rw [hr, hrec], hstop c pre _ hSp ?_⟩
        exact (At.putObj0 h).drop
end Go.Hp
namespace Go.Proofs.Ytohfboolicheeaa
open Go.Hp Go.RowKit
set_option linter.unusedVariables false
set_option linter.unusedSimpArgs false
set_option maxRecDepth 100000
set_option maxHeartbeats 2000000
attribute [local go_sem] Oper.semAt_some
namespace Rg
/-- range over a function, where a round begins in a known frame. -/
theorem range_in1 {α : Type} {P : Program} {g : Operand} {ps : Array Tmp} {assign body : Code} {Q : Exit → Act → World → Prop} {a : Act} {w w0 : World}
    {gf : Nat} {lb : Array Value} {l0 : Nat} {r0 : Loop} (hl0 : w.heap[l0]? = some (.loop r0)) (hg : a.eval g = .func (.func gf) #[] lb) (eg : ∀ args w, (callFunc gf args).run P w = .ok (.enter gf args) w) {encs : α → Array Value} (hps : ∀ x, (encs x).size = ps.size)
    (F I : List α → List HProp) (Ix : Code → List α → List HProp) (S Sp : List α → Prop) (H : At w0 (F [] ++ I []) w)
    (hseq : ∀ (J Jx : List α → List HProp), (∀ pre, ∃ X, (J pre).Perm (X ++ I pre)) → IterAt P gf lb encs w0 F J Jx S Sp) (Fr : Nat → α → Act) (Bx : Nat → α → HProp)
    (hassign : ∀ (l : Nat) (r : Loop) (pre : List α) (x : α) (W : World) (K : Act → World → Prop), Sp (pre ++ [x]) → At w0 (Blk l (.loop r) :: (F pre ++ I pre)) W →
      (∀ gp W', At w0 (Bx gp x :: (Blk l (.loop r) :: (F pre ++ I pre))) W' → K (Fr gp x) W') →
      assign.wpIn (wideAt (some l)) 9 P (Exit.then K (fun _ _ _ => False)) { tmps := (ps.zip (encs x)).foldl (fun t (p, v) => t.setIfInBounds p v) a.tmps, defers := [] } W)
    (hbody : ∀ (l : Nat) (r : Loop) (pre : List α) (x : α) (gp : Nat) (W : World), Sp (pre ++ [x]) → At w0 (Bx gp x :: (Blk l (.loop r) :: (F pre ++ I pre))) W →
      body.wpIn (wideAt (some l)) 9 P (roundAt w0 (Blk l (.loop r) :: F pre) I Ix (pre ++ [x])) (Fr gp x) W)
    (hdone : ∀ (xs : List α) (W : World), S xs → At w0 (I xs) W → Q .normal a W)
    (hstop : ∀ (c : Code) (pre : List α) (W : World), Sp pre → At w0 (Ix c pre) W → c.wpIn (wideAt (some l0)) 9 P Q a W) :
    (Code.rangeFunc g ps assign body).wpIn (wideAt (some l0)) 9 P Q a w := by
  refine wp_rangeFunc_in hl0 hg eg hps F I Ix S Sp H hseq (fun x a' => [fun hp => ∃ gp, a' = Fr gp x ∧ Bx gp x hp]) ?_ ?_ hdone hstop
  · intro l r pre x W K hs HA hK
    exact hassign l r pre x W K hs HA fun gp W' HA' => hK _ _ (At.imp HA' fun _ hh => ⟨gp, rfl, hh⟩)
  · intro l r pre x a' W hs HA
    obtain ⟨gp, HA1⟩ := At.ex HA
    obtain ⟨rfl, HA2⟩ := At.and HA1
    exact hbody l r pre x gp W hs HA2


section
variable {w0 w : World} {L : List HProp}
theorem ext_J0 {W w : World} {M : List HProp} {A : HProp} (H : At W M w) (h : ∃ N, M.Perm (Arg W :: A :: N)) : Ext W w := by
  obtain ⟨N, p⟩ := h
  exact (H.perm p).ext 0 rfl
theorem cell_J {W w : World} {M : List HProp} {gb : Nat} {v : Value} {t : TypeId} (H : At W M w) (h : ∃ N, M.Perm (Arg W :: Blk gb (.cells #[v] t (0, 0)) :: N)) : w.cell? ⟨gb, 0, none⟩ = some v := by
  obtain ⟨N, p⟩ := h
  have := cells_of (c := [v]) ((H.perm p).get 1 rfl) 0 v rfl
  rwa [Addr.add_lit] at this
set_option maxHeartbeats 4000000 in
/-- The ring stands in W: its points come in turn. -/
theorem pts_iter2 {W : World} {v : Value} {c : Cf} {S : List Int} {pts : List Pt} {gb : Nat} {J Jx : List Pt → List HProp} (hr : RgF 84 W v c S pts) (hsz : pts.length ≤ 100000) (hJ : ∀ pre, ∃ M, (J pre).Perm (Arg W :: Blk gb (.cells #[v] 23 (0, 0)) :: M)) :
    IterAt Try.prog 48 #[.pointer (some ⟨gb, 0, none⟩)] encP W (fun _ => []) J Jx (fun xs => xs = pts) (fun pre => pre <+: pts) := by
  intro n W1 hY H
  obtain ⟨g, s1, s2, s3, p1, p2, p3, rfl, hg, hS, hp⟩ := hr
  have Hg := Lib.hid (fun (w2 : World) (hx : Ext W w2) => hx.cell (show W.cell? ⟨g, 6, none⟩ = some (.slice p1 p2 p3) from by
    have := cells_of hg 6 (.slice p1 p2 p3) rfl
    rwa [Addr.add_lit, Nat.zero_add] at this))
  obtain ⟨ad, cap, hv, c1, c2, c3⟩ := hp.value
  cases hv
  rw [List.length_map] at c1 c3 hp Hg
  have HV := Lib.hid hp
  have C3 := Lib.hid c3
  replace H : At W (J []) W1 := H
  clear hp hS hg c3 c1 c2
  have HJ := Lib.hid hJ
  have HY := Lib.hid hY
  clear hJ
  clear hY
  refine calls_of_in (r := none) (n := 9) ?_
  refine callsIn_of_wp Try.func48 rfl trivial ?_ rfl
  simp only [Try.ntmps48, List.size_toArray, List.length_cons, List.length_nil, Nat.reduceAdd, Nat.reduceSub, Array.replicate_succ, Array.replicate_zero, List.push_toArray, List.append_toArray, List.nil_append, List.cons_append]
  gi_wp2_with (first | ((refine in_step rfl ?_); (with_reducible refine k_load (T := 23) ?_); refine st_load1 rfl _ _ rfl _ rfl rfl (cell_J H (HJ.out _)) ?_; (intro K hK; go_simp; refine hK _ _ ?_; clear hK K; show wpListIn _ _ _ _ _ _ _ _))      | ((refine in_step rfl ?_); (with_reducible refine k_load ?_); refine st_load1 rfl _ _ rfl _ rfl rfl (Hg.out _ (ext_J0 H (HJ.out _))) ?_; (intro K hK; go_simp; refine hK _ _ ?_; clear hK K; show wpListIn _ _ _ _ _ _ _ _)))
  gi_loopw [10] (fun i wr => ∃ k : Nat, k ≤ pts.length ∧ i = .int .i64 k ∧ At W (J (pts.take k)) wr) (fun i _ => pts.length - (intOf i).toNat)
  case atStart => exact ⟨0, Nat.zero_le _, rfl, H⟩
  case round =>
    clear H
    obtain ⟨k, hk, rfl, H⟩ := hrel
    by_cases hlt : k < pts.length
    · have g1 : (k : Int) < pts.length := by omega
      obtain ⟨x, hx⟩ : ∃ x, pts[k]? = some x := ⟨_, List.getElem?_eq_getElem hlt⟩
      obtain ⟨b, rfl⟩ := C3.out (by omega)
      have Hc := Lib.hid (fun (w2 : World) (hxx : Ext W w2) i u hi => hxx.cell (recs_get HV.out hx i u hi))
      have Ht := Lib.hid (pre_of_take hx)
      have Hk := Lib.hid (show pts.take k ++ [x] = pts.take (k + 1) by rw [List.take_add_one, hx]; rfl)
      clear hx
      obtain ⟨xh, xs, xn⟩ := x
      gi_wp2_with (first | ((refine in_step rfl ?_); (with_reducible refine k_load (T := 87) ?_); (first | refine st_loadCells rfl _ _ rfl _ rfl a87 [.int .i64 xh, .int .i64 xs, .int .i64 xn] s87 (Hc.out _ (ext_J0 H (HJ.out _))) ?_); (intro K hK; go_simp; refine hK _ _ ?_; clear hK K; show wpListIn _ _ _ _ _ _ _ _))          | ((refine in_step rfl ?_); (with_reducible refine k_alloc ?_); refine st_alloc rfl _ rfl _ z87 _ rfl H ?_; (clear H; intro g5 w2 H K hK; simp only [Value.cells] at H; go_simp; refine hK _ _ ?_; clear hK K; show wpListIn _ _ _ _ _ _ _ _))          | ((refine in_step rfl ?_); (with_reducible refine k_store ?_); refine st_put rfl _ _ _ rfl _ rfl _ rfl ?_ s87 H 0 rfl rfl ?_; (simp [Value.oneCell']); (clear H; intro w3 H K hK; simp only [List.set_cons_zero] at H; obtain ⟨fn, tmps, assign, body, hy, hR⟩ := HY.out (pts.take k) ⟨xh, xs, xn⟩ w3 Ht.out H.drop; dsimp only [encP] at hy; go_simp; refine hK _ _ ?_; clear hK K; show wpListIn _ _ _ _ _ _ _ _))          | ((refine in_step rfl ?_); (with_reducible refine k_load (T := 3) ?_); (first | refine st_load rfl _ _ rfl _ _ rfl ?_ H 0 rfl (v := .int .i64 xh) rfl ?_ | refine st_load rfl _ _ rfl _ _ rfl ?_ H 0 rfl (v := .int .i64 xs) rfl ?_); (kernel_rfl); (intro K hK; go_simp; refine hK _ _ ?_; clear hK K; show wpListIn _ _ _ _ _ _ _ _)))
      refine (round_any hR).mono ?_
      rintro e W3 (⟨rfl, H3⟩ | ⟨rfl, H3⟩)
      · clear hR hy H
        gi_wp2
        go_roundw
        case rel => exact ⟨k + 1, by omega, by simp, by rw [← Hk.out]; exact H3⟩
        case measure => simp [intOf]; omega
      · clear hR hy H
        gi_wp2
        refine bodyPost_ret (results_none rfl _ _ _) rfl ?_
        exact ⟨⟨_, rfl⟩, Or.inr ⟨_, Ht.out, H3⟩⟩
    · have g1 : ¬ (k : Int) < pts.length := by omega
      gi_wp2
      go_end0
      have e2 : pts.take k = pts := List.take_of_length_le (by omega)
      rw [e2] at H
      refine ⟨⟨_, rfl⟩, Or.inl H⟩


end
end Rg
end Go.Proofs.Ytohfboolicheeaa
