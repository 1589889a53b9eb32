/-
  The list of entries: apply's range over a sequence.
-/
import Derived.Test.YtcofcikdknmggaaBkApp
namespace Go.Proofs.Ytcofcikdknmggaa
open Go.Hp Go.RowKit
set_option linter.unusedVariables false
set_option linter.unusedSimpArgs false
set_option maxRecDepth 100000
set_option maxHeartbeats 2000000
attribute [local go_sem] Oper.semAt_some
namespace Bk

theorem range_at1 {α : Type} {P : Program} {g : Operand} {ps : Array Tmp} {assign body : Code} {Q : Exit → Act → World → Prop} {a : Act} {w w0 : World}
    {gf : Nat} {lb : Array Value} (hg : a.eval g = .func (.func gf) #[] lb) (eg : ∀ args w, (callFunc gf args).run P w = .ok (.enter gf args) w) {encs : α → Array Value} (hps : ∀ x, (encs x).size = ps.size)
    (F I : List α → List HProp) (Ix : Code → List α → List HProp) (S Sp : List α → Prop) (H : At w0 (F [] ++ I []) w)
    (hseq : ∀ (J Jx : List α → List HProp), (∀ pre, ∃ X, (J pre).Perm (X ++ I pre)) → IterAt P gf lb encs w0 F J Jx S Sp) (Fr : Nat → α → Act) (Bx : Nat → α → HProp)
    (hassign : ∀ (l D : Nat) (r : Loop) (pre : List α) (x : α) (W : World) (K : Act → World → Prop), Sp (pre ++ [x]) → At w0 (Blk l (.loop r) :: Blk D (.deferred (some [])) :: (F pre ++ I pre)) W →
      (∀ gp W', At w0 (Bx gp x :: (Blk l (.loop r) :: Blk D (.deferred (some [])) :: (F pre ++ I pre))) W' → K (Fr gp x) W') →
      assign.wpIn (wideAt (some l)) 9 P (Exit.then K (fun _ _ _ => False)) { tmps := (ps.zip (encs x)).foldl (fun t (p, v) => t.setIfInBounds p v) a.tmps, defers := [] } W)
    (hbody : ∀ (l D : Nat) (r : Loop) (pre : List α) (x : α) (gp : Nat) (W : World), Sp (pre ++ [x]) → At w0 (Bx gp x :: (Blk l (.loop r) :: Blk D (.deferred (some [])) :: (F pre ++ I pre))) W →
      body.wpIn (wideAt (some l)) 9 P (roundAt w0 (Blk l (.loop r) :: Blk D (.deferred (some [])) :: F pre) I Ix (pre ++ [x])) (Fr gp x) W)
    (hdone : ∀ (D : Nat) (xs : List α) (W : World), S xs → At w0 (Blk D (.deferred (some [])) :: I xs) W → Q .normal { a with defers := { target := .collected D, args := #[] } :: a.defers } W)
    (hstop : ∀ (D : Nat) (c : Code) (pre : List α) (W : World), Sp pre → At w0 (Blk D (.deferred (some [])) :: Ix c pre) W → c.wpIn (wideAt none) 9 P Q { a with defers := { target := .collected D, args := #[] } :: a.defers } W) :
    (Code.rangeFunc g ps assign body).wpIn (wideAt none) 9 P Q a w := by
  refine wp_rangeFunc_at hg eg hps F I Ix S Sp H hseq (fun x a' => [fun hp => ∃ gp, a' = Fr gp x ∧ Bx gp x hp]) ?_ ?_ hdone hstop
  · intro l D r pre x W K hs HA hK
    exact hassign l D r pre x W K hs HA fun gp W' HA' => hK _ _ (At.imp HA' fun _ hh => ⟨gp, rfl, hh⟩)
  · intro l D r pre x a' W hs HA
    obtain ⟨gp, HA1⟩ := At.ex HA
    obtain ⟨rfl, HA2⟩ := At.and HA1
    exact hbody l D r pre x gp W hs HA2

/-- The answer that is being made: its list so far. -/
def AnsAt (g : Nat) (l : List En) : HProp := fun hp => ∃ va, Stars [Blk g (.cells #[.int .i64 0, .string ⟨#[]⟩, .int .i64 0, .int .i64 0, .int .i64 0, va] 41 (0, 0)), OE va l] hp
section
variable {w0 w : World} {L : List HProp}
theorem own_form {e : TypeId} {size n : Nat} {v : Value} {xs : List Value} (H : At w0 (OwnRow e size v n xs :: L) w) : ∃ ad n' cap, v = .slice ad n' cap := by
  obtain ⟨ad, cap, hv, _⟩ := own_value H
  exact ⟨ad, n, cap, hv⟩
theorem eC_snoc (l : List En) (x : En) : eC (l ++ [x]) = eC l ++ x.cells := by unfold eC; simp
theorem oe_snoc {v : Value} {l : List En} {x : En} (H : At w0 (OwnRow 39 4 v (l.length + 1) (eC l ++ x.cells) :: L) w) : At w0 (OE v (l ++ [x]) :: L) w := by
  unfold OE
  rw [eC_snoc, List.length_append]
  exact H
theorem ans_mk {g : Nat} {l : List En} {va : Value} (H : At w0 (Blk g (.cells #[.int .i64 0, .string ⟨#[]⟩, .int .i64 0, .int .i64 0, .int .i64 0, va] 41 (0, 0)) :: OE va l :: L) w) : At w0 (AnsAt g l :: L) w :=
  At.imp (At.fold (M := [_, _]) H) fun _ hh => ⟨va, hh⟩
theorem ans_open {g : Nat} {l : List En} (H : At w0 (AnsAt g l :: L) w) : ∃ ad n cap, At w0 (Blk g (.cells #[.int .i64 0, .string ⟨#[]⟩, .int .i64 0, .int .i64 0, .int .i64 0, .slice ad n cap] 41 (0, 0)) :: OE (.slice ad n cap) l :: L) w := by
  obtain ⟨va, H1⟩ := At.ex H
  have H2 := At.flat H1
  obtain ⟨ad, cap, hv, _⟩ := own_value (H2.pick 1 rfl)
  subst hv
  exact ⟨ad, _, cap, H2⟩

theorem apply_list {gb : Nat} {room : Int} {ve vl : Value} {b : Bu} {c : Cm} (hc : wrongS c = false) (hu : b.u < 1048576) (hu0 : -9223372036854775808 ≤ b.u) (hk4 : c.k = 4) (be : (b.es.length + 1) * 40 ≤ 140737488355328)
    (H : At w0 (Blk gb (.cells #[.int .i64 b.u, ve, vl] 25 (0, 0)) :: OE ve b.es :: OL vl b.ls :: L) w) :
    Calls Try.prog 31 #[.pointer (some ⟨gb, 0, none⟩), .agg c.cells.toArray, .int .i64 room] w (ApPost w0 L gb (applyS b c room)) := by
  have hap : applyS b c room = ((0, ⟨0, en0, namesS b.es ⟨#[]⟩⟩), ⟨b.u + 1, b.es, b.ls⟩) := by
    unfold applyS
    rw [if_neg (by rw [hc]; decide), if_neg (by omega), if_pos hk4]
  rw [hap]
  clear hap
  obtain ⟨kd, cl, op, nm, fc, fo, nc, no, sz⟩ := c
  obtain ⟨u, es, ls⟩ := b
  dsimp only at H hc hu hu0 hk4 be ⊢
  subst hk4
  unfold wrongS at hc
  simp only [Bool.or_eq_false_iff, decide_eq_false_iff_not] at hc
  obtain ⟨h1, h2, h3, h4, h5, h6⟩ := hc
  have hw : IntKind.i64.wrap (u + 1) = u + 1 := IntWalk.i64_in _ (by omega)
  simp only [Cm.cells]
  have tok : True := trivial
  refine calls_of_marks Try.func31 rfl ?_
  simp only [Try.ntmps31, List.size_toArray, List.length_cons, List.length_nil, Nat.reduceAdd, Nat.reduceSub, Array.replicate_succ, Array.replicate_zero, List.push_toArray, List.append_toArray, List.nil_append, List.cons_append]
  gi_wp2_with (first | ((refine in_step rfl ?_); (with_reducible refine k_box ?_); refine st_box rfl _ _ rfl _ rfl H ?_; (clear H; intro g4 w1 H K hK; simp only [Value.cells] at H; go_simp; refine hK _ _ ?_; clear hK K; show wpListIn _ _ _ _ _ _ _ _))      | ((refine in_step rfl ?_); (with_reducible refine k_alloc ?_); (have _t := tok); refine st_alloc rfl _ rfl _ z41 _ rfl H ?_; (clear H tok _t; intro g6 w2 H K hK; simp only [Value.cells] at H; go_simp; refine hK _ _ ?_; clear hK K; show wpListIn _ _ _ _ _ _ _ _))      | ((refine in_step rfl ?_); (with_reducible refine k_alloc ?_); refine st_alloc rfl _ rfl _ z41 _ rfl H ?_; (clear H; intro g8 w2 H K hK; simp only [Value.cells] at H; go_simp; refine hK _ _ ?_; clear hK K; show wpListIn _ _ _ _ _ _ _ _))      | ((refine in_step rfl ?_); (with_reducible refine k_load (T := 3) ?_); (first | refine st_load rfl _ _ rfl _ _ rfl ?_ H 1 rfl rfl ?_ | refine st_load rfl _ _ rfl _ _ rfl ?_ H 2 rfl rfl ?_); (kernel_rfl); (intro K hK; go_simp; refine hK _ _ ?_; clear hK K; show wpListIn _ _ _ _ _ _ _ _))      | ((refine in_step rfl ?_); (with_reducible refine k_load (T := 25) ?_); refine st_row rfl _ _ rfl _ rfl a25 3 s25 H 3 rfl rfl ?_; (intro K hK; go_simp; refine hK _ _ ?_; clear hK K; show wpListIn _ _ _ _ _ _ _ _))      | ((refine in_step rfl ?_); (with_reducible refine k_store (T := 3) ?_); refine st_store rfl _ _ _ rfl _ _ rfl _ rfl rfl ?_ H 2 rfl ?_ ?_; (kernel_rfl); (simp); (clear H; intro w3 H K hK; simp only [List.set_cons_zero, List.set_cons_succ, List.setIfInBounds_toArray, Act.eval, Value.cells, Array.getD_eq_getD_getElem?, List.getElem?_toArray, List.getElem?_cons_succ, List.getElem?_cons_zero, Option.getD_some] at H; go_simp; refine hK _ _ ?_; clear hK K; show wpListIn _ _ _ _ _ _ _ _)))
  refine ⟨trivial, (calls_in (names (oe_recs (H.pick 4 rfl)) (by omega) H)).mono ?_⟩
  rintro e w3 ⟨g7, g3, v', rfl, H3⟩
  clear H
  have H : At w0 (Blk g7 (.cells #[v'] 22 (0, 0)) :: Blk g3 (.cells #[.string ⟨#[]⟩] 9 (0, 0)) :: OE v' (es.drop (plI es ⟨#[]⟩)) :: Blk g8 (.cells #[.int .i64 0, .string ⟨#[]⟩, .int .i64 0, .int .i64 0, .int .i64 0, .slice none 0 0] 41 (0, 0)) :: Blk g6 (.cells #[.int .i64 0, .string ⟨#[]⟩, .int .i64 0, .int .i64 0, .int .i64 0, .slice none 0 0] 41 (0, 0)) ::
    Blk g4 (.cells #[.int .i64 4, .int .i64 cl, .int .i64 op, .string nm, .int .i64 fc, .int .i64 fo, .int .i64 nc, .int .i64 no, .int .i64 sz] 29 (0, 0)) :: Blk gb (.cells #[.int .i64 (u + 1), ve, vl] 25 (0, 0)) :: OE ve es :: OL vl ls :: L) w3 := H3
  clear H3
  have hdl : (es.drop (plI es ⟨#[]⟩)).length ≤ es.length := by rw [List.length_drop]; omega
  gi_wp2
  refine range_at1 (w0 := w0) (gf := 46) (lb := #[.pointer (some ⟨g7, 0, none⟩), .pointer (some ⟨g3, 0, none⟩)]) rfl (enters_of Try.func46 (by kernel_rfl) rfl) (encs := encE) (fun _ => rfl)
    (fun _ => [Blk g7 (.cells #[v'] 22 (0, 0)), Blk g3 (.cells #[.string ⟨#[]⟩] 9 (0, 0)), OE v' (es.drop (plI es ⟨#[]⟩))])
    (fun pre => AnsAt g8 pre :: Blk g6 (.cells #[.int .i64 0, .string ⟨#[]⟩, .int .i64 0, .int .i64 0, .int .i64 0, .slice none 0 0] 41 (0, 0)) :: Blk gb (.cells #[.int .i64 (u + 1), ve, vl] 25 (0, 0)) :: OE ve es :: OL vl ls :: L)
    (fun c pre => [pur False]) (fun xs => xs = (es.drop (plI es ⟨#[]⟩)).takeWhile (hpE ⟨#[]⟩)) (fun pre => pre <+: (es.drop (plI es ⟨#[]⟩)).takeWhile (hpE ⟨#[]⟩)) ?start (fun J Jx hJ => nm_iter (by omega)) ?Fr (fun gp x => Blk gp (.cells x.cells.toArray 39 (0, 0))) ?assign ?body ?done ?stop
  case start =>
    have H1 := H.sel 9 [3, 0, 1, 2, 4, 6, 7, 8]
    have HN : At w0 (OE (.slice none 0 0) [] :: _) w3 := own_nil H1 39 4
    have H2 := ans_mk (HN.sel 9 [1, 0, 2, 3, 4, 5, 6, 7, 8])
    exact H2.sel 8 [1, 2, 3, 0, 4, 5, 6, 7]
  case assign =>
    intro l D r pre x W K hsp HA hK
    dsimp only [encE]
    have Hx1 := Lib.hid (ee_one x)
    gi_wp2_with (first | ((refine in_step rfl ?_); (with_reducible refine k_alloc ?_); refine st_alloc rfl _ rfl _ z39 _ rfl HA ?_; (clear HA; intro gp W2 HA K hK; simp only [Value.cells] at HA; go_simp; refine hK _ _ ?_; clear hK K; show wpListIn _ _ _ _ _ _ _ _))        | ((refine in_step rfl ?_); (with_reducible refine k_store ?_); refine st_put rfl _ _ _ rfl _ rfl _ rfl ?_ ?_ HA 0 rfl ?_ ?_; (exact Hx1.out); (exact s39); (rfl); (clear HA; intro W3 HA K hK; simp only [List.set_cons_zero] at HA; go_simp; refine hK _ _ ?_; clear hK K; show wpListIn _ _ _ _ _ _ _ _)))
    exact hK _ _ HA
  case body =>
    rintro l D r pre x gp W hsp HA
    have hlen := Lib.hid (show pre.length + 1 ≤ es.length by
      have h1 := hsp.length_le
      have h2 := (List.takeWhile_sublist (hpE ⟨#[]⟩) (l := es.drop (plI es ⟨#[]⟩))).length_le
      rw [List.length_append] at h1
      simp only [List.length_cons, List.length_nil] at h1
      omega)
    obtain ⟨ad, n, cap, HB⟩ := ans_open (HA.pick 6 rfl)
    clear HA
    replace HB : At w0 (OE (.slice ad n cap) pre :: Blk g8 (.cells #[.int .i64 0, .string ⟨#[]⟩, .int .i64 0, .int .i64 0, .int .i64 0, .slice ad n cap] 41 (0, 0)) :: Blk gp (.cells x.cells.toArray 39 (0, 0)) :: Blk l (.loop r) :: Blk D (.deferred (some [])) :: Blk g7 (.cells #[v'] 22 (0, 0)) :: Blk g3 (.cells #[.string ⟨#[]⟩] 9 (0, 0)) :: OE v' (es.drop (plI es ⟨#[]⟩)) :: Blk g6 (.cells #[.int .i64 0, .string ⟨#[]⟩, .int .i64 0, .int .i64 0, .int .i64 0, .slice none 0 0] 41 (0, 0)) :: Blk gb (.cells #[.int .i64 (u + 1), ve, vl] 25 (0, 0)) :: OE ve es :: OL vl ls :: L) W := HB.sel 12 [1, 0, 2, 3, 4, 5, 6, 7, 8, 9, 10, 11]
    gi_wp2_with (first | ((refine in_step rfl ?_); (with_reducible refine k_load (T := 22) ?_); refine st_load rfl _ _ rfl _ _ rfl ?_ HB 1 rfl (v := .slice ad n cap) rfl ?_; (kernel_rfl); (intro K hK; go_simp; refine hK _ _ ?_; clear hK K; show wpListIn _ _ _ _ _ _ _ _))        | ((refine in_step rfl ?_); (with_reducible refine k_load (T := 39) ?_); refine st_row rfl _ _ rfl _ rfl a39 4 s39 HB 2 rfl rfl ?_; (intro K hK; go_simp; refine hK _ _ ?_; clear hK K; show wpListIn _ _ _ _ _ _ _ _))        | ((refine in_step rfl ?_); (with_reducible refine k_lit ?_); refine st_lit1 rfl _ _ rfl x.cells.toArray rfl 39 Try.underlying22 4 s39 _ z39 rfl rfl (by decide) (by decide) HB ?_; (clear HB; intro gl W1 HB K hK; go_simp; refine hK _ _ ?_; clear hK K; show wpListIn _ _ _ _ _ _ _ _))        | ((refine in_step rfl ?_); (with_reducible refine k_builtin ?_); refine st_append rfl _ _ _ rfl 39 Try.underlying22 4 s39 40 bytes39 _ z39 rfl (.slice ad n cap) pre.length (eC pre) rfl (HB.sel 2 [1, 0]) (some ⟨gl, 0, none⟩) 1 1 x.cells rfl rfl (fun _ => ⟨_, rfl, cells_of (HB.get 0 rfl)⟩) (ee_one x) ?_ ?_ ?_; (have := hlen.out; simp only [maxLen]; omega); (have := hlen.out; omega); (clear HB; intro v2 W2 HB K hK; obtain ⟨ad2, n2, cap2, rfl⟩ := own_form HB; go_simp; refine hK _ _ ?_; clear hK K; show wpListIn _ _ _ _ _ _ _ _))        | ((refine in_step rfl ?_); (with_reducible refine k_store ?_); refine st_store rfl _ _ _ rfl _ _ rfl _ rfl rfl ?_ HB 2 rfl ?_ ?_; (kernel_rfl); (simp); (clear HB; intro W3 HB K hK; simp only [List.set_cons_zero, List.set_cons_succ, List.setIfInBounds_toArray, Act.eval, Value.cells, Array.getD_eq_getD_getElem?, List.getElem?_toArray, List.getElem?_cons_succ, List.getElem?_cons_zero, Option.getD_some] at HB; go_simp; refine hK _ _ ?_; clear hK K; show wpListIn _ _ _ _ _ _ _ _)))
    replace HB : At w0 (OwnRow 39 4 (.slice ad2 n2 cap2) (pre.length + 1) (eC pre ++ x.cells) :: Blk gl (.cells x.cells.toArray 39 (0, 0)) :: Blk g8 (.cells #[.int .i64 0, .string ⟨#[]⟩, .int .i64 0, .int .i64 0, .int .i64 0, .slice ad2 n2 cap2] 41 (0, 0)) :: Blk gp (.cells x.cells.toArray 39 (0, 0)) :: Blk l (.loop r) :: Blk D (.deferred (some [])) :: Blk g7 (.cells #[v'] 22 (0, 0)) :: Blk g3 (.cells #[.string ⟨#[]⟩] 9 (0, 0)) :: OE v' (es.drop (plI es ⟨#[]⟩)) :: Blk g6 (.cells #[.int .i64 0, .string ⟨#[]⟩, .int .i64 0, .int .i64 0, .int .i64 0, .slice none 0 0] 41 (0, 0)) :: Blk gb (.cells #[.int .i64 (u + 1), ve, vl] 25 (0, 0)) :: OE ve es :: OL vl ls :: L) W3 := HB
    have HC := ans_mk ((oe_snoc HB).sel 13 [2, 0, 4, 5, 6, 7, 8, 9, 10, 11, 12])
    exact HC.sel 10 [1, 2, 3, 4, 5, 0, 6, 7, 8, 9]
  case done =>
    rintro D xs W rfl HA
    obtain ⟨ad, n, cap, HB⟩ := ans_open (HA.pick 1 rfl)
    clear HA
    replace HB : At w0 (Blk D (.deferred (some [])) :: Blk g8 (.cells #[.int .i64 0, .string ⟨#[]⟩, .int .i64 0, .int .i64 0, .int .i64 0, .slice ad n cap] 41 (0, 0)) :: OE (.slice ad n cap) ((es.drop (plI es ⟨#[]⟩)).takeWhile (hpE ⟨#[]⟩)) :: Blk g6 (.cells #[.int .i64 0, .string ⟨#[]⟩, .int .i64 0, .int .i64 0, .int .i64 0, .slice none 0 0] 41 (0, 0)) :: Blk gb (.cells #[.int .i64 (u + 1), ve, vl] 25 (0, 0)) :: OE ve es :: OL vl ls :: L) W := HB.sel 7 [2, 0, 1, 3, 4, 5, 6]
    gi_wp2_with (first | ((refine in_step rfl ?_); (with_reducible refine k_load (T := 41) ?_); refine st_row rfl _ _ rfl _ rfl a41 6 s41 HB 1 rfl rfl ?_; (intro K hK; go_simp; refine hK _ _ ?_; clear hK K; show wpListIn _ _ _ _ _ _ _ _))        | ((refine in_step rfl ?_); (with_reducible refine k_store ?_); refine st_put rfl _ _ _ rfl _ rfl _ rfl ?_ s41 HB 3 rfl rfl ?_; (simp [Value.oneCell']); (clear HB; intro W3 HB K hK; simp only [List.set_cons_zero, List.set_cons_succ] at HB; go_simp; refine hK _ _ ?_; clear hK K; show wpListIn _ _ _ _ _ _ _ _)))
    refine ⟨by simp, .inl ⟨_, _, rfl, run_takeDeferred HB.get0, ?_⟩⟩
    have HC := (At.putObj0 (o' := .deferred none) HB).drop
    exact ⟨_, results_cell_tmp rfl rfl a41 s41 (HC.get 2 rfl) rfl, ⟨ve, vl, .slice ad n cap, rfl, HC.sel 6 [3, 4, 5, 1]⟩⟩
  case stop =>
    rintro D c pre W hsp HA
    exact (At.unpure (HA.pick 1 rfl)).1.elim
end
end Bk
end Go.Proofs.Ytcofcikdknmggaa
