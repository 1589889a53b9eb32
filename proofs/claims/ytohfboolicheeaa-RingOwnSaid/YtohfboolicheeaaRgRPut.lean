/-
  The document's points, put in one by one.
-/
import Derived.Test.YtohfboolicheeaaRgNew
import Derived.Test.YtohfboolicheeaaRgRIs
namespace Go.Proofs.Ytohfboolicheeaa
open Go.Hp Go.RowKit
set_option linter.unusedVariables false
set_option linter.unusedSimpArgs false
set_option maxRecDepth 100000
set_option maxHeartbeats 2000000
namespace Rg

/-- The block of the document's ring and its points. -/
def RP (g : Nat) (sv : Value) (c : Cf) (pts : List Pt) : HProp := fun hp => ∃ (p1 : Option Addr) (p2 p3 : Nat), Stars [Blk g (.cells #[sv, .int .i64 c.F, .int .i64 c.P, .int .i64 c.B, .int .i64 c.K, .int .i64 c.R, .slice p1 p2 p3] 45 (0, 0)), OP 81 (.slice p1 p2 p3) pts] hp

theorem insP_skip {p x : Pt} {l : List Pt} (h : aheadS p x = true) : insP p (l ++ [x]) = insP p l ++ [x] := by
  unfold insP
  rw [List.reverse_append, List.reverse_cons, List.reverse_nil, List.nil_append, List.singleton_append]
  conv => lhs; unfold insRev
  rw [if_pos h, List.reverse_cons]
theorem insP_here {p x : Pt} {l : List Pt} (h : aheadS p x = false) : insP p (l ++ [x]) = l ++ [x] ++ [p] := by
  unfold insP
  rw [List.reverse_append, List.reverse_cons, List.reverse_nil, List.nil_append, List.singleton_append]
  conv => lhs; unfold insRev
  rw [if_neg (by rw [h]; decide), List.reverse_cons, List.reverse_cons, List.reverse_reverse]
theorem insP_nil (p : Pt) : insP p [] = [p] := rfl

section
variable {w0 w : World} {L : List HProp}
theorem rp_mk {g : Nat} {sv : Value} {c : Cf} {pts : List Pt} {v : Value} (H : At w0 (Blk g (.cells #[sv, .int .i64 c.F, .int .i64 c.P, .int .i64 c.B, .int .i64 c.K, .int .i64 c.R, v] 45 (0, 0)) :: OP 81 v pts :: L) w) : At w0 (RP g sv c pts :: L) w := by
  obtain ⟨a1, n1, c1, rfl⟩ := own_form (H.pick 1 rfl)
  exact At.imp (At.fold (M := [_, _]) H) fun _ hh => ⟨a1, n1, c1, hh⟩
theorem rp_open {g : Nat} {sv : Value} {c : Cf} {pts : List Pt} (H : At w0 (RP g sv c pts :: L) w) : ∃ (p1 : Option Addr) (p2 p3 : Nat), At w0 (Blk g (.cells #[sv, .int .i64 c.F, .int .i64 c.P, .int .i64 c.B, .int .i64 c.K, .int .i64 c.R, .slice p1 p2 p3] 45 (0, 0)) :: OP 81 (.slice p1 p2 p3) pts :: L) w := by
  obtain ⟨a1, H⟩ := At.ex H
  obtain ⟨n1, H⟩ := At.ex H
  obtain ⟨c1, H⟩ := At.ex H
  exact ⟨a1, n1, c1, At.flat H⟩

theorem ahead (H : At w0 L w) (a b : Pt) : Calls Try.prog 70 #[.agg #[.int .i64 a.h, .int .i64 a.s, .int .i64 a.n], .agg #[.int .i64 b.h, .int .i64 b.s, .int .i64 b.n]] w (Ret w0 (.bool (aheadS a b)) L) := by
  obtain ⟨ah, as1, an⟩ := a
  obtain ⟨bh, bs, bn⟩ := b
  unfold aheadS
  dsimp only
  have tok : True := trivial
  by_cases h1 : ah = bh
  · subst h1
    by_cases h2 : as1 = bs
    · subst h2
      simp only [ne_eq, not_true_eq_false, if_false]
      go_enter Try.func70, Try.ntmps70
      go_wp2_with (first | ((with_reducible refine k_box (T := 81) ?_); (have _t := tok); refine st_box rfl _ _ rfl _ rfl H ?_; (clear H tok _t; intro g2 w H K hK; simp only [Value.cells] at H; go_simp)) | ((with_reducible refine k_box (T := 81) ?_); refine st_box rfl _ _ rfl _ rfl H ?_; (clear H; intro g3 w H K hK; simp only [Value.cells] at H; go_simp)) | ((with_reducible refine k_load ?_); (first | refine st_load rfl _ _ rfl _ _ rfl ?_ H 0 rfl rfl ?_ | refine st_load rfl _ _ rfl _ _ rfl ?_ H 1 rfl rfl ?_); (kernel_rfl); (intro K hK; go_simp)))
      go_ret
      exact ⟨rfl, H.sel 2 []⟩
    · have e2 : (as1 == bs) = false := by rw [beq_eq_false_iff_ne]; exact h2
      rw [if_neg (by simp), if_pos h2]
      go_enter Try.func70, Try.ntmps70
      go_wp2_with (first | ((with_reducible refine k_box (T := 81) ?_); (have _t := tok); refine st_box rfl _ _ rfl _ rfl H ?_; (clear H tok _t; intro g2 w H K hK; simp only [Value.cells] at H; go_simp)) | ((with_reducible refine k_box (T := 81) ?_); refine st_box rfl _ _ rfl _ rfl H ?_; (clear H; intro g3 w H K hK; simp only [Value.cells] at H; go_simp)) | ((with_reducible refine k_load ?_); (first | refine st_load rfl _ _ rfl _ _ rfl ?_ H 0 rfl rfl ?_ | refine st_load rfl _ _ rfl _ _ rfl ?_ H 1 rfl rfl ?_); (kernel_rfl); (intro K hK; go_simp)))
      go_ret
      exact ⟨rfl, H.sel 2 []⟩
  · have e1 : (ah == bh) = false := by rw [beq_eq_false_iff_ne]; exact h1
    rw [if_pos h1]
    go_enter Try.func70, Try.ntmps70
    go_wp2_with (first | ((with_reducible refine k_box (T := 81) ?_); (have _t := tok); refine st_box rfl _ _ rfl _ rfl H ?_; (clear H tok _t; intro g2 w H K hK; simp only [Value.cells] at H; go_simp)) | ((with_reducible refine k_box (T := 81) ?_); refine st_box rfl _ _ rfl _ rfl H ?_; (clear H; intro g3 w H K hK; simp only [Value.cells] at H; go_simp)) | ((with_reducible refine k_load ?_); (first | refine st_load rfl _ _ rfl _ _ rfl ?_ H 0 rfl rfl ?_ | refine st_load rfl _ _ rfl _ _ rfl ?_ H 1 rfl rfl ?_); (kernel_rfl); (intro K hK; go_simp)))
    go_ret
    exact ⟨rfl, H.sel 2 []⟩

theorem pCs_set {m : List Pt} {k : Nat} (hk : k < m.length) (c : Pt) : (pCs m).take (k * 3) ++ c.cells ++ (pCs m).drop (k * 3 + 3) = pCs (m.set k c) := by
  unfold pCs
  rw [flatten_set (size := 3) (rs := m.map Pt.cells) (i := k) (r := c.cells) (by intro r hr; obtain ⟨e, _, rfl⟩ := List.mem_map.1 hr; rfl) (by rw [List.length_map]; exact hk) rfl, List.map_set]

/-- A point of a row of the call's own is written, in a drawn region. -/
theorem op_pointPut {P : Program} {o : Oper} {Tm : Array Value} {ds : List Deferred} {K : Act → World → Prop} {Q : Exit → Act → World → Prop} {T : TypeId} {t u : Tmp} {tp : TypeId} {b : Addr} {cap n : Nat} {A : List Pt} {i : Nat} (p : Pt)
    (ho : o.op = .store T (.tmp t) (.tmp u)) (hx : Tm[t]?.getD undef = .pointer (some (b.add (i * 3)))) (hy : Tm[u]?.getD undef = .agg p.cells.toArray) (hs : sizeT P T = some 3)
    (H : At w0 (OP tp (.slice (some b) n cap) A :: L) w) (hi : i < A.length)
    (h : ∀ w', At w0 (OP tp (.slice (some b) n cap) (A.set i p) :: L) w' → K (Act.put ⟨Tm, ds⟩ o.dst undef) w') : o.wp P ⟨Tm, ds⟩ w K Q := by
  rcases own_cases H with ⟨h0, _⟩ | ⟨g, cap', cur, hv', r2, r3, r4, r5, r6, H2⟩
  · cases h0
  · cases hv'
    have hcs : A.length * 3 ≤ cur.size := by rw [r4]; omega
    have hl : (pCs A).length = A.length * 3 := pCs_len A
    have hx2 : Tm[t]?.getD undef = .pointer (some ⟨g, i * 3, none⟩) := by rw [hx, add_off]
    refine op_storesT ho hx2 hy (pt_one p) hs rfl H2 0 rfl (by simp [Pt.cells]; omega) ?_
    intro w' H3
    refine h w' ?_
    unfold OP
    rw [List.length_set]
    refine own_mk H3 r2 r3 ?_ ?_ ?_
    · simp [Pt.cells]
      omega
    · rw [pCs_len, List.length_set]
    · have hm2 : A.length * 3 ≤ cur.toList.length := by simpa using hcs
      have h3 : p.cells.length = 3 := rfl
      have ht := take_patch cur.toList p.cells (i * 3) (A.length * 3) (by omega) hm2
      rw [h3] at ht
      rw [← pCs_set hi p, ← r6]
      simpa [Pt.cells] using ht

def setPt (b : Bool) (A : List Pt) (i : Nat) (x : Pt) : List Pt := if b = true then A.set i x else A
theorem setPt_len {b : Bool} {A : List Pt} {i : Nat} {x : Pt} : (setPt b A i x).length = A.length := by unfold setPt; cases b <;> simp
theorem setPt_get {b : Bool} {A : List Pt} {i j : Nat} {x : Pt} (h : j ≠ i) : (setPt b A i x)[j]? = A[j]? := by
  unfold setPt
  cases b with
  | false => rfl
  | true =>
    rw [if_pos rfl]
    exact List.getElem?_set_ne (fun e => h e.symm)
theorem shift_step {l : List Pt} {i : Nat} {x y : Pt} (hx : l[i]? = some x) : (l.take (i + 1) ++ y :: l.drop (i + 1)).set (i + 1) x = l.take i ++ x :: l.drop i := by
  obtain ⟨hlt, he⟩ := List.getElem?_eq_some_iff.1 hx
  have h1 : (l.take (i + 1)).length = i + 1 := by rw [List.length_take]; omega
  rw [List.set_append_right _ _ (by omega), h1, Nat.sub_self, List.set_cons_zero, List.take_add_one, hx, Option.toList_some, List.drop_eq_getElem_cons hlt, he, List.append_assoc]
  rfl
theorem place_step {l : List Pt} {i : Nat} {p y : Pt} (hi : i ≤ l.length) : (l.take i ++ y :: l.drop i).set i p = l.take i ++ p :: l.drop i := by
  have h1 : (l.take i).length = i := by rw [List.length_take]; omega
  rw [List.set_append_right _ _ (by omega), h1, Nat.sub_self, List.set_cons_zero]

theorem pt_cell {tp : TypeId} {b : Addr} {n cap k : Nat} {A : List Pt} {x : Pt} (H : At w0 (OP tp (.slice (some b) n cap) A :: L) w) (hx : A[k]? = some x) : ∀ j u, x.cells[j]? = some u → w.cell? ((b.add (k * 3)).add j) = some u := by
  have h := op_recs H
  obtain ⟨ad, cap2, hv, _⟩ := own_value H
  injection hv with h1 h2 h3
  subst h2
  exact recs_get h hx
theorem put {g : Nat} {sv : Value} {c : Cf} {l : List Pt} {p : Pt} (hl : l.length ≤ 10000) (H : At w0 (RP g sv c l :: L) w) :
    Calls Try.prog 61 #[.pointer (some ⟨g, 0, none⟩), .agg #[.int .i64 p.h, .int .i64 p.s, .int .i64 p.n]] w (fun e w' => e = .returned (.tuple #[]) ∧ At w0 (RP g sv c (insP p l) :: L) w') := by
  obtain ⟨a1, n1, q1, HF⟩ := rp_open H
  obtain ⟨cF, cP, cB, cK, cR⟩ := c
  dsimp only at HF
  obtain ⟨ph, ps, pn⟩ := p
  dsimp only
  clear H
  obtain ⟨R, hR⟩ : ∃ R, insP ⟨ph, ps, pn⟩ l = R := ⟨_, rfl⟩
  rw [hR]
  have HR := Lib.hid hR
  clear hR
  go_enter Try.func61, Try.ntmps61
  go_wp2_with ((with_reducible refine k_box (T := 81) ?_); refine st_box rfl _ _ rfl _ rfl HF ?_; (clear HF; intro g3 w HF K hK; simp only [Value.cells, Act.eval, Value.cells, Array.getD_eq_getD_getElem?, List.getElem?_toArray, List.getElem?_cons_succ, List.getElem?_cons_zero, Option.getD_some] at HF; go_simp))
  replace HF := HF.sel 3 [1, 2, 0]
  apply wp_region_eff [4, 6, 7, 10] (fun i => (#[[], [], [], [], [], [], [], [4, 6], [], [], [4, 6, 7]] : Array (List Nat)).getD i []) (fun val i => (([_, _, _, _, val 4, .agg #[.int .i64 ph, .int .i64 ps, .int .i64 pn], val 6, val 7, _, _, val 10]) : List Value).toArray.getD i undef) (fun E val => At w0 (Blk g (.cells (if E 10 = true then #[sv, .int .i64 cF, .int .i64 cP, .int .i64 cB, .int .i64 cK, .int .i64 cR, val 7] else #[sv, .int .i64 cF, .int .i64 cP, .int .i64 cB, .int .i64 cK, .int .i64 cR, .slice a1 n1 q1]) 45 (0, 0)) :: (if E 7 = true then OP 81 (val 7) (l ++ [(⟨ph, ps, pn⟩ : Pt)]) else OP 81 (.slice a1 n1 q1) l) :: (if E 6 = true then SlBlk (val 6) #[.int .i64 ph, .int .i64 ps, .int .i64 pn] 81 else emp) :: (if E 4 = true then pur (val 4 = .slice a1 n1 q1) else emp) :: Blk g3 (.cells #[.int .i64 ph, .int .i64 ps, .int .i64 pn] 81 (0, 0)) :: L)) (by kernel_rfl) (by kernel_rfl) (by kernel_rfl) (by kernel_rfl) ((HF.addEmp.addEmp).sel 5 [2, 3, 0, 1, 4])
  case step =>
    iterate 4 (refine ⟨eff_pl rfl (fun _ => by rfl) fun E val hn T ds w K H hk ho hK => ?_, ?_⟩; rotate_left)
    refine ⟨eff_mk rfl (fun _ => by rfl) fun E val hE0 hcl hn T ds w K H hk ho hK => ?_, ?_⟩; rotate_left
    refine ⟨eff_pl rfl (fun _ => by rfl) fun E val hn T ds w K H hk ho hK => ?_, ?_⟩; rotate_left
    iterate 2 (refine ⟨eff_mk rfl (fun _ => by rfl) fun E val hE0 hcl hn T ds w K H hk ho hK => ?_, ?_⟩; rotate_left)
    iterate 2 (refine ⟨eff_pl rfl (fun _ => by rfl) fun E val hn T ds w K H hk ho hK => ?_, ?_⟩; rotate_left)
    refine ⟨eff_mk rfl (fun _ => by rfl) fun E val hE0 hcl hn T ds w K H hk ho hK => ?_, ?_⟩; rotate_left
    exact trivial
    · have o0 := ho 0 (by kernel_rfl); clear ho; simp [know, dstAt, Region.binds] at hk o0; go_simp; exact hK _ H
    · have o0 := ho 0 (by kernel_rfl); clear ho; simp [know, dstAt, Region.binds] at hk o0; go_simp; exact hK _ H
    · clear ho; simp [know, dstAt, Region.binds] at hk; go_simp; exact hK _ H
    · clear ho; simp [know, dstAt, Region.binds] at hk; go_simp; exact hK _ H
    · clear ho; simp [know, dstAt, Region.binds] at hk
      (have q7 : E 7 = false := (by cases h : E 7 with | false => rfl | true => (have h2 := hcl 7 (by decide) h 4 (by decide); rw [hE0] at h2; cases h2))); (have q10 : E 10 = false := (by cases h : E 10 with | false => rfl | true => (have h2 := hcl 10 (by decide) h 4 (by decide); rw [hE0] at h2; cases h2))); (simp only [hE0, q7, q10, Bool.false_eq_true, if_false] at H); refine op_loadT (v := .slice a1 n1 q1) rfl hk ?_ H 0 rfl rfl ?_; (kernel_rfl); (refine hK _ _ ?_; have t4 : updE E 4 4 = true := rfl; have t6 : updE E 4 6 = E 6 := rfl; have t7 : updE E 4 7 = false := q7; have t10 : updE E 4 10 = false := q10; simp only [t4, t6, t7, t10, Bool.false_eq_true, if_true, if_false]; exact (At.pure rfl (H.sel 5 [0, 1, 2, 4])).sel 5 [1, 2, 3, 0, 4])
    · have o3 := ho 3 (by kernel_rfl); clear ho; simp [know, dstAt, Region.binds] at hk o3
      (refine op_rowT (T := 81) rfl o3 a81 s81 H 4 rfl rfl ?_; exact hK _ H)
    · clear ho; simp [know, dstAt, Region.binds] at hk
      (simp only [hE0, Bool.false_eq_true, if_false] at H); refine op_lit1T rfl hk Try.underlying43 s81 z81 rfl rfl (by decide) (by decide) (H.sel 5 [0, 1, 3, 4]) ?_; (intro x w' H; refine hK _ _ ?_; have t4 : updE E 6 4 = E 4 := rfl; have t6 : updE E 6 6 = true := rfl; have t7 : updE E 6 7 = E 7 := rfl; have t10 : updE E 6 10 = E 10 := rfl; simp only [t4, t6, t7, t10, Bool.false_eq_true, if_true, if_false]; exact H.sel 5 [1, 2, 0, 3, 4])
    · clear ho; simp [know, dstAt, Region.binds] at hk
      (have q10 : E 10 = false := (by cases h : E 10 with | false => rfl | true => (have h2 := hcl 10 (by decide) h 7 (by decide); rw [hE0] at h2; cases h2))); (have e4 := hn 4 (by decide)); (have e6 := hn 6 (by decide)); (simp only [hE0, q10, e4, e6, Bool.false_eq_true, if_true, if_false] at H); (have hv4 := (At.unpure (H.pick 3 rfl)).1); (obtain ⟨gs, hv6, HS⟩ := sl_ex (H.pick 2 rfl)); (have HN := HS.sel 5 [2, 0, 1, 3, 4]); refine op_appendT rfl Try.underlying43 s81 (bytes := 24) bt81 z81 rfl (hk.1.trans hv4) (hk.2.trans hv6) HN (pt_len (⟨ph, ps, pn⟩ : Pt)) (fun _ => ⟨_, rfl, cells_of (c := (⟨ph, ps, pn⟩ : Pt).cells) (HN.get 1 rfl)⟩) (pt_one (⟨ph, ps, pn⟩ : Pt)) (by simp only [maxLen]; omega) (by omega) ?_; (intro v' w' H2; refine hK _ _ ?_; have t4 : updE E 7 4 = true := e4; have t6 : updE E 7 6 = true := e6; have t7 : updE E 7 7 = true := rfl; have t10 : updE E 7 10 = false := q10; simp only [t4, t6, t7, t10, Bool.false_eq_true, if_true, if_false]; exact (At.imp ((op_snoc H2).pick 1 rfl) fun _ hh => (⟨gs, hv6, hh⟩ : SlBlk (val 6) #[.int .i64 ph, .int .i64 ps, .int .i64 pn] 81 _)).sel 5 [2, 1, 0, 3, 4])
    · clear ho; simp [know, dstAt, Region.binds] at hk; go_simp; exact hK _ H
    · clear ho; simp [know, dstAt, Region.binds] at hk; go_simp; exact hK _ H
    · clear ho; simp [know, dstAt, Region.binds] at hk
      (have e7 := hn 7 (by decide)); (simp only [hE0, e7, Bool.false_eq_true, if_true, if_false] at H); refine op_storeT rfl hk.1 hk.2.1 ?_ (by kernel_rfl) H 0 rfl (by simp) ?_; (obtain ⟨_, _, _, hv⟩ := own_form (H.pick 1 rfl); rw [hv]; rfl); (intro w' H; refine hK _ _ ?_; have t4 : updE E 10 4 = E 4 := rfl; have t6 : updE E 10 6 = E 6 := rfl; have t7 : updE E 10 7 = true := e7; have t10 : updE E 10 10 = true := rfl; simp only [t4, t6, t7, t10, if_true]; exact H)
  case ins =>
    iterate 4 (refine ⟨ins_pl rfl (fun _ _ _ => rfl), ?_⟩)
    refine ⟨ins_mk rfl (fun _ => rfl), ?_⟩
    refine ⟨ins_pl rfl (fun _ _ _ => rfl), ?_⟩
    iterate 2 (refine ⟨ins_mk rfl (fun _ => rfl), ?_⟩)
    iterate 2 (refine ⟨ins_pl rfl (fun _ _ _ => rfl), ?_⟩)
    refine ⟨ins_mk rfl (fun _ => rfl), ?_⟩
    exact trivial
  case jns =>
    iterate 4 (refine ⟨j_pl (fun _ _ _ => rfl), ?_⟩)
    refine ⟨j_mk rfl, ?_⟩
    refine ⟨j_pl (fun _ _ _ => rfl), ?_⟩
    iterate 2 (refine ⟨j_mk rfl, ?_⟩)
    iterate 2 (refine ⟨j_pl (fun _ _ _ => rfl), ?_⟩)
    refine ⟨j_mk rfl, ?_⟩
    exact trivial
  case fin =>
    intro E val w5 hE H
    have e4 := hE 4 (by decide)
    have e6 := hE 6 (by decide)
    have e7 := hE 7 (by decide)
    have e10 := hE 10 (by decide)
    simp only [e4, e6, e7, e10, if_true] at H
    clear hE e4 e6 e7 e10 HF
    obtain ⟨ad, cap, hv7, _, _, _, hpos, _⟩ := own_value (H.pick 1 rfl)
    rw [List.length_append, List.length_cons, List.length_nil] at hv7 hpos
    obtain ⟨b, rfl⟩ := hpos (by omega)
    rw [hv7] at H
    have HF := H.sel 5 [0, 1, 4]
    clear H hpos
    simp [putAll, Act.put]
    clear hv7
    have hw1 : wrap64 ((l.length : Int) + 1 - 1) = l.length := by rw [wrap64_of (by omega) (by omega)]; omega
    have hw2 : wrap64 ((((l.length + 1 : Nat) : Int)) - 1) = l.length := by rw [wrap64_of (by omega) (by omega)]; omega
    go_wp2_with ((with_reducible refine k_load ?_); refine st_load rfl _ _ rfl _ _ rfl ?_ HF 0 rfl rfl ?_; (kernel_rfl); (intro K hK; go_simp))
    go_loopw [4] (fun s4 wr => ∃ (i : Nat) (y : Pt), i ≤ l.length ∧ s4 = .int .i64 i ∧ Hid (insP (⟨ph, ps, pn⟩ : Pt) (l.take i) ++ l.drop i = R) ∧ At w0 (Blk g (.cells #[sv, .int .i64 cF, .int .i64 cP, .int .i64 cB, .int .i64 cK, .int .i64 cR, .slice (some b) (l.length + 1) cap] 45 (0, 0)) :: OP 81 (.slice (some b) (l.length + 1) cap) (l.take i ++ y :: l.drop i) :: Blk g3 (.cells #[.int .i64 ph, .int .i64 ps, .int .i64 pn] 81 (0, 0)) :: L) wr) (fun s4 _ => (intOf s4).toNat)
    case atStart => exact ⟨l.length, ⟨ph, ps, pn⟩, Nat.le_refl _, rfl, Lib.hid (by rw [List.take_length, List.drop_length, List.append_nil]; exact HR.out), by rw [List.take_length, List.drop_length]; exact HF⟩
    case round =>
      clear HF
      obtain ⟨i, y, hi, rfl, HI, HF⟩ := hrel
      rcases Nat.eq_zero_or_pos i with h0 | h0
      · subst h0
        go_wp2_with fail
        apply wp_region_eff [] (fun i => (#[[], [], [], [], [], [], [], [], [], [], [], [], [], []] : Array (List Nat)).getD i []) (fun val i => ((_ :: .bool false :: .bool false :: undef :: undef :: undef :: undef :: undef :: undef :: undef :: undef :: undef :: undef :: .bool false :: []) : List Value).toArray.getD i undef) (fun E val => At w0 (Blk g (.cells #[sv, .int .i64 cF, .int .i64 cP, .int .i64 cB, .int .i64 cK, .int .i64 cR, .slice (some b) (l.length + 1) cap] 45 (0, 0)) :: OP 81 (.slice (some b) (l.length + 1) cap) (l.take 0 ++ y :: l.drop 0) :: Blk g3 (.cells #[.int .i64 ph, .int .i64 ps, .int .i64 pn] 81 (0, 0)) :: L)) (by kernel_rfl) (by kernel_rfl) (by kernel_rfl) (by kernel_rfl) (HF)
        case step =>
          iterate 3 (refine ⟨eff_pl rfl (fun _ => by rfl) fun E val hn T ds w K H hk ho hK => ?_, ?_⟩; rotate_left)
          iterate 10 (refine ⟨eff_no rfl (fun _ => by rfl) (fun _ => rfl), ?_⟩)
          refine ⟨eff_pl rfl (fun _ => by rfl) fun E val hn T ds w K H hk ho hK => ?_, ?_⟩; rotate_left
          exact trivial
          · have o4 := ho 4 (by kernel_rfl); clear ho; simp [know, dstAt, Region.binds] at hk o4; go_simp; exact hK _ H
          · clear ho; simp [know, dstAt, Region.binds] at hk; go_simp; exact hK _ H
          · clear ho; simp [know, dstAt, Region.binds] at hk; go_simp; exact hK _ H
          · clear ho; simp [know, dstAt, Region.binds] at hk; go_simp; exact hK _ H
        case ins =>
          iterate 14 (refine ⟨ins_pl rfl (fun _ _ _ => rfl), ?_⟩)
          exact trivial
        case jns =>
          iterate 14 (refine ⟨j_pl (fun _ _ _ => rfl), ?_⟩)
          exact trivial
        case fin =>
          intro E val w5 hE H
          clear HF hE
          have HF := H
          clear H
          simp [putAll, Act.put]
          go_wp2_with fail
          apply wp_region_eff [7] (fun i => (#[[], [], [], [], [], [], [], []] : Array (List Nat)).getD i []) (fun val i => (([_, _, _, .slice (some b) (l.length + 1) cap, _, .agg #[.int .i64 ph, .int .i64 ps, .int .i64 pn], _, val 7]) : List Value).toArray.getD i undef) (fun E val => At w0 (Blk g (.cells #[sv, .int .i64 cF, .int .i64 cP, .int .i64 cB, .int .i64 cK, .int .i64 cR, .slice (some b) (l.length + 1) cap] 45 (0, 0)) :: OP 81 (.slice (some b) (l.length + 1) cap) (setPt (E 7) (l.take (0) ++ y :: l.drop (0)) (0) ⟨ph, ps, pn⟩) :: Blk g3 (.cells #[.int .i64 ph, .int .i64 ps, .int .i64 pn] 81 (0, 0)) :: L)) (by kernel_rfl) (by kernel_rfl) (by kernel_rfl) (by kernel_rfl) (HF)
          case step =>
            iterate 7 (refine ⟨eff_pl rfl (fun _ => by rfl) fun E val hn T ds w K H hk ho hK => ?_, ?_⟩; rotate_left)
            refine ⟨eff_mk rfl (fun _ => by rfl) fun E val hE0 hcl hn T ds w K H hk ho hK => ?_, ?_⟩; rotate_left
            exact trivial
            · have o0 := ho 0 (by kernel_rfl); clear ho; simp [know, dstAt, Region.binds] at hk o0; go_simp; exact hK _ H
            · clear ho; simp [know, dstAt, Region.binds] at hk; go_simp; exact hK _ H
            · clear ho; simp [know, dstAt, Region.binds] at hk; go_simp; exact hK _ H
            · clear ho; simp [know, dstAt, Region.binds] at hk
              (refine op_loadT rfl hk ?_ H 0 rfl rfl ?_; (kernel_rfl); exact hK _ H)
            · have o4 := ho 4 (by kernel_rfl); clear ho; simp [know, dstAt, Region.binds] at hk o4; go_simp; exact hK _ H
            · have o3 := ho 3 (by kernel_rfl); clear ho; simp [know, dstAt, Region.binds] at hk o3
              (refine op_rowT (T := 81) rfl o3 a81 s81 H 2 rfl rfl ?_; exact hK _ H)
            · clear ho; simp [know, dstAt, Region.binds] at hk; go_simp; exact hK _ H
            · clear ho; simp [know, dstAt, Region.binds] at hk
              (simp only [hE0] at H); refine op_pointPut (⟨ph, ps, pn⟩ : Pt) (i := 0) rfl hk.1 hk.2.1 s81 (H.pick 1 rfl) (by rw [setPt_len, List.length_append, List.length_take, List.length_cons, List.length_drop]; omega) ?_; (intro w' H; refine hK _ _ ?_; have t7 : updE E 7 7 = true := rfl; simp only [t7]; exact H.sel 3 [1, 0, 2])
          case ins =>
            iterate 7 (refine ⟨ins_pl rfl (fun _ _ _ => rfl), ?_⟩)
            refine ⟨ins_mk rfl (fun _ => rfl), ?_⟩
            exact trivial
          case jns =>
            iterate 7 (refine ⟨j_pl (fun _ _ _ => rfl), ?_⟩)
            refine ⟨j_mk rfl, ?_⟩
            exact trivial
          case fin =>
            intro E val w5 hE H
            have e7 := hE 7 (by decide)
            simp only [e7] at H
            clear hE e7 HF
            have hset : setPt true (l.take (0) ++ y :: l.drop (0)) (0) ⟨ph, ps, pn⟩ = R := by
              have := HI.out
              rw [List.take_zero, insP_nil, List.drop_zero] at this
              show (l.take 0 ++ y :: l.drop 0).set 0 _ = R
              rw [place_step (Nat.zero_le _), ← this]
              rfl
            rw [hset] at H
            have HF := H
            clear H
            simp [putAll, Act.put]
            go_wp2_with fail
            exact ⟨rfl, .tuple #[], results_none rfl _ _ _, rfl, rp_mk (c := ⟨cF, cP, cB, cK, cR⟩) (HF.sel 3 [0, 1])⟩
      · obtain ⟨j, rfl⟩ : ∃ j, i = j + 1 := ⟨i - 1, by omega⟩
        obtain ⟨x, hx⟩ : ∃ x, l[j]? = some x := ⟨_, List.getElem?_eq_getElem (by omega)⟩
        have gi : (0 : Int) < (j : Int) + 1 := by omega
        have hwj : wrap64 ((j : Int) + 1 - 1) = j := by rw [wrap64_of (by omega) (by omega)]; omega
        have hwj2 : IntKind.i64.wrap (j : Int) = j := IntWalk.i64_in _ (by omega)
        have gj : (j : Int) < (l.length : Int) + 1 := by omega
        have gj2 : (j : Int) + 1 < (l.length : Int) + 1 := by omega
        have hxA : (l.take (j + 1) ++ y :: l.drop (j + 1))[j]? = some x := by
          rw [List.getElem?_append_left (by rw [List.length_take]; omega), List.getElem?_take_of_lt (by omega), hx]
        obtain ⟨bq, hbq⟩ : ∃ bq, aheadS (⟨ph, ps, pn⟩ : Pt) x = bq := ⟨_, rfl⟩
        have HAh := Lib.hid (fun (w2 : World) (M : List HProp) (HM : At w0 M w2) => ahead HM (⟨ph, ps, pn⟩ : Pt) x)
        rw [hbq] at HAh
        have HBQ := Lib.hid hbq
        have HXA := Lib.hid hxA
        have HX := Lib.hid hx
        have HT := Lib.hid (show l.take (j + 1) = l.take j ++ [x] by rw [List.take_add_one, hx, Option.toList_some])
        obtain ⟨xh, xs, xn⟩ := x
        have HSx := Lib.hid (show sizeT Try.prog 81 = some ([.int .i64 xh, .int .i64 xs, .int .i64 xn] : List Value).length from s81)
        dsimp only at HAh
        clear hxA hx hbq
        go_wp2_with fail
        apply wp_region_eff [] (fun i => (#[[], [], [], [], [], [], [], [], [], [], [], [], [], []] : Array (List Nat)).getD i []) (fun val i => (([_, .bool true, .bool true, .agg #[.int .i64 ph, .int .i64 ps, .int .i64 pn], _, _, _, .slice (some b) (l.length + 1) cap, _, .int .i64 j, _, .agg #[.int .i64 xh, .int .i64 xs, .int .i64 xn], .bool bq, .bool bq]) : List Value).toArray.getD i undef) (fun E val => At w0 (Blk g (.cells #[sv, .int .i64 cF, .int .i64 cP, .int .i64 cB, .int .i64 cK, .int .i64 cR, .slice (some b) (l.length + 1) cap] 45 (0, 0)) :: OP 81 (.slice (some b) (l.length + 1) cap) (l.take (j + 1) ++ y :: l.drop (j + 1)) :: Blk g3 (.cells #[.int .i64 ph, .int .i64 ps, .int .i64 pn] 81 (0, 0)) :: L)) (by kernel_rfl) (by kernel_rfl) (by kernel_rfl) (by kernel_rfl) (HF)
        case step =>
          iterate 14 (refine ⟨eff_pl rfl (fun _ => by rfl) fun E val hn T ds w K H hk ho hK => ?_, ?_⟩; rotate_left)
          exact trivial
          · have o4 := ho 4 (by kernel_rfl); clear ho; simp [know, dstAt, Region.binds] at hk o4; go_simp; exact hK _ H
          · clear ho; simp [know, dstAt, Region.binds] at hk; go_simp; exact hK _ H
          · clear ho; simp [know, dstAt, Region.binds] at hk; go_simp; exact hK _ H
          · have o3 := ho 3 (by kernel_rfl); clear ho; simp [know, dstAt, Region.binds] at hk o3
            (refine op_rowT (T := 81) rfl o3 a81 s81 H 2 rfl rfl ?_; exact hK _ H)
          · have o0 := ho 0 (by kernel_rfl); clear ho; simp [know, dstAt, Region.binds] at hk o0; go_simp; exact hK _ H
          · clear ho; simp [know, dstAt, Region.binds] at hk; go_simp; exact hK _ H
          · clear ho; simp [know, dstAt, Region.binds] at hk; go_simp; exact hK _ H
          · clear ho; simp [know, dstAt, Region.binds] at hk
            (refine op_loadT rfl hk.1 ?_ H 0 rfl rfl ?_; (kernel_rfl); exact hK _ H)
          · have o4 := ho 4 (by kernel_rfl); clear ho; simp [know, dstAt, Region.binds] at hk o4; go_simp; exact hK _ H
          · clear ho; simp [know, dstAt, Region.binds] at hk; go_simp; exact hK _ H
          · clear ho; simp [know, dstAt, Region.binds] at hk; go_simp; exact hK _ H
          · clear ho; simp [know, dstAt, Region.binds] at hk
            (refine op_cellsT (vs := [.int .i64 xh, .int .i64 xs, .int .i64 xn]) rfl hk.1 a81 HSx.out (pt_cell (H.pick 1 rfl) HXA.out) ?_; exact hK _ H)
          · clear ho; simp [know, dstAt, Region.binds] at hk
            (go_simp; refine (HAh.out _ _ H).mono ?_; rintro e w' ⟨rfl, H⟩; exact hK _ H)
          · clear ho; simp [know, dstAt, Region.binds] at hk; go_simp; exact hK _ H
        case ins =>
          iterate 14 (refine ⟨ins_pl rfl (fun _ _ _ => rfl), ?_⟩)
          exact trivial
        case jns =>
          iterate 14 (refine ⟨j_pl (fun _ _ _ => rfl), ?_⟩)
          exact trivial
        case fin =>
          intro E val w5 hE H
          clear HF hE HAh
          have HF := H
          clear H
          simp [putAll, Act.put]
          cases bq with
          | false =>
            have HE := Lib.hid (show l.take (j + 1) ++ (⟨ph, ps, pn⟩ : Pt) :: l.drop (j + 1) = R from by
              have := HI.out
              rw [HT.out, insP_here HBQ.out] at this
              rw [HT.out, ← this]
              simp)
            go_wp2_with fail
            apply wp_region_eff [7] (fun i => (#[[], [], [], [], [], [], [], []] : Array (List Nat)).getD i []) (fun val i => (([_, _, _, .slice (some b) (l.length + 1) cap, _, .agg #[.int .i64 ph, .int .i64 ps, .int .i64 pn], _, val 7]) : List Value).toArray.getD i undef) (fun E val => At w0 (Blk g (.cells #[sv, .int .i64 cF, .int .i64 cP, .int .i64 cB, .int .i64 cK, .int .i64 cR, .slice (some b) (l.length + 1) cap] 45 (0, 0)) :: OP 81 (.slice (some b) (l.length + 1) cap) (setPt (E 7) (l.take (j + 1) ++ y :: l.drop (j + 1)) (j + 1) ⟨ph, ps, pn⟩) :: Blk g3 (.cells #[.int .i64 ph, .int .i64 ps, .int .i64 pn] 81 (0, 0)) :: L)) (by kernel_rfl) (by kernel_rfl) (by kernel_rfl) (by kernel_rfl) (HF)
            case step =>
              iterate 7 (refine ⟨eff_pl rfl (fun _ => by rfl) fun E val hn T ds w K H hk ho hK => ?_, ?_⟩; rotate_left)
              refine ⟨eff_mk rfl (fun _ => by rfl) fun E val hE0 hcl hn T ds w K H hk ho hK => ?_, ?_⟩; rotate_left
              exact trivial
              · have o0 := ho 0 (by kernel_rfl); clear ho; simp [know, dstAt, Region.binds] at hk o0; go_simp; exact hK _ H
              · clear ho; simp [know, dstAt, Region.binds] at hk; go_simp; exact hK _ H
              · clear ho; simp [know, dstAt, Region.binds] at hk; go_simp; exact hK _ H
              · clear ho; simp [know, dstAt, Region.binds] at hk
                (refine op_loadT rfl hk ?_ H 0 rfl rfl ?_; (kernel_rfl); exact hK _ H)
              · have o4 := ho 4 (by kernel_rfl); clear ho; simp [know, dstAt, Region.binds] at hk o4; go_simp; exact hK _ H
              · have o3 := ho 3 (by kernel_rfl); clear ho; simp [know, dstAt, Region.binds] at hk o3
                (refine op_rowT (T := 81) rfl o3 a81 s81 H 2 rfl rfl ?_; exact hK _ H)
              · clear ho; simp [know, dstAt, Region.binds] at hk; go_simp; exact hK _ H
              · clear ho; simp [know, dstAt, Region.binds] at hk
                (simp only [hE0] at H); refine op_pointPut (⟨ph, ps, pn⟩ : Pt) (i := j + 1) rfl hk.1 hk.2.1 s81 (H.pick 1 rfl) (by rw [setPt_len, List.length_append, List.length_take, List.length_cons, List.length_drop]; omega) ?_; (intro w' H; refine hK _ _ ?_; have t7 : updE E 7 7 = true := rfl; simp only [t7]; exact H.sel 3 [1, 0, 2])
            case ins =>
              iterate 7 (refine ⟨ins_pl rfl (fun _ _ _ => rfl), ?_⟩)
              refine ⟨ins_mk rfl (fun _ => rfl), ?_⟩
              exact trivial
            case jns =>
              iterate 7 (refine ⟨j_pl (fun _ _ _ => rfl), ?_⟩)
              refine ⟨j_mk rfl, ?_⟩
              exact trivial
            case fin =>
              intro E val w5 hE H
              have e7 := hE 7 (by decide)
              simp only [e7] at H
              clear hE e7 HF
              have hset : setPt true (l.take (j + 1) ++ y :: l.drop (j + 1)) (j + 1) ⟨ph, ps, pn⟩ = R := by
                show (l.take (j + 1) ++ y :: l.drop (j + 1)).set (j + 1) _ = R
                rw [place_step (by omega)]
                exact HE.out
              rw [hset] at H
              have HF := H
              clear H
              simp [putAll, Act.put]
              go_wp2_with fail
              exact ⟨rfl, .tuple #[], results_none rfl _ _ _, rfl, rp_mk (c := ⟨cF, cP, cB, cK, cR⟩) (HF.sel 3 [0, 1])⟩
          | true =>
            have HE := Lib.hid (show insP (⟨ph, ps, pn⟩ : Pt) (l.take j) ++ l.drop j = R from by
              have := HI.out
              rw [HT.out, insP_skip HBQ.out] at this
              obtain ⟨hlt, he⟩ := List.getElem?_eq_some_iff.1 HX.out
              rw [List.drop_eq_getElem_cons hlt, he, ← this]
              simp)
            have HSt := Lib.hid (shift_step (y := y) HX.out)
            have HG2 := Lib.hid (fun (bb : Bool) => (setPt_get (b := bb) (A := l.take (j + 1) ++ y :: l.drop (j + 1)) (i := j + 1) (x := (⟨xh, xs, xn⟩ : Pt)) (show j ≠ j + 1 by omega)).trans HXA.out)
            go_wp2_with fail
            apply wp_region_eff [14] (fun i => (#[[], [], [], [], [], [], [], [], [], [], [], [], [], [], []] : Array (List Nat)).getD i []) (fun val i => (([_, _, _, .slice (some b) (l.length + 1) cap, _, _, _, _, .slice (some b) (l.length + 1) cap, _, .int .i64 j, _, .agg #[.int .i64 xh, .int .i64 xs, .int .i64 xn], _, val 14]) : List Value).toArray.getD i undef) (fun E val => At w0 (Blk g (.cells #[sv, .int .i64 cF, .int .i64 cP, .int .i64 cB, .int .i64 cK, .int .i64 cR, .slice (some b) (l.length + 1) cap] 45 (0, 0)) :: OP 81 (.slice (some b) (l.length + 1) cap) (setPt (E 14) (l.take (j + 1) ++ y :: l.drop (j + 1)) (j + 1) ⟨xh, xs, xn⟩) :: Blk g3 (.cells #[.int .i64 ph, .int .i64 ps, .int .i64 pn] 81 (0, 0)) :: L)) (by kernel_rfl) (by kernel_rfl) (by kernel_rfl) (by kernel_rfl) (HF)
            case step =>
              iterate 14 (refine ⟨eff_pl rfl (fun _ => by rfl) fun E val hn T ds w K H hk ho hK => ?_, ?_⟩; rotate_left)
              refine ⟨eff_mk rfl (fun _ => by rfl) fun E val hE0 hcl hn T ds w K H hk ho hK => ?_, ?_⟩; rotate_left
              exact trivial
              · have o0 := ho 0 (by kernel_rfl); clear ho; simp [know, dstAt, Region.binds] at hk o0; go_simp; exact hK _ H
              · clear ho; simp [know, dstAt, Region.binds] at hk; go_simp; exact hK _ H
              · clear ho; simp [know, dstAt, Region.binds] at hk; go_simp; exact hK _ H
              · clear ho; simp [know, dstAt, Region.binds] at hk
                (refine op_loadT rfl hk ?_ H 0 rfl rfl ?_; (kernel_rfl); exact hK _ H)
              · have o4 := ho 4 (by kernel_rfl); clear ho; simp [know, dstAt, Region.binds] at hk o4; go_simp; exact hK _ H
              · have o0 := ho 0 (by kernel_rfl); clear ho; simp [know, dstAt, Region.binds] at hk o0; go_simp; exact hK _ H
              · clear ho; simp [know, dstAt, Region.binds] at hk; go_simp; exact hK _ H
              · clear ho; simp [know, dstAt, Region.binds] at hk; go_simp; exact hK _ H
              · clear ho; simp [know, dstAt, Region.binds] at hk
                (refine op_loadT rfl hk ?_ H 0 rfl rfl ?_; (kernel_rfl); exact hK _ H)
              · have o4 := ho 4 (by kernel_rfl); clear ho; simp [know, dstAt, Region.binds] at hk o4; go_simp; exact hK _ H
              · clear ho; simp [know, dstAt, Region.binds] at hk; go_simp; exact hK _ H
              · clear ho; simp [know, dstAt, Region.binds] at hk; go_simp; exact hK _ H
              · clear ho; simp [know, dstAt, Region.binds] at hk
                (refine op_cellsT (vs := [.int .i64 xh, .int .i64 xs, .int .i64 xn]) rfl hk a81 HSx.out (pt_cell (H.pick 1 rfl) (HG2.out _)) ?_; exact hK _ H)
              · clear ho; simp [know, dstAt, Region.binds] at hk; go_simp; exact hK _ H
              · clear ho; simp [know, dstAt, Region.binds] at hk
                (simp only [hE0] at H); refine op_pointPut (⟨xh, xs, xn⟩ : Pt) (i := j + 1) rfl hk.1 hk.2.1 s81 (H.pick 1 rfl) (by rw [setPt_len, List.length_append, List.length_take, List.length_cons, List.length_drop]; omega) ?_; (intro w' H; refine hK _ _ ?_; have t14 : updE E 14 14 = true := rfl; simp only [t14]; exact H.sel 3 [1, 0, 2])
            case ins =>
              iterate 14 (refine ⟨ins_pl rfl (fun _ _ _ => rfl), ?_⟩)
              refine ⟨ins_mk rfl (fun _ => rfl), ?_⟩
              exact trivial
            case jns =>
              iterate 14 (refine ⟨j_pl (fun _ _ _ => rfl), ?_⟩)
              refine ⟨j_mk rfl, ?_⟩
              exact trivial
            case fin =>
              intro E val w6 hE H
              have e14 := hE 14 (by decide)
              simp only [e14] at H
              clear hE e14 HF
              have hset : setPt true (l.take (j + 1) ++ y :: l.drop (j + 1)) (j + 1) (⟨xh, xs, xn⟩ : Pt) = l.take j ++ (⟨xh, xs, xn⟩ : Pt) :: l.drop j := HSt.out
              rw [hset] at H
              have HF := H
              clear H hset
              simp [putAll, Act.put]
              go_wp2_with fail
              go_roundw
              case rel => exact ⟨j, ⟨xh, xs, xn⟩, by omega, rfl, Lib.hid HE.out, HF⟩
              case measure => simp [intOf]
end
end Rg
end Go.Proofs.Ytohfboolicheeaa
