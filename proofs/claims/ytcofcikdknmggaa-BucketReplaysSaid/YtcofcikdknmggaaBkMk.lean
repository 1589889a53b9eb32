/-
  Rows of the call's own, as lists of entries and of lasts; copies.
-/
import Derived.Test.YtcofcikdknmggaaBkIns
namespace Go.Proofs.Ytcofcikdknmggaa
open Go.Hp Go.RowKit
set_option linter.unusedVariables false
set_option linter.unusedSimpArgs false
set_option maxRecDepth 100000
set_option maxHeartbeats 1000000
namespace Bk

def eC (l : List En) : List Value := (l.map En.cells).flatten
def lC (l : List La) : List Value := (l.map La.cells).flatten
def OE (v : Value) (l : List En) : HProp := OwnRow 39 4 v l.length (eC l)
def OL (v : Value) (l : List La) : HProp := OwnRow 53 7 v l.length (lC l)
def insAt {α : Type} (l : List α) (i : Nat) (x : α) : List α := l.take i ++ x :: l.drop i
theorem insAt_len {α : Type} {l : List α} {i : Nat} {x : α} (h : i ≤ l.length) : (insAt l i x).length = l.length + 1 := by
  unfold insAt
  simp only [List.length_append, List.length_take, List.length_cons, List.length_drop]
  omega

theorem flat_take {α : Type} {f : α → List Value} {s : Nat} (hf : ∀ x, (f x).length = s) : ∀ (l : List α) (i : Nat), i ≤ l.length → ((l.map f).flatten).take (i * s) = ((l.take i).map f).flatten
  | [], i, h => by
    obtain rfl : i = 0 := by simpa using h
    simp
  | x :: l, 0, _ => by simp
  | x :: l, i + 1, h => by
    rw [List.map_cons, List.flatten_cons, List.take_succ_cons, List.map_cons, List.flatten_cons, ← flat_take hf l i (by simpa using h), List.take_append, List.take_of_length_le (by rw [hf, Nat.add_mul]; omega), hf, show (i + 1) * s - s = i * s by rw [Nat.add_mul]; omega]
theorem flat_drop {α : Type} {f : α → List Value} {s : Nat} (hf : ∀ x, (f x).length = s) : ∀ (l : List α) (i : Nat), i ≤ l.length → ((l.map f).flatten).drop (i * s) = ((l.drop i).map f).flatten
  | [], i, h => by
    obtain rfl : i = 0 := by simpa using h
    simp
  | x :: l, 0, _ => by simp
  | x :: l, i + 1, h => by
    rw [List.map_cons, List.flatten_cons, List.drop_succ_cons, ← flat_drop hf l i (by simpa using h), List.drop_append, List.drop_of_length_le (by rw [hf, Nat.add_mul]; omega), hf, show (i + 1) * s - s = i * s by rw [Nat.add_mul]; omega, List.nil_append]

theorem eC_ins {l : List En} {i : Nat} {x : En} (h : i ≤ l.length) : (eC l).take (i * 4) ++ x.cells ++ (eC l).drop (i * 4) = eC (insAt l i x) := by
  unfold eC insAt
  rw [flat_take (fun e : En => e.len) l i h, flat_drop (fun e : En => e.len) l i h]
  simp
theorem lC_ins {l : List La} {i : Nat} {x : La} (h : i ≤ l.length) : (lC l).take (i * 7) ++ x.cells ++ (lC l).drop (i * 7) = lC (insAt l i x) := by
  unfold lC insAt
  rw [flat_take (fun e : La => e.len) l i h, flat_drop (fun e : La => e.len) l i h]
  simp
theorem eC_del {l : List En} {i : Nat} (h : i < l.length) : (eC l).take (i * 4) ++ (eC l).drop ((i + 1) * 4) = eC (l.take i ++ l.drop (i + 1)) := by
  unfold eC
  rw [flat_take (fun e : En => e.len) l i (by omega), flat_drop (fun e : En => e.len) l (i + 1) (by omega)]
  simp
theorem ee_one (e : En) : ∀ u ∈ e.cells, u.oneCell' = true := by
  intro u hu
  unfold En.cells at hu
  simp only [List.mem_cons, List.not_mem_nil, or_false] at hu
  rcases hu with rfl | rfl | rfl | rfl <;> rfl
theorem ll_one (e : La) : ∀ u ∈ e.cells, u.oneCell' = true := by
  intro u hu
  unfold La.cells at hu
  simp only [List.mem_cons, List.not_mem_nil, or_false] at hu
  rcases hu with rfl | rfl | rfl | rfl | rfl | rfl | rfl <;> rfl
theorem eC_one (l : List En) : ∀ u ∈ eC l, u.oneCell' = true := by
  intro u hu
  obtain ⟨r, hr, hu⟩ := List.mem_flatten.1 hu
  obtain ⟨e, _, rfl⟩ := List.mem_map.1 hr
  exact ee_one e u hu
theorem lC_one (l : List La) : ∀ u ∈ lC l, u.oneCell' = true := by
  intro u hu
  obtain ⟨r, hr, hu⟩ := List.mem_flatten.1 hu
  obtain ⟨e, _, rfl⟩ := List.mem_map.1 hr
  exact ll_one e u hu
theorem eC_len (l : List En) : (eC l).length = l.length * 4 := by
  unfold eC
  rw [flat_len (size := 4) (by intro r hr; obtain ⟨e, _, rfl⟩ := List.mem_map.1 hr; rfl), List.length_map]
theorem lC_len (l : List La) : (lC l).length = l.length * 7 := by
  unfold lC
  rw [flat_len (size := 7) (by intro r hr; obtain ⟨e, _, rfl⟩ := List.mem_map.1 hr; rfl), List.length_map]

section
variable {w0 w : World} {L : List HProp}

theorem oe_recs {v : Value} {l : List En} (H : At w0 (OE v l :: L) w) : RecsAt w v 4 (l.map En.cells) := by
  obtain ⟨ad, cap, h1, h2, h3, h4, h5, h6⟩ := own_value H
  exact ⟨⟨ad, cap, by rw [List.length_map]; exact h1, by rw [List.length_map]; exact h2, h3, by rw [List.length_map]; exact h5, h6⟩, by intro r hr; obtain ⟨e, _, rfl⟩ := List.mem_map.1 hr; rfl⟩
theorem ol_recs {v : Value} {l : List La} (H : At w0 (OL v l :: L) w) : RecsAt w v 7 (l.map La.cells) := by
  obtain ⟨ad, cap, h1, h2, h3, h4, h5, h6⟩ := own_value H
  exact ⟨⟨ad, cap, by rw [List.length_map]; exact h1, by rw [List.length_map]; exact h2, h3, by rw [List.length_map]; exact h5, h6⟩, by intro r hr; obtain ⟨e, _, rfl⟩ := List.mem_map.1 hr; rfl⟩
theorem oe_one {v : Value} {l : List En} (H : At w0 (OE v l :: L) w) : v.oneCell' = true := by
  obtain ⟨ad, cap, rfl, _⟩ := own_value H
  rfl
theorem ol_one {v : Value} {l : List La} (H : At w0 (OL v l :: L) w) : v.oneCell' = true := by
  obtain ⟨ad, cap, rfl, _⟩ := own_value H
  rfl
theorem oe_cells {v : Value} {l : List En} (H : At w0 (OE v l :: L) w) : v.cells = #[v] := by
  obtain ⟨ad, cap, rfl, _⟩ := own_value H
  rfl
theorem ol_cells {v : Value} {l : List La} (H : At w0 (OL v l :: L) w) : v.cells = #[v] := by
  obtain ⟨ad, cap, rfl, _⟩ := own_value H
  rfl

theorem insE {v : Value} {l : List En} {i : Nat} {x : En} {gx : Nat} (hi : i ≤ l.length) (hby : (l.length + 1) * 40 ≤ 140737488355328) (H : At w0 (OE v l :: Blk gx (.cells x.cells.toArray 39 (0, 0)) :: L) w) :
    Calls Try.prog 56 #[v, .int .i64 i, .slice (some ⟨gx, 0, none⟩) 1 1] w (fun e w' => ∃ v', e = .returned v' ∧ At w0 (OE v' (insAt l i x) :: L) w') := by
  rcases Nat.lt_or_ge i l.length with h | h
  · refine (insE_mid h x.len (eC_one l) (ee_one x) hby H).mono ?_
    rintro e w' ⟨v', rfl, H⟩
    rw [eC_ins hi] at H
    refine ⟨v', rfl, ?_⟩
    unfold OE
    rw [insAt_len hi]
    exact H.sel 2 [0]
  · obtain rfl : i = l.length := by omega
    refine (insE_end x.len (ee_one x) hby H).mono ?_
    rintro e w' ⟨v', rfl, H⟩
    have e1 := eC_ins (l := l) (x := x) hi
    rw [List.take_of_length_le (by rw [eC_len]; omega), List.drop_of_length_le (by rw [eC_len]; omega), List.append_nil] at e1
    rw [e1] at H
    refine ⟨v', rfl, ?_⟩
    unfold OE
    rw [insAt_len hi]
    exact H.sel 2 [0]

theorem insL {v : Value} {l : List La} {i : Nat} {x : La} {gx : Nat} (hi : i ≤ l.length) (hby : (l.length + 1) * 56 ≤ 140737488355328) (H : At w0 (OL v l :: Blk gx (.cells x.cells.toArray 53 (0, 0)) :: L) w) :
    Calls Try.prog 45 #[v, .int .i64 i, .slice (some ⟨gx, 0, none⟩) 1 1] w (fun e w' => ∃ v', e = .returned v' ∧ At w0 (OL v' (insAt l i x) :: L) w') := by
  rcases Nat.lt_or_ge i l.length with h | h
  · refine (insL_mid h x.len (lC_one l) (ll_one x) hby H).mono ?_
    rintro e w' ⟨v', rfl, H⟩
    rw [lC_ins hi] at H
    refine ⟨v', rfl, ?_⟩
    unfold OL
    rw [insAt_len hi]
    exact H.sel 2 [0]
  · obtain rfl : i = l.length := by omega
    refine (insL_end x.len (ll_one x) hby H).mono ?_
    rintro e w' ⟨v', rfl, H⟩
    have e1 := lC_ins (l := l) (x := x) hi
    rw [List.take_of_length_le (by rw [lC_len]; omega), List.drop_of_length_le (by rw [lC_len]; omega), List.append_nil] at e1
    rw [e1] at H
    refine ⟨v', rfl, ?_⟩
    unfold OL
    rw [insAt_len hi]
    exact H.sel 2 [0]

theorem delE {v : Value} {l : List En} {i : Nat} (hi : i < l.length) (hby : l.length * 40 ≤ 140737488355328) (H : At w0 (OE v l :: L) w) :
    Calls Try.prog 57 #[v, .int .i64 i, .int .i64 ((i : Int) + 1)] w (fun e w' => ∃ v', e = .returned v' ∧ At w0 (OE v' (l.take i ++ l.drop (i + 1)) :: L) w') := by
  obtain ⟨m, hm⟩ : ∃ m, l.length = i + 1 + m := ⟨l.length - (i + 1), by omega⟩
  have H' : At w0 (OwnRow 39 4 v (i + 1 + m) (eC l) :: L) w := by rw [← hm]; exact H
  refine (delE_raw (eC_one l) (by rw [← hm]; exact hby) H').mono ?_
  rintro e w' ⟨v', rfl, H⟩
  rw [eC_del hi] at H
  refine ⟨v', rfl, ?_⟩
  unfold OE
  rw [show (l.take i ++ l.drop (i + 1)).length = i + m by simp only [List.length_append, List.length_take, List.length_drop]; omega]
  exact H

theorem clE {v : Value} {l : List En} (hvr : RecsAt w v 4 (l.map En.cells)) (hby : l.length * 40 ≤ 140737488355328) (H : At w0 L w) :
    Calls Try.prog 42 #[v] w (fun e w' => ∃ v', e = .returned v' ∧ At w0 (OE v' l :: L) w') := by
  obtain ⟨ad, cap, rfl, c1, c2, c3, c4⟩ := hvr.1
  clear hvr
  rw [List.length_map] at c1 c3 ⊢
  have hn := fun (w : World) => Lib.run_eql_slice_nil (P := Try.prog) w 22 39 ad l.length cap 0 0 Try.underlying22
  cases ad with
  | none =>
    have hx : l = [] := by
      rcases Nat.eq_zero_or_pos l.length with h | h
      · exact List.eq_nil_of_length_eq_zero h
      · obtain ⟨b, hb⟩ := c3 h
        cases hb
    subst hx
    simp only [Option.isNone_none, List.length_nil] at hn ⊢
    clear c3 c4
    go_enter Try.func42, Try.ntmps42
    go_wp2_with fail
    go_ret
    exact ⟨_, rfl, own_nil H _ _⟩
  | some b =>
    simp only [Option.isNone_some] at hn
    have Hc := Lib.hid (c4 b rfl)
    have Hl := Lib.hid (eC_len l)
    have Ho := Lib.hid (eC_one l)
    have Hw := Lib.hid (At.of w)
    have H0 := Lib.hid H
    clear c3 c4 H
    have HF := Hw.out
    clear Hw
    go_enter Try.func42, Try.ntmps42
    go_wp2_with (first | ((with_reducible refine k_lit ?_); refine st_lit rfl _ _ _ rfl #[] 39 0 HF ?_ ?_; (go_simp); (clear HF; intro g1 w1 HF K hK; replace HF := own_mk (n := 0) (xs := []) (size := 4) HF (Nat.le_refl _) (Nat.zero_le _) (by simp) (by simp) (by simp); go_simp))        | ((with_reducible refine k_builtin ?_); refine st_append rfl _ _ _ rfl 39 Try.underlying22 4 ?_ 40 ?_ _ z39 rfl _ _ _ rfl HF (some b) l.length cap (eC l) rfl Hl.out ?_ Ho.out ?_ ?_ ?_; (kernel_rfl); (kernel_rfl); (intro _; exact ⟨b, rfl, fun j u hj => (HF.ext 1 rfl).cell (Hc.out j u hj)⟩); (omega); (omega); (clear HF; intro v1 w2 HF K hK; go_simp)))
    go_ret
    rw [Nat.zero_add, List.nil_append] at HF
    exact ⟨_, rfl, HF.lift1 H0.out⟩

theorem clL {v : Value} {l : List La} (hvr : RecsAt w v 7 (l.map La.cells)) (hby : l.length * 56 ≤ 140737488355328) (H : At w0 L w) :
    Calls Try.prog 43 #[v] w (fun e w' => ∃ v', e = .returned v' ∧ At w0 (OL v' l :: L) w') := by
  obtain ⟨ad, cap, rfl, c1, c2, c3, c4⟩ := hvr.1
  clear hvr
  rw [List.length_map] at c1 c3 ⊢
  have hn := fun (w : World) => Lib.run_eql_slice_nil (P := Try.prog) w 23 53 ad l.length cap 0 0 Try.underlying23
  cases ad with
  | none =>
    have hx : l = [] := by
      rcases Nat.eq_zero_or_pos l.length with h | h
      · exact List.eq_nil_of_length_eq_zero h
      · obtain ⟨b, hb⟩ := c3 h
        cases hb
    subst hx
    simp only [Option.isNone_none, List.length_nil] at hn ⊢
    clear c3 c4
    go_enter Try.func43, Try.ntmps43
    go_wp2_with fail
    go_ret
    exact ⟨_, rfl, own_nil H _ _⟩
  | some b =>
    simp only [Option.isNone_some] at hn
    have Hc := Lib.hid (c4 b rfl)
    have Hl := Lib.hid (lC_len l)
    have Ho := Lib.hid (lC_one l)
    have Hw := Lib.hid (At.of w)
    have H0 := Lib.hid H
    clear c3 c4 H
    have HF := Hw.out
    clear Hw
    go_enter Try.func43, Try.ntmps43
    go_wp2_with (first | ((with_reducible refine k_lit ?_); refine st_lit rfl _ _ _ rfl #[] 53 0 HF ?_ ?_; (go_simp); (clear HF; intro g1 w1 HF K hK; replace HF := own_mk (n := 0) (xs := []) (size := 7) HF (Nat.le_refl _) (Nat.zero_le _) (by simp) (by simp) (by simp); go_simp))        | ((with_reducible refine k_builtin ?_); refine st_append rfl _ _ _ rfl 53 Try.underlying23 7 ?_ 56 ?_ _ z53 rfl _ _ _ rfl HF (some b) l.length cap (lC l) rfl Hl.out ?_ Ho.out ?_ ?_ ?_; (kernel_rfl); (kernel_rfl); (intro _; exact ⟨b, rfl, fun j u hj => (HF.ext 1 rfl).cell (Hc.out j u hj)⟩); (omega); (omega); (clear HF; intro v1 w2 HF K hK; go_simp)))
    go_ret
    rw [Nat.zero_add, List.nil_append] at HF
    exact ⟨_, rfl, HF.lift1 H0.out⟩

theorem z25 : zeroT Try.prog 25 = some (.agg #[.int .i64 0, .slice none 0 0, .slice none 0 0]) := by kernel_rfl

theorem twin {ve vl : Value} {u : Int} {es : List En} {ls : List La} (he : RecsAt w ve 4 (es.map En.cells)) (hl : RecsAt w vl 7 (ls.map La.cells)) (be : es.length * 40 ≤ 140737488355328) (bl : ls.length * 56 ≤ 140737488355328) (H : At w0 L w) :
    Calls Try.prog 30 #[.agg #[.int .i64 u, ve, vl]] w (fun e w' => ∃ ve' vl', e = .returned (.agg #[.int .i64 u, ve', vl']) ∧ At w0 (OE ve' es :: OL vl' ls :: L) w') := by
  have HF := At.of w
  have H0 := Lib.hid H
  have He := Lib.hid he
  have Hl := Lib.hid hl
  clear he hl H
  go_enter Try.func30, Try.ntmps30
  go_wp2_with (first | ((with_reducible refine k_box ?_); refine st_box rfl _ _ rfl _ rfl HF ?_; (clear HF; intro g1 w1 HF K hK; simp only [Value.cells] at HF; go_simp)) | ((with_reducible refine k_alloc ?_); refine st_alloc rfl _ rfl _ z25 _ rfl HF ?_; (clear HF; intro g2 w2 HF K hK; simp only [Value.cells] at HF; go_simp)))
  apply wp_region_eff [4, 7, 9] (fun i => (#[[], [], [], [], [], [], [], [], [4, 7], [4, 7]] : Array (List Nat)).getD i []) (fun val i => ((_ :: _ :: _ :: _ :: val 4 :: _ :: _ :: val 7 :: _ :: val 9 :: []) : List Value).toArray.getD i undef) (fun E val => At w (Blk g1 (.cells #[.int .i64 u, ve, vl] 25 (0, 0)) :: Blk g2 (.cells (if E 9 = true then #[.int .i64 u, val 4, val 7] else #[.int .i64 0, .slice none 0 0, .slice none 0 0]) 25 (0, 0)) :: (if E 4 = true then OE (val 4) es else emp) :: (if E 7 = true then OL (val 7) ls else emp) :: Arg w :: [])) (by kernel_rfl) (by kernel_rfl) (by kernel_rfl) (by kernel_rfl) ((HF.addEmp.addEmp).sel 5 [3, 2, 0, 1, 4])
  case step =>
    iterate 4 (refine ⟨eff_pl rfl (fun _ => by rfl) fun E val hn T ds w K H hk ho hK => ?_, ?_⟩; rotate_left)
    refine ⟨eff_mk rfl (fun _ => by rfl) fun E val hE0 hcl hn T ds w K H hk ho hK => ?_, ?_⟩; rotate_left
    iterate 2 (refine ⟨eff_pl rfl (fun _ => by rfl) fun E val hn T ds w K H hk ho hK => ?_, ?_⟩; rotate_left)
    refine ⟨eff_mk rfl (fun _ => by rfl) fun E val hE0 hcl hn T ds w K H hk ho hK => ?_, ?_⟩; rotate_left
    refine ⟨eff_pl rfl (fun _ => by rfl) fun E val hn T ds w K H hk ho hK => ?_, ?_⟩; rotate_left
    refine ⟨eff_mk rfl (fun _ => by rfl) fun E val hE0 hcl hn T ds w K H hk ho hK => ?_, ?_⟩; rotate_left
    exact trivial
    · have o1 := ho 1 (by kernel_rfl); clear ho; simp [know, dstAt, Region.binds] at hk o1; go_simp; exact hK _ H
    · clear ho; simp [know, dstAt, Region.binds] at hk
      (refine op_loadT rfl hk (by kernel_rfl) H 0 rfl rfl ?_; exact hK _ H)
    · have o1 := ho 1 (by kernel_rfl); clear ho; simp [know, dstAt, Region.binds] at hk o1; go_simp; exact hK _ H
    · clear ho; simp [know, dstAt, Region.binds] at hk
      (refine op_loadT rfl hk (by kernel_rfl) H 0 rfl rfl ?_; exact hK _ H)
    · clear ho; simp [know, dstAt, Region.binds] at hk
      (have q9 : E 9 = false := (by cases h : E 9 with | false => rfl | true => (have h2 := hcl 9 (by decide) h 4 (by decide); rw [hE0] at h2; cases h2))); (simp only [hE0, q9, Bool.false_eq_true, if_false] at H); go_simp; refine (clE (He.out.ext (H.ext 4 rfl)) be (H.sel 3 [0, 1])).mono ?_; rintro e w' ⟨v', rfl, H⟩; have t9 : updE E 4 9 = false := q9; refine hK _ _ ?_; (simp only [t9, Bool.false_eq_true, if_false]); exact H.sel 3 [1, 2, 0]
    · have o1 := ho 1 (by kernel_rfl); clear ho; simp [know, dstAt, Region.binds] at hk o1; go_simp; exact hK _ H
    · clear ho; simp [know, dstAt, Region.binds] at hk
      (refine op_loadT rfl hk (by kernel_rfl) H 0 rfl rfl ?_; exact hK _ H)
    · clear ho; simp [know, dstAt, Region.binds] at hk
      (have q9 : E 9 = false := (by cases h : E 9 with | false => rfl | true => (have h2 := hcl 9 (by decide) h 7 (by decide); rw [hE0] at h2; cases h2))); (simp only [hE0, q9, Bool.false_eq_true, if_false] at H); go_simp; refine (clL (Hl.out.ext (H.ext 4 rfl)) bl (H.sel 4 [0, 1, 2])).mono ?_; rintro e w' ⟨v', rfl, H⟩; have t9 : updE E 7 9 = false := q9; refine hK _ _ ?_; (simp only [t9, Bool.false_eq_true, if_false]); exact H.sel 4 [1, 2, 3, 0]
    · clear ho; simp [know, dstAt, Region.binds] at hk
      first | (have e4 := hn 4 (by decide); have e7 := hn 7 (by decide); have H2 := H; simp only [e4, e7, if_true] at H2; have c4 := oe_cells (H2.pick 2 rfl); have c7 := ol_cells (H2.pick 3 rfl); unfold Value.cells at c4 c7; clear H2; go_simp; exact hK _ H) | (go_simp; exact hK _ H)
    · have o2 := ho 2 (by kernel_rfl); clear ho; simp [know, dstAt, Region.binds] at hk o2
      (simp only [hE0, Bool.false_eq_true, if_false] at H); (have e4 := hn 4 (by decide)); (have e7 := hn 7 (by decide)); (simp only [e4, e7, if_true] at H); refine op_putT rfl o2 hk.1 ?_ s25 H 1 rfl rfl rfl ?_; (intro v hv; simp at hv; rcases hv with rfl | rfl | rfl; (rfl); (exact oe_one (H.pick 2 rfl)); (exact ol_one (H.pick 3 rfl))); (intro w' H; refine hK _ _ ?_; have t4 : updE E 9 4 = true := e4; have t7 : updE E 9 7 = true := e7; exact (by rw [t4, t7]; exact H))
  case ins =>
    iterate 4 (refine ⟨ins_pl rfl (fun _ _ _ => rfl), ?_⟩)
    refine ⟨ins_mk rfl (fun _ => rfl), ?_⟩
    iterate 2 (refine ⟨ins_pl rfl (fun _ _ _ => rfl), ?_⟩)
    refine ⟨ins_mk rfl (fun _ => rfl), ?_⟩
    refine ⟨ins_pl rfl (fun val val' h => by first | rfl | ((have h4 := h 4 (by decide)); (have h7 := h 7 (by decide)); first | (simp only [h4, h7]; done) | (simp only [h4, h7]; rfl))), ?_⟩
    refine ⟨ins_mk rfl (fun _ => rfl), ?_⟩
    exact trivial
  case jns =>
    iterate 4 (refine ⟨j_pl (fun _ _ _ => rfl), ?_⟩)
    refine ⟨j_mk rfl, ?_⟩
    iterate 2 (refine ⟨j_pl (fun _ _ _ => rfl), ?_⟩)
    refine ⟨j_mk rfl, ?_⟩
    refine ⟨j_pl (fun _ _ _ => rfl), ?_⟩
    refine ⟨j_mk rfl, ?_⟩
    exact trivial
  case fin =>
    intro E val w2 hE H
    have e4 := hE 4 (by decide)
    have e7 := hE 7 (by decide)
    have e9 := hE 9 (by decide)
    simp only [e4, e7, e9, if_true] at H
    simp [putAll, Act.put]
    go_wp2_with fail
    refine bodyPost_ret (results_cell rfl rfl a25 s25 (H.get 1 rfl) rfl) rfl ?_
    exact ⟨_, _, rfl, (show At w ([OE (val 4) es, OL (val 7) ls] ++ [Arg w]) w2 from H.sel 5 [2, 3, 4]).lift H0.out⟩
end
end Bk
end Go.Proofs.Ytcofcikdknmggaa
