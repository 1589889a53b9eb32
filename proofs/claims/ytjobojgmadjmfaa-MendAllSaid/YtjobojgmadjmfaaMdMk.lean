/-
  Copies; small functions of mend's.
-/
import Derived.Test.YtjobojgmadjmfaaMdTop
import Derived.WalkSpells
namespace Go.Proofs.Ytjobojgmadjmfaa
open Go.Hp Go.RowKit
set_option linter.unusedVariables false
set_option linter.unusedSimpArgs false
set_option maxRecDepth 100000
set_option maxHeartbeats 1000000
namespace Md

/-- A slice of the call's own that reads so. -/
def Own (R : HProp) (v : Value) (n : Nat) (xs : List Value) : Prop := ∀ (w0 w : World) (L : List HProp), At w0 (R :: L) w → RowAt w v n xs

theorem own_own {e : TypeId} {size n : Nat} {v : Value} {xs : List Value} : Own (OwnRow e size v n xs) v n xs := by
  intro w0 w L H
  obtain ⟨ad, cap, h1, h2, h3, h4, h5, h6⟩ := own_value H
  exact ⟨ad, cap, h1, h2, h3, h5, h6⟩

theorem own_nil' {n : Nat} : Own emp (.slice none 0 0) 0 [] := by
  intro w0 w L H
  exact ⟨none, 0, rfl, Nat.le_refl _, by simp [maxLen], fun h => absurd h (Nat.lt_irrefl _), fun b hb => by cases hb⟩

theorem own_nil0 : Own emp (.slice none 0 0) 0 [] := own_nil' (n := 0)

/-- Such a slice, with what it lies in. -/
def Hold (v : Value) (n : Nat) (xs : List Value) : HProp := fun hp => ∃ R : HProp, Own R v n xs ∧ R hp

theorem hold_of {w0 w : World} {L : List HProp} {R : HProp} {v : Value} {n : Nat} {xs : List Value} (h : Own R v n xs) (H : At w0 (R :: L) w) : At w0 (Hold v n xs :: L) w := H.imp fun _ hh => ⟨R, h, hh⟩
theorem hold_at {w0 w : World} {L : List HProp} {v : Value} {n : Nat} {xs : List Value} (H : At w0 (Hold v n xs :: L) w) : RowAt w v n xs := by
  obtain ⟨R, H⟩ := At.ex H
  obtain ⟨h, H⟩ := At.and H
  exact h _ _ _ H
theorem row_cells {w : World} {v : Value} {n : Nat} {xs : List Value} (h : RowAt w v n xs) : v.cells = #[v] := by
  obtain ⟨ad, cap, rfl, _⟩ := h
  rfl
theorem row_one {w : World} {v : Value} {n : Nat} {xs : List Value} (h : RowAt w v n xs) : v.oneCell' = true := by
  obtain ⟨ad, cap, rfl, _⟩ := h
  rfl
theorem hold_cells {w0 w : World} {L : List HProp} {v : Value} {n : Nat} {xs : List Value} (H : At w0 (Hold v n xs :: L) w) : v.cells = #[v] := row_cells (hold_at H)

section
variable {w0 w : World} {L : List HProp}

theorem isFrom (H : At w0 L w) (n : Int) : Calls Try.prog 35 #[.int .i64 n] w (Ret w0 (.bool (decide (1 ≤ n) && decide (n ≤ 1048577))) L) := by
  by_cases h1 : 1 ≤ n <;> by_cases h2 : n ≤ 1048577
  all_goals
    go_enter Try.func35, Try.ntmps35
    go_wp2_with fail
    go_ret
    exact ⟨by simp [h1, h2], H⟩

def lessS (an ac bn bc : Int) : Bool := decide (an < bn) || (an == bn && decide (ac < bc))

theorem less (H : At w0 L w) (an ac bn bc : Int) : Calls Try.prog 42 #[.agg #[.int .i64 an, .int .i64 ac], .agg #[.int .i64 bn, .int .i64 bc]] w (Ret w0 (.bool (lessS an ac bn bc)) L) := by
  have H0 := Lib.hid H
  by_cases h1 : an < bn
  · go_enter Try.func42, Try.ntmps42
    go_wp2_with (first | ((with_reducible refine k_box ?_); refine st_box rfl _ _ rfl _ rfl H ?_; (clear H; intro g w H K hK; simp only [Value.cells] at H; go_simp)) | ((with_reducible refine k_load ?_); (first | refine st_load rfl _ _ rfl _ _ rfl ?_ H 0 rfl rfl ?_ | refine st_load rfl _ _ rfl _ _ rfl ?_ H 1 rfl rfl ?_); (kernel_rfl); (intro K hK; go_simp)))
    go_ret
    exact ⟨by simp [lessS, h1], H.drop.drop⟩
  · by_cases h2 : an = bn
    · subst h2
      by_cases h3 : ac < bc
      · go_enter Try.func42, Try.ntmps42
        go_wp2_with (first | ((with_reducible refine k_box ?_); refine st_box rfl _ _ rfl _ rfl H ?_; (clear H; intro g w H K hK; simp only [Value.cells] at H; go_simp)) | ((with_reducible refine k_load ?_); (first | refine st_load rfl _ _ rfl _ _ rfl ?_ H 0 rfl rfl ?_ | refine st_load rfl _ _ rfl _ _ rfl ?_ H 1 rfl rfl ?_); (kernel_rfl); (intro K hK; go_simp)))
        go_ret
        exact ⟨by simp [lessS, h3], H.drop.drop⟩
      · go_enter Try.func42, Try.ntmps42
        go_wp2_with (first | ((with_reducible refine k_box ?_); refine st_box rfl _ _ rfl _ rfl H ?_; (clear H; intro g w H K hK; simp only [Value.cells] at H; go_simp)) | ((with_reducible refine k_load ?_); (first | refine st_load rfl _ _ rfl _ _ rfl ?_ H 0 rfl rfl ?_ | refine st_load rfl _ _ rfl _ _ rfl ?_ H 1 rfl rfl ?_); (kernel_rfl); (intro K hK; go_simp)))
        go_ret
        exact ⟨by simp [lessS, h3], H.drop.drop⟩
    · have hb : (an == bn) = false := by simpa using h2
      go_enter Try.func42, Try.ntmps42
      go_wp2_with (first | ((with_reducible refine k_box ?_); refine st_box rfl _ _ rfl _ rfl H ?_; (clear H; intro g w H K hK; simp only [Value.cells] at H; go_simp)) | ((with_reducible refine k_load ?_); (first | refine st_load rfl _ _ rfl _ _ rfl ?_ H 0 rfl rfl ?_ | refine st_load rfl _ _ rfl _ _ rfl ?_ H 1 rfl rfl ?_); (kernel_rfl); (intro K hK; go_simp)))
      go_ret
      exact ⟨by simp [lessS, h1, h2], H.drop.drop⟩

theorem rless (H : At w0 L w) (an ac bn bc : Int) : Calls Try.prog 44 #[.agg #[.int .i64 an, .int .i64 ac], .agg #[.int .i64 bn, .int .i64 bc]] w (Ret w0 (.bool (lessS an ac bn bc)) L) := by
  have H0 := Lib.hid H
  by_cases h1 : an < bn
  · go_enter Try.func44, Try.ntmps44
    go_wp2_with (first | ((with_reducible refine k_box ?_); refine st_box rfl _ _ rfl _ rfl H ?_; (clear H; intro g w H K hK; simp only [Value.cells] at H; go_simp)) | ((with_reducible refine k_load ?_); (first | refine st_load rfl _ _ rfl _ _ rfl ?_ H 0 rfl rfl ?_ | refine st_load rfl _ _ rfl _ _ rfl ?_ H 1 rfl rfl ?_); (kernel_rfl); (intro K hK; go_simp)))
    go_ret
    exact ⟨by simp [lessS, h1], H.drop.drop⟩
  · by_cases h2 : an = bn
    · subst h2
      by_cases h3 : ac < bc
      · go_enter Try.func44, Try.ntmps44
        go_wp2_with (first | ((with_reducible refine k_box ?_); refine st_box rfl _ _ rfl _ rfl H ?_; (clear H; intro g w H K hK; simp only [Value.cells] at H; go_simp)) | ((with_reducible refine k_load ?_); (first | refine st_load rfl _ _ rfl _ _ rfl ?_ H 0 rfl rfl ?_ | refine st_load rfl _ _ rfl _ _ rfl ?_ H 1 rfl rfl ?_); (kernel_rfl); (intro K hK; go_simp)))
        go_ret
        exact ⟨by simp [lessS, h3], H.drop.drop⟩
      · go_enter Try.func44, Try.ntmps44
        go_wp2_with (first | ((with_reducible refine k_box ?_); refine st_box rfl _ _ rfl _ rfl H ?_; (clear H; intro g w H K hK; simp only [Value.cells] at H; go_simp)) | ((with_reducible refine k_load ?_); (first | refine st_load rfl _ _ rfl _ _ rfl ?_ H 0 rfl rfl ?_ | refine st_load rfl _ _ rfl _ _ rfl ?_ H 1 rfl rfl ?_); (kernel_rfl); (intro K hK; go_simp)))
        go_ret
        exact ⟨by simp [lessS, h3], H.drop.drop⟩
    · have hb : (an == bn) = false := by simpa using h2
      go_enter Try.func44, Try.ntmps44
      go_wp2_with (first | ((with_reducible refine k_box ?_); refine st_box rfl _ _ rfl _ rfl H ?_; (clear H; intro g w H K hK; simp only [Value.cells] at H; go_simp)) | ((with_reducible refine k_load ?_); (first | refine st_load rfl _ _ rfl _ _ rfl ?_ H 0 rfl rfl ?_ | refine st_load rfl _ _ rfl _ _ rfl ?_ H 1 rfl rfl ?_); (kernel_rfl); (intro K hK; go_simp)))
      go_ret
      exact ⟨by simp [lessS, h1, h2], H.drop.drop⟩


theorem clB {v : Value} {n : Nat} {xs : List Value} (hv : RowAt w v n xs) (hl : xs.length = n * 1) (hone : ∀ u ∈ xs, u.oneCell' = true) (hby : n * 1 ≤ 140737488355328) (H : At w0 L w) :
    Calls Try.prog 34 #[v] w (fun e w' => ∃ v', e = .returned v' ∧ At w0 (Hold v' n xs :: L) w') := by
  obtain ⟨ad, cap, rfl, c1, c2, c3, c4⟩ := hv
  have hn := fun (w : World) => Lib.run_eql_slice_nil (P := Try.prog) w 28 5 ad n cap 0 0 Try.underlying28
  cases ad with
  | none =>
    have hn0 : n = 0 := by
      rcases Nat.eq_zero_or_pos n with h | h
      · exact h
      · obtain ⟨b, hb⟩ := c3 h
        cases hb
    subst hn0
    have hx : xs = [] := List.eq_nil_of_length_eq_zero (by simpa using hl)
    subst hx
    simp only [Option.isNone_none] at hn
    clear c3 c4 hl
    go_enter Try.func34, Try.ntmps34
    go_wp2_with fail
    go_ret
    exact ⟨_, rfl, hold_of own_nil0 H.addEmp⟩
  | some b =>
    simp only [Option.isNone_some] at hn
    have Hc := Lib.hid (c4 b rfl)
    have Hl := Lib.hid hl
    have Ho := Lib.hid hone
    have Hw := Lib.hid (At.of w)
    have H0 := Lib.hid H
    clear c3 c4 hl hone H
    have HF := Hw.out
    clear Hw
    go_enter Try.func34, Try.ntmps34
    go_wp2_with (first | ((with_reducible refine k_lit ?_); refine st_lit rfl _ _ _ rfl #[] 5 0 HF ?_ ?_; (go_simp); (clear HF; intro g1 w1 HF K hK; replace HF := own_mk (n := 0) (xs := []) (size := 1) HF (Nat.le_refl _) (Nat.zero_le _) (by simp) (by simp) (by simp); go_simp))        | ((with_reducible refine k_builtin ?_); refine st_append rfl _ _ _ rfl 5 Try.underlying28 1 ?_ 1 ?_ (.int .u8 0) ?_ rfl _ _ _ rfl HF (some b) n cap xs rfl Hl.out ?_ Ho.out ?_ ?_ ?_; (kernel_rfl); (kernel_rfl); (kernel_rfl); (intro _; exact ⟨b, rfl, fun j u hj => (HF.ext 1 rfl).cell (Hc.out j u hj)⟩); (omega); (omega); (clear HF; intro v1 w2 HF K hK; go_simp)))
    go_ret
    rw [Nat.zero_add, List.nil_append] at HF
    exact ⟨_, rfl, hold_of own_own (HF.lift1 H0.out)⟩

theorem clE {v : Value} {n : Nat} {xs : List Value} (hv : RowAt w v n xs) (hl : xs.length = n * 4) (hone : ∀ u ∈ xs, u.oneCell' = true) (hby : n * 40 ≤ 140737488355328) (H : At w0 L w) :
    Calls Try.prog 55 #[v] w (fun e w' => ∃ v', e = .returned v' ∧ At w0 (Hold v' n xs :: L) w') := by
  obtain ⟨ad, cap, rfl, c1, c2, c3, c4⟩ := hv
  have hn := fun (w : World) => Lib.run_eql_slice_nil (P := Try.prog) w 33 101 ad n cap 0 0 Try.underlying33
  cases ad with
  | none =>
    have hn0 : n = 0 := by
      rcases Nat.eq_zero_or_pos n with h | h
      · exact h
      · obtain ⟨b, hb⟩ := c3 h
        cases hb
    subst hn0
    have hx : xs = [] := List.eq_nil_of_length_eq_zero (by simpa using hl)
    subst hx
    simp only [Option.isNone_none] at hn
    clear c3 c4 hl
    go_enter Try.func55, Try.ntmps55
    go_wp2_with fail
    go_ret
    exact ⟨_, rfl, hold_of own_nil0 H.addEmp⟩
  | some b =>
    simp only [Option.isNone_some] at hn
    have Hc := Lib.hid (c4 b rfl)
    have Hl := Lib.hid hl
    have Ho := Lib.hid hone
    have Hw := Lib.hid (At.of w)
    have H0 := Lib.hid H
    clear c3 c4 hl hone H
    have HF := Hw.out
    clear Hw
    go_enter Try.func55, Try.ntmps55
    go_wp2_with (first | ((with_reducible refine k_lit ?_); refine st_lit rfl _ _ _ rfl #[] 101 0 HF ?_ ?_; (go_simp); (clear HF; intro g1 w1 HF K hK; replace HF := own_mk (n := 0) (xs := []) (size := 4) HF (Nat.le_refl _) (Nat.zero_le _) (by simp) (by simp) (by simp); go_simp))        | ((with_reducible refine k_builtin ?_); refine st_append rfl _ _ _ rfl 101 Try.underlying33 4 ?_ 40 ?_ (.agg #[.string ⟨#[]⟩, .int .i64 0, .int .i64 0, .int .i64 0]) ?_ rfl _ _ _ rfl HF (some b) n cap xs rfl Hl.out ?_ Ho.out ?_ ?_ ?_; (kernel_rfl); (kernel_rfl); (kernel_rfl); (intro _; exact ⟨b, rfl, fun j u hj => (HF.ext 1 rfl).cell (Hc.out j u hj)⟩); (omega); (omega); (clear HF; intro v1 w2 HF K hK; go_simp)))
    go_ret
    rw [Nat.zero_add, List.nil_append] at HF
    exact ⟨_, rfl, hold_of own_own (HF.lift1 H0.out)⟩

theorem clL {v : Value} {n : Nat} {xs : List Value} (hv : RowAt w v n xs) (hl : xs.length = n * 7) (hone : ∀ u ∈ xs, u.oneCell' = true) (hby : n * 56 ≤ 140737488355328) (H : At w0 L w) :
    Calls Try.prog 56 #[v] w (fun e w' => ∃ v', e = .returned v' ∧ At w0 (Hold v' n xs :: L) w') := by
  obtain ⟨ad, cap, rfl, c1, c2, c3, c4⟩ := hv
  have hn := fun (w : World) => Lib.run_eql_slice_nil (P := Try.prog) w 34 104 ad n cap 0 0 Try.underlying34
  cases ad with
  | none =>
    have hn0 : n = 0 := by
      rcases Nat.eq_zero_or_pos n with h | h
      · exact h
      · obtain ⟨b, hb⟩ := c3 h
        cases hb
    subst hn0
    have hx : xs = [] := List.eq_nil_of_length_eq_zero (by simpa using hl)
    subst hx
    simp only [Option.isNone_none] at hn
    clear c3 c4 hl
    go_enter Try.func56, Try.ntmps56
    go_wp2_with fail
    go_ret
    exact ⟨_, rfl, hold_of own_nil0 H.addEmp⟩
  | some b =>
    simp only [Option.isNone_some] at hn
    have Hc := Lib.hid (c4 b rfl)
    have Hl := Lib.hid hl
    have Ho := Lib.hid hone
    have Hw := Lib.hid (At.of w)
    have H0 := Lib.hid H
    clear c3 c4 hl hone H
    have HF := Hw.out
    clear Hw
    go_enter Try.func56, Try.ntmps56
    go_wp2_with (first | ((with_reducible refine k_lit ?_); refine st_lit rfl _ _ _ rfl #[] 104 0 HF ?_ ?_; (go_simp); (clear HF; intro g1 w1 HF K hK; replace HF := own_mk (n := 0) (xs := []) (size := 7) HF (Nat.le_refl _) (Nat.zero_le _) (by simp) (by simp) (by simp); go_simp))        | ((with_reducible refine k_builtin ?_); refine st_append rfl _ _ _ rfl 104 Try.underlying34 7 ?_ 56 ?_ (.agg #[.int .i64 0, .int .i64 0, .int .i64 0, .int .i64 0, .int .i64 0, .int .i64 0, .int .i64 0]) ?_ rfl _ _ _ rfl HF (some b) n cap xs rfl Hl.out ?_ Ho.out ?_ ?_ ?_; (kernel_rfl); (kernel_rfl); (kernel_rfl); (intro _; exact ⟨b, rfl, fun j u hj => (HF.ext 1 rfl).cell (Hc.out j u hj)⟩); (omega); (omega); (clear HF; intro v1 w2 HF K hK; go_simp)))
    go_ret
    rw [Nat.zero_add, List.nil_append] at HF
    exact ⟨_, rfl, hold_of own_own (HF.lift1 H0.out)⟩

theorem recs_len {w : World} {v : Value} {size : Nat} {rs : List (List Value)} (h : RecsAt w v size rs) : rs.flatten.length = rs.length * size := by
  have h2 := h.2
  clear h
  induction rs with
  | nil => simp
  | cons r rs ih =>
    have h0 := h2 r (by simp)
    rw [List.flatten_cons, List.length_append, List.length_cons, h0, ih (fun r hr => h2 r (by simp [hr])), Nat.add_mul]
    omega

theorem recs_one {rs : List (List Value)} {ks : List Ck} (h : ∀ r ∈ rs, Fits ks r) : ∀ u ∈ rs.flatten, u.oneCell' = true := by
  intro u hu
  obtain ⟨r, hr, hu⟩ := List.mem_flatten.1 hu
  exact (h r hr).one u hu

theorem z36 : zeroT Try.prog 36 = some (.agg #[.int .i64 0, .slice none 0 0, .slice none 0 0]) := by kernel_rfl

theorem twin {ve vl : Value} {u : Int} {es ls : List (List Value)} (he : RecsAt w ve 4 es) (hl : RecsAt w vl 7 ls) (fe : ∀ r ∈ es, Fits entK r) (fl : ∀ r ∈ ls, Fits lastK r) (be : es.length * 40 ≤ 140737488355328) (bl : ls.length * 56 ≤ 140737488355328) (H : At w0 L w) :
    Calls Try.prog 51 #[.agg #[.int .i64 u, ve, vl]] w (fun e w' => ∃ ve' vl', e = .returned (.agg #[.int .i64 u, ve', vl']) ∧ At w0 (Hold ve' es.length es.flatten :: Hold vl' ls.length ls.flatten :: L) w') := by
  have HF := At.of w
  have H0 := Lib.hid H
  have He := Lib.hid he.1
  have Hl := Lib.hid hl.1
  have Le := Lib.hid (recs_len he)
  have Ll := Lib.hid (recs_len hl)
  have Oe := Lib.hid (recs_one fe)
  have Ol := Lib.hid (recs_one fl)
  clear he hl fe fl H
  go_enter Try.func51, Try.ntmps51
  go_wp2_with (first | ((with_reducible refine k_box ?_); refine st_box rfl _ _ rfl _ rfl HF ?_; (clear HF; intro g1 w1 HF K hK; simp only [Value.cells] at HF; go_simp)) | ((with_reducible refine k_alloc ?_); refine st_alloc rfl _ rfl _ z36 _ rfl HF ?_; (clear HF; intro g2 w2 HF K hK; simp only [Value.cells] at HF; go_simp)))
  apply wp_region_eff [4, 7, 9] (fun i => (#[[], [], [], [], [], [], [], [], [4, 7], [4, 7]] : Array (List Nat)).getD i []) (fun val i => ((_ :: _ :: _ :: _ :: val 4 :: _ :: _ :: val 7 :: _ :: val 9 :: []) : List Value).toArray.getD i undef) (fun E val => At w (Blk g1 (.cells #[.int .i64 u, ve, vl] 36 (0, 0)) :: Blk g2 (.cells (if E 9 = true then #[.int .i64 u, val 4, val 7] else #[.int .i64 0, .slice none 0 0, .slice none 0 0]) 36 (0, 0)) :: (if E 4 = true then Hold (val 4) es.length es.flatten else emp) :: (if E 7 = true then Hold (val 7) ls.length ls.flatten else emp) :: Arg w :: [])) (by kernel_rfl) (by kernel_rfl) (by kernel_rfl) (by kernel_rfl) ((HF.addEmp.addEmp).sel 5 [3, 2, 0, 1, 4])
  case step =>
    iterate 4 (refine ⟨eff_pl rfl (fun _ => by rfl) fun E val hn T ds w K H hk ho hK => ?_, ?_⟩; rotate_left)
    refine ⟨eff_mk rfl (fun _ => by rfl) fun E val hE0 hcl hn T ds w K H hk ho hK => ?_, ?_⟩; rotate_left
    iterate 2 (refine ⟨eff_pl rfl (fun _ => by rfl) fun E val hn T ds w K H hk ho hK => ?_, ?_⟩; rotate_left)
    refine ⟨eff_mk rfl (fun _ => by rfl) fun E val hE0 hcl hn T ds w K H hk ho hK => ?_, ?_⟩; rotate_left
    refine ⟨eff_pl rfl (fun _ => by rfl) fun E val hn T ds w K H hk ho hK => ?_, ?_⟩; rotate_left
    refine ⟨eff_mk rfl (fun _ => by rfl) fun E val hE0 hcl hn T ds w K H hk ho hK => ?_, ?_⟩; rotate_left
    exact trivial
    · have o1 := ho 1 (by kernel_rfl); clear ho; simp [know, dstAt, Region.binds] at hk o1; go_simp; exact hK _ H
    · clear ho; simp [know, dstAt, Region.binds] at hk
      (refine op_loadT rfl hk (by kernel_rfl) H 0 rfl rfl ?_; exact hK _ H)
    · have o1 := ho 1 (by kernel_rfl); clear ho; simp [know, dstAt, Region.binds] at hk o1; go_simp; exact hK _ H
    · clear ho; simp [know, dstAt, Region.binds] at hk
      (refine op_loadT rfl hk (by kernel_rfl) H 0 rfl rfl ?_; exact hK _ H)
    · clear ho; simp [know, dstAt, Region.binds] at hk
      (have q9 : E 9 = false := (by cases h : E 9 with | false => rfl | true => (have h2 := hcl 9 (by decide) h 4 (by decide); rw [hE0] at h2; cases h2))); (simp only [hE0, q9, Bool.false_eq_true, if_false] at H); go_simp; refine (clE (He.out.ext (H.ext 4 rfl)) Le.out Oe.out be (H.sel 3 [0, 1])).mono ?_; rintro e w' ⟨v', rfl, H⟩; have t9 : updE E 4 9 = false := q9; refine hK _ _ ?_; (simp only [t9, Bool.false_eq_true, if_false]); exact H.sel 3 [1, 2, 0]
    · have o1 := ho 1 (by kernel_rfl); clear ho; simp [know, dstAt, Region.binds] at hk o1; go_simp; exact hK _ H
    · clear ho; simp [know, dstAt, Region.binds] at hk
      (refine op_loadT rfl hk (by kernel_rfl) H 0 rfl rfl ?_; exact hK _ H)
    · clear ho; simp [know, dstAt, Region.binds] at hk
      (have q9 : E 9 = false := (by cases h : E 9 with | false => rfl | true => (have h2 := hcl 9 (by decide) h 7 (by decide); rw [hE0] at h2; cases h2))); (simp only [hE0, q9, Bool.false_eq_true, if_false] at H); go_simp; refine (clL (Hl.out.ext (H.ext 4 rfl)) Ll.out Ol.out bl (H.sel 4 [0, 1, 2])).mono ?_; rintro e w' ⟨v', rfl, H⟩; have t9 : updE E 7 9 = false := q9; refine hK _ _ ?_; (simp only [t9, Bool.false_eq_true, if_false]); exact H.sel 4 [1, 2, 3, 0]
    · clear ho; simp [know, dstAt, Region.binds] at hk
      first | (have e4 := hn 4 (by decide); have e7 := hn 7 (by decide); have H2 := H; simp only [e4, e7, if_true] at H2; have c4 := hold_cells (H2.pick 2 rfl); have c7 := hold_cells (H2.pick 3 rfl); unfold Value.cells at c4 c7; clear H2; go_simp; exact hK _ H) | (go_simp; exact hK _ H)
    · have o2 := ho 2 (by kernel_rfl); clear ho; simp [know, dstAt, Region.binds] at hk o2
      (simp only [hE0, Bool.false_eq_true, if_false] at H); (have e4 := hn 4 (by decide)); (have e7 := hn 7 (by decide)); (simp only [e4, e7, if_true] at H); refine op_putT rfl o2 hk.1 ?_ s36 H 1 rfl rfl rfl ?_; (intro v hv; simp at hv; rcases hv with rfl | rfl | rfl; (rfl); (exact row_one (hold_at (H.pick 2 rfl))); (exact row_one (hold_at (H.pick 3 rfl)))); (intro w' H; refine hK _ _ ?_; have t4 : updE E 9 4 = true := e4; have t7 : updE E 9 7 = true := e7; exact (by rw [t4, t7]; exact H))
  case ins =>
    iterate 4 (refine ⟨ins_pl rfl (fun _ _ _ => rfl), ?_⟩)
    refine ⟨ins_mk rfl (fun _ => rfl), ?_⟩
    iterate 2 (refine ⟨ins_pl rfl (fun _ _ _ => rfl), ?_⟩)
    refine ⟨ins_mk rfl (fun _ => rfl), ?_⟩
    refine ⟨ins_pl rfl (fun val val' h => by first | rfl | ((have h4 := h 4 (by decide)); (have h7 := h 7 (by decide)); first | (simp only [h4, h7]; done) | (simp only [h4, h7]; rfl))), ?_⟩
    refine ⟨ins_mk rfl (fun _ => rfl), ?_⟩
    exact trivial
  case jns =>
    iterate 4 (refine ⟨j_pl (fun _ _ _ => rfl), ?_⟩)
    refine ⟨j_mk rfl, ?_⟩
    iterate 2 (refine ⟨j_pl (fun _ _ _ => rfl), ?_⟩)
    refine ⟨j_mk rfl, ?_⟩
    refine ⟨j_pl (fun _ _ _ => rfl), ?_⟩
    refine ⟨j_mk rfl, ?_⟩
    exact trivial
  case fin =>
    intro E val w2 hE H
    have e4 := hE 4 (by decide)
    have e7 := hE 7 (by decide)
    have e9 := hE 9 (by decide)
    simp only [e4, e7, e9, if_true] at H
    simp [putAll, Act.put]
    go_wp2_with fail
    refine bodyPost_ret (results_cell rfl rfl a36 s36 (H.get 1 rfl) rfl) rfl ?_
    exact ⟨_, _, rfl, (show At w ([Hold (val 4) es.length es.flatten, Hold (val 7) ls.length ls.flatten] ++ [Arg w]) w2 from H.sel 5 [2, 3, 4]).lift H0.out⟩
end
end Md
end Go.Proofs.Ytjobojgmadjmfaa
