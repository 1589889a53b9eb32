/-
  The document's bucket: which names, files, lasts and commands may be.
-/
import Derived.Test.YtcofcikdknmggaaBkRApply
namespace Go.Proofs.Ytcofcikdknmggaa
open Go.Hp Go.RowKit
set_option linter.unusedVariables false
set_option linter.unusedSimpArgs false
set_option maxRecDepth 100000
set_option maxHeartbeats 2000000
namespace Bk

def NOk (s : ByteArray) : Prop := 1 ≤ s.size ∧ s.size ≤ 255 ∧ ∀ (k : Nat) (h : k < s.size), s[k].toNat ≠ 0 ∧ s[k].toNat ≠ 47
open Classical in
noncomputable def nameB (s : ByteArray) : Bool := decide (NOk s)
theorem nameB_true {s : ByteArray} (h : NOk s) : nameB s = true := by simp [nameB, h]
theorem nameB_false {s : ByteArray} (h : ¬ NOk s) : nameB s = false := by simp [nameB, h]
def inB (n lo hi : Int) : Bool := decide (lo ≤ n) && decide (n ≤ hi)
def fileB (fc fo : Int) : Bool := inB fc 1 255 && inB fo 1 1099511627776
def lastB (x : La) : Bool :=
  if x.err = 102 ∨ x.err = 103 then x.fc == 0 && (x.fo == 0 && x.sz == 0)
  else if x.err = 0 ∨ x.err = 101 ∨ x.err = 104 then fileB x.fc x.fo && inB x.sz 0 4294967296
  else false

def BoolPost (w0 : World) (L : List HProp) (p : Bool → Prop) (e : Ending) (w' : World) : Prop := ∃ r, e = .returned (.bool r) ∧ p r ∧ At w0 L w'

section
variable {w0 w W : World} {L : List HProp}

theorem within2 (H : At w0 L w) (n lo hi : Int) : Calls Try.prog 26 #[.int .i64 n, .int .i64 lo, .int .i64 hi] w (Ret w0 (.bool (inB n lo hi)) L) := within H n lo hi

theorem name (H : At w0 L w) (s : ByteArray) : Calls Try.prog 27 #[.string s] w (Ret w0 (.bool (nameB s)) L) := by
  by_cases h1 : 1 ≤ s.size ∧ s.size ≤ 255
  · obtain ⟨h1, h2⟩ := h1
    have g1 : ¬ (s.size : Int) < 1 := by omega
    have g2 : (s.size : Int) ≤ 255 := by omega
    have g3 : (1 : Int) ≤ (s.size : Int) := by omega
    go_enter Try.func27, Try.ntmps27
    go_wp2_with fail
    go_loopw [3] (fun i wr => ∃ k : Nat, k ≤ s.size ∧ i = .int .i64 k ∧ Hid (∀ (j : Nat) (h : j < s.size), j < k → s[j].toNat ≠ 0 ∧ s[j].toNat ≠ 47) ∧ At w0 L wr) (fun i _ => s.size - (intOf i).toNat)
    case atStart => exact ⟨0, Nat.zero_le _, rfl, Lib.hid (fun j h hj => absurd hj (Nat.not_lt_zero _)), H⟩
    case round =>
      clear H
      obtain ⟨k, hk, rfl, HI, H⟩ := hrel
      by_cases hlt : k < s.size
      · have q1 : (k : Int) < s.size := by omega
        by_cases z0 : s[k].toNat = 0
        · have hB := Lib.hid (nameB_false (s := s) (fun h => (h.2.2 k hlt).1 z0))
          go_wp2_with fail
          go_ret
          rw [hB.out]
          exact ⟨rfl, H⟩
        · have z0' : ((s[k].toNat : Int) == 0) = false := by
            rw [beq_eq_false_iff_ne]; omega
          by_cases z1 : s[k].toNat = 47
          · have hB := Lib.hid (nameB_false (s := s) (fun h => (h.2.2 k hlt).2 z1))
            have z1' : ((s[k].toNat : Int) == 47) = true := by rw [beq_iff_eq]; omega
            clear z1
            go_wp2_with fail
            go_ret
            rw [hB.out]
            exact ⟨rfl, H⟩
          · have z1' : ((s[k].toNat : Int) == 47) = false := by rw [beq_eq_false_iff_ne]; omega
            have HI2 := Lib.hid (show ∀ (j : Nat) (h : j < s.size), j < k + 1 → s[j].toNat ≠ 0 ∧ s[j].toNat ≠ 47 from fun j h hj => by
              rcases Nat.lt_or_ge j k with h2 | h2
              · exact HI.out j h h2
              · obtain rfl : j = k := by omega
                exact ⟨z0, z1⟩)
            go_wp2_with fail
            go_roundw
            case rel => exact ⟨k + 1, by omega, rfl, HI2, H⟩
            case measure => simp [intOf]; omega
      · have q1 : ¬ (k : Int) < s.size := by omega
        have hB := Lib.hid (nameB_true (s := s) ⟨h1, h2, fun j h => HI.out j h (by omega)⟩)
        go_wp2_with fail
        go_ret
        rw [hB.out]
        exact ⟨rfl, H⟩
  · have hB := Lib.hid (nameB_false (s := s) (fun h => h1 ⟨h.1, h.2.1⟩))
    by_cases h2 : s.size < 1
    · have g1 : (s.size : Int) < 1 := by omega
      clear h1
      go_enter Try.func27, Try.ntmps27
      go_wp2_with fail
      go_ret
      rw [hB.out]
      exact ⟨rfl, H⟩
    · have g1 : ¬ (s.size : Int) < 1 := by omega
      have g2 : (255 : Int) < s.size := by omega
      clear h1
      go_enter Try.func27, Try.ntmps27
      go_wp2_with fail
      go_ret
      rw [hB.out]
      exact ⟨rfl, H⟩

theorem file (H : At w0 L w) (fc fo : Int) : Calls Try.prog 28 #[.agg #[.int .i64 fc, .int .i64 fo]] w (Ret w0 (.bool (fileB fc fo)) L) := by
  unfold fileB
  cases h1 : inB fc 1 255 with
  | true =>
    go_enter Try.func28, Try.ntmps28
    go_wp2_with (first | ((with_reducible refine k_box ?_); refine st_box rfl _ _ rfl _ rfl H ?_; (clear H; intro g1 w H K hK; simp only [Value.cells, Act.eval, Value.cells, Array.getD_eq_getD_getElem?, List.getElem?_toArray, List.getElem?_cons_succ, List.getElem?_cons_zero, Option.getD_some] at H; go_simp)) | ((with_reducible refine k_load ?_); refine st_load rfl _ _ rfl _ _ rfl ?_ H 0 rfl rfl ?_; (kernel_rfl); (intro K hK; go_simp)))
    refine (within2 H fc 1 255).mono ?_
    rintro e w ⟨rfl, HX⟩
    clear H
    have H := HX
    clear HX
    rw [h1]
    go_wp2_with ((with_reducible refine k_load ?_); refine st_load rfl _ _ rfl _ _ rfl ?_ H 0 rfl rfl ?_; (kernel_rfl); (intro K hK; go_simp))
    refine (within2 H fo 1 1099511627776).mono ?_
    rintro e w ⟨rfl, HX⟩
    clear H
    have H := HX
    clear HX
    go_wp2_with fail
    go_ret
    exact ⟨by simp, H.drop⟩
  | false =>
    go_enter Try.func28, Try.ntmps28
    go_wp2_with (first | ((with_reducible refine k_box ?_); refine st_box rfl _ _ rfl _ rfl H ?_; (clear H; intro g1 w H K hK; simp only [Value.cells, Act.eval, Value.cells, Array.getD_eq_getD_getElem?, List.getElem?_toArray, List.getElem?_cons_succ, List.getElem?_cons_zero, Option.getD_some] at H; go_simp)) | ((with_reducible refine k_load ?_); refine st_load rfl _ _ rfl _ _ rfl ?_ H 0 rfl rfl ?_; (kernel_rfl); (intro K hK; go_simp)))
    refine (within2 H fc 1 255).mono ?_
    rintro e w ⟨rfl, HX⟩
    clear H
    have H := HX
    clear HX
    rw [h1]
    go_wp2_with ((with_reducible refine k_load ?_); refine st_load rfl _ _ rfl _ _ rfl ?_ H 0 rfl rfl ?_; (kernel_rfl); (intro K hK; go_simp))
    go_ret
    exact ⟨by simp, H.drop⟩

theorem last (H : At w0 L w) (x : La) : Calls Try.prog 29 #[.agg x.cells.toArray] w (Ret w0 (.bool (lastB x)) L) := by
  obtain ⟨cl, op, ins, er, fc, fo, sz⟩ := x
  simp only [La.cells]
  unfold lastB
  dsimp only
  by_cases e1 : er = 102 ∨ er = 103
  · rw [if_pos e1]
    by_cases f1 : fc = 0
    · subst f1
      by_cases f2 : fo = 0
      · subst f2
        rcases e1 with rfl | rfl
        all_goals
          go_enter Try.func29, Try.ntmps29
          go_wp2_with (first | ((with_reducible refine k_box ?_); refine st_box rfl _ _ rfl _ rfl H ?_; (clear H; intro g1 w H K hK; simp only [Value.cells, Act.eval, Value.cells, Array.getD_eq_getD_getElem?, List.getElem?_toArray, List.getElem?_cons_succ, List.getElem?_cons_zero, Option.getD_some] at H; go_simp)) | ((with_reducible refine k_load (T := 27) ?_); refine st_row rfl _ _ rfl _ rfl a27 2 s27 H 0 rfl rfl ?_; (intro K hK; go_simp)) | ((with_reducible refine k_load (T := 27) ?_); refine st_loads rfl _ _ rfl _ _ rfl a27 2 s27 H 0 rfl ?_ ?_; (simp); (intro K hK; go_simp)) | ((with_reducible refine k_load ?_); refine st_load rfl _ _ rfl _ _ rfl ?_ H 0 rfl rfl ?_; (kernel_rfl); (intro K hK; go_simp)))
          go_ret
          exact ⟨by simp, H.drop⟩
      · rcases e1 with rfl | rfl
        all_goals
          go_enter Try.func29, Try.ntmps29
          go_wp2_with (first | ((with_reducible refine k_box ?_); refine st_box rfl _ _ rfl _ rfl H ?_; (clear H; intro g1 w H K hK; simp only [Value.cells, Act.eval, Value.cells, Array.getD_eq_getD_getElem?, List.getElem?_toArray, List.getElem?_cons_succ, List.getElem?_cons_zero, Option.getD_some] at H; go_simp)) | ((with_reducible refine k_load (T := 27) ?_); refine st_row rfl _ _ rfl _ rfl a27 2 s27 H 0 rfl rfl ?_; (intro K hK; go_simp)) | ((with_reducible refine k_load (T := 27) ?_); refine st_loads rfl _ _ rfl _ _ rfl a27 2 s27 H 0 rfl ?_ ?_; (simp); (intro K hK; go_simp)) | ((with_reducible refine k_load ?_); refine st_load rfl _ _ rfl _ _ rfl ?_ H 0 rfl rfl ?_; (kernel_rfl); (intro K hK; go_simp)))
          go_ret
          exact ⟨by simp [f2], H.drop⟩
    · rcases e1 with rfl | rfl
      all_goals
        go_enter Try.func29, Try.ntmps29
        go_wp2_with (first | ((with_reducible refine k_box ?_); refine st_box rfl _ _ rfl _ rfl H ?_; (clear H; intro g1 w H K hK; simp only [Value.cells, Act.eval, Value.cells, Array.getD_eq_getD_getElem?, List.getElem?_toArray, List.getElem?_cons_succ, List.getElem?_cons_zero, Option.getD_some] at H; go_simp)) | ((with_reducible refine k_load (T := 27) ?_); refine st_row rfl _ _ rfl _ rfl a27 2 s27 H 0 rfl rfl ?_; (intro K hK; go_simp)) | ((with_reducible refine k_load (T := 27) ?_); refine st_loads rfl _ _ rfl _ _ rfl a27 2 s27 H 0 rfl ?_ ?_; (simp); (intro K hK; go_simp)) | ((with_reducible refine k_load ?_); refine st_load rfl _ _ rfl _ _ rfl ?_ H 0 rfl rfl ?_; (kernel_rfl); (intro K hK; go_simp)))
        go_ret
        exact ⟨by simp [f1], H.drop⟩
  · rw [if_neg e1]
    have a1 : (er == 102) = false := by rw [beq_eq_false_iff_ne]; exact fun h => e1 (.inl h)
    have a2 : (er == 103) = false := by rw [beq_eq_false_iff_ne]; exact fun h => e1 (.inr h)
    by_cases e2 : er = 0 ∨ er = 101 ∨ er = 104
    · rw [if_pos e2]
      clear e1
      cases h1 : fileB fc fo with
      | true =>
        rcases e2 with rfl | rfl | rfl
        all_goals
          go_enter Try.func29, Try.ntmps29
          go_wp2_with (first | ((with_reducible refine k_box ?_); refine st_box rfl _ _ rfl _ rfl H ?_; (clear H; intro g1 w H K hK; simp only [Value.cells, Act.eval, Value.cells, Array.getD_eq_getD_getElem?, List.getElem?_toArray, List.getElem?_cons_succ, List.getElem?_cons_zero, Option.getD_some] at H; go_simp)) | ((with_reducible refine k_load (T := 27) ?_); refine st_row rfl _ _ rfl _ rfl a27 2 s27 H 0 rfl rfl ?_; (intro K hK; go_simp)) | ((with_reducible refine k_load (T := 27) ?_); refine st_loads rfl _ _ rfl _ _ rfl a27 2 s27 H 0 rfl ?_ ?_; (simp); (intro K hK; go_simp)) | ((with_reducible refine k_load ?_); refine st_load rfl _ _ rfl _ _ rfl ?_ H 0 rfl rfl ?_; (kernel_rfl); (intro K hK; go_simp)))
          refine (file H fc fo).mono ?_
          rintro e w ⟨rfl, HX⟩
          clear H
          have H := HX
          clear HX
          rw [h1]
          go_wp2_with ((with_reducible refine k_load ?_); refine st_load rfl _ _ rfl _ _ rfl ?_ H 0 rfl rfl ?_; (kernel_rfl); (intro K hK; go_simp))
          refine (within2 H sz 0 4294967296).mono ?_
          rintro e w ⟨rfl, HX⟩
          clear H
          have H := HX
          clear HX
          go_wp2_with fail
          go_ret
          exact ⟨by simp, H.drop⟩
      | false =>
        rcases e2 with rfl | rfl | rfl
        all_goals
          go_enter Try.func29, Try.ntmps29
          go_wp2_with (first | ((with_reducible refine k_box ?_); refine st_box rfl _ _ rfl _ rfl H ?_; (clear H; intro g1 w H K hK; simp only [Value.cells, Act.eval, Value.cells, Array.getD_eq_getD_getElem?, List.getElem?_toArray, List.getElem?_cons_succ, List.getElem?_cons_zero, Option.getD_some] at H; go_simp)) | ((with_reducible refine k_load (T := 27) ?_); refine st_row rfl _ _ rfl _ rfl a27 2 s27 H 0 rfl rfl ?_; (intro K hK; go_simp)) | ((with_reducible refine k_load (T := 27) ?_); refine st_loads rfl _ _ rfl _ _ rfl a27 2 s27 H 0 rfl ?_ ?_; (simp); (intro K hK; go_simp)) | ((with_reducible refine k_load ?_); refine st_load rfl _ _ rfl _ _ rfl ?_ H 0 rfl rfl ?_; (kernel_rfl); (intro K hK; go_simp)))
          refine (file H fc fo).mono ?_
          rintro e w ⟨rfl, HX⟩
          clear H
          have H := HX
          clear HX
          rw [h1]
          go_wp2_with ((with_reducible refine k_load ?_); refine st_load rfl _ _ rfl _ _ rfl ?_ H 0 rfl rfl ?_; (kernel_rfl); (intro K hK; go_simp))
          go_ret
          exact ⟨by simp, H.drop⟩
    · rw [if_neg e2]
      have b1 : (er == 0) = false := by rw [beq_eq_false_iff_ne]; exact fun h => e2 (.inl h)
      have b2 : (er == 101) = false := by rw [beq_eq_false_iff_ne]; exact fun h => e2 (.inr (.inl h))
      have b3 : (er == 104) = false := by rw [beq_eq_false_iff_ne]; exact fun h => e2 (.inr (.inr h))
      clear e1 e2
      go_enter Try.func29, Try.ntmps29
      go_wp2_with (first | ((with_reducible refine k_box ?_); refine st_box rfl _ _ rfl _ rfl H ?_; (clear H; intro g1 w H K hK; simp only [Value.cells, Act.eval, Value.cells, Array.getD_eq_getD_getElem?, List.getElem?_toArray, List.getElem?_cons_succ, List.getElem?_cons_zero, Option.getD_some] at H; go_simp)) | ((with_reducible refine k_load ?_); refine st_load rfl _ _ rfl _ _ rfl ?_ H 0 rfl rfl ?_; (kernel_rfl); (intro K hK; go_simp)))
      go_ret
      exact ⟨rfl, H.drop⟩
end
end Bk
end Go.Proofs.Ytcofcikdknmggaa
