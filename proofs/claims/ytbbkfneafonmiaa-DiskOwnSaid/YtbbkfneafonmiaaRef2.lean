/-
  The reference's disk: sector, Read, Start, Arm.
-/
import Derived.Test.YtbbkfneafonmiaaRef
namespace Go.Proofs.Ytbbkfneafonmiaa
open Go.Hp Go.RowKit
set_option linter.unusedVariables false
set_option linter.unusedSimpArgs false
namespace Rf
section
variable {w0 w : World} {L : List HProp} {r : Nat} {R : RS}

theorem rstart (H : At w0 (RefAt r R :: L) w) : Calls Try.prog 38 #[.pointer (some ⟨r, 0, none⟩)] w (Ret w0 (.tuple #[]) (RefAt r { R with fallen := false, armed := false } :: L)) := by
  obtain ⟨sg, vals, he, H⟩ := open_ref H
  go_enter Try.func38, Try.ntmps38
  go_wp2_with (first | (refine st_load rfl _ _ rfl _ _ rfl ?_ H 0 rfl rfl ?_; (kernel_rfl); (intro K hK; go_simp)) | (refine st_store rfl _ _ _ rfl _ _ rfl _ rfl rfl ?_ H 0 rfl ?_ ?_; (kernel_rfl); (simp); (clear H; intro w H K hK; simp only [List.set_cons_zero, List.set_cons_succ, List.setIfInBounds_toArray, Act.eval, Value.cells, Array.getD_eq_getD_getElem?, List.getElem?_toArray, List.getElem?_cons_succ, List.getElem?_cons_zero, Option.getD_some] at H; go_simp)))
  go_end0
  exact ⟨rfl, shut_ref (R := { R with fallen := false, armed := false }) he H⟩

def rarmed (R : RS) (x y : Int) : RS := if R.fallen then R else { R with armed := true, left := Dk.armX x, torn := if 512 < y then 512 else if y < 0 then 0 else y }

theorem rarm (H : At w0 (RefAt r R :: L) w) (x y : Int) : Calls Try.prog 37 #[.pointer (some ⟨r, 0, none⟩), .int .i64 x, .int .i64 y] w (Ret w0 (.tuple #[]) (RefAt r (rarmed R x y) :: L)) := by
  obtain ⟨sg, vals, he, H⟩ := open_ref H
  cases hf : R.fallen with
  | true =>
    rw [hf] at H
    have ha : rarmed R x y = R := by simp [rarmed, hf]
    rw [ha]
    go_enter Try.func37, Try.ntmps37
    go_wp2_with (first | (refine st_load rfl _ _ rfl _ _ rfl ?_ H 0 rfl rfl ?_; (kernel_rfl); (intro K hK; go_simp)) | (refine st_store rfl _ _ _ rfl _ _ rfl _ rfl rfl ?_ H 0 rfl ?_ ?_; (kernel_rfl); (simp); (clear H; intro w H K hK; simp only [List.set_cons_zero, List.set_cons_succ, List.setIfInBounds_toArray, Act.eval, Value.cells, Array.getD_eq_getD_getElem?, List.getElem?_toArray, List.getElem?_cons_succ, List.getElem?_cons_zero, Option.getD_some] at H; go_simp)))
    refine bodyPost_ret (results_none rfl _ _ _) rfl ?_
    exact ⟨rfl, shut_ref he (by rw [hf]; exact H)⟩
  | false =>
    rw [hf] at H
    have ha : rarmed R x y = { R with armed := true, left := Dk.armX x, torn := if 512 < y then 512 else if y < 0 then 0 else y } := by simp [rarmed, hf]
    rw [ha]
    unfold Dk.armX
    by_cases h1 : x < 0
    all_goals by_cases h2 : y < 0
    all_goals by_cases h3 : 512 < y
    all_goals try omega
    all_goals
      go_enter Try.func37, Try.ntmps37
      go_wp2_with (first | (refine st_load rfl _ _ rfl _ _ rfl ?_ H 0 rfl rfl ?_; (kernel_rfl); (intro K hK; go_simp)) | (refine st_store rfl _ _ _ rfl _ _ rfl _ rfl rfl ?_ H 0 rfl ?_ ?_; (kernel_rfl); (simp); (clear H; intro w H K hK; simp only [List.set_cons_zero, List.set_cons_succ, List.setIfInBounds_toArray, Act.eval, Value.cells, Array.getD_eq_getD_getElem?, List.getElem?_toArray, List.getElem?_cons_succ, List.getElem?_cons_zero, Option.getD_some] at H; go_simp)))
      go_end0
      refine ⟨rfl, ?_⟩
      simp (config := { failIfUnchanged := false }) only [h1, h2, h3, if_true, if_false]
      exact shut_ref (R := { R with armed := true, left := _, torn := _, fallen := false }) he H

def refE (R : RS) (n : Int) : Int := if R.fallen then 5 else if n < 0 ∨ (R.n : Int) ≤ n then 31 else 0

theorem sector (H : At w0 (RefAt r R :: L) w) (i : Nat) (hi : i < R.n) (hn : R.n ≤ 65536) : Calls Try.prog 35 #[.pointer (some ⟨r, 0, none⟩), .int .i64 i] w
    (RetEx w0 (fun g => .slice (some ⟨g, 0, none⟩) 512 512) (fun g => Blk g (.cells (bv (R.sec i)).toArray 5 (0, 0)) :: RefAt r R :: L)) := by
  obtain ⟨sg, vals, he, H⟩ := open_ref H
  obtain ⟨v, hv⟩ : ∃ v, vals[i]? = some v := by
    have : i < vals.length := by omega
    exact ⟨vals[i], by simp [this]⟩
  have hva : vals.toArray[i]? = some v := by simpa using hv
  have hi1 : (i : Int) < (R.n : Int) := by omega
  rcases elem_cases (H.pick 2 rfl) hv with ⟨rfl, hz⟩ | ⟨hl, g0, rfl⟩
  · have Hz := Lib.hid hz
    have He := Lib.hid he
    clear he hz
    go_enter Try.func35, Try.ntmps35
    go_wp2_with (first | (refine st_load rfl _ _ rfl _ _ rfl ?_ H 0 rfl rfl ?_; (kernel_rfl); (intro K hK; go_simp)) | (refine st_load rfl _ _ rfl _ _ rfl ?_ H 1 rfl hva ?_; (kernel_rfl); (intro K hK; go_simp)) | (refine st_make rfl _ _ _ rfl _ _ _ _ rfl rfl 5 Try.underlying33 1 ?_ 1 ?_ (.int .u8 0) ?_ ?_ ?_ ?_ ?_ H ?_; (kernel_rfl); (kernel_rfl); (kernel_rfl); (omega); (omega); (omega); (omega); (clear H; intro g w H K hK; go_simp)))
    go_ret
    have e0 : madeCells (Value.int .u8 0).cells ((512 : Int).toNat * 1) = (bv (R.sec i)).toArray := by
      rw [Hz.out]; exact Dk.made_zer
    rw [e0] at H
    have H2 : At w0 (Blk r _ :: Blk sg _ :: Elems vals R.sec :: Blk g _ :: L) w := H.back 3 (by simp)
    exact ⟨g, rfl, (shut_ref He.out H2).pick 1 rfl⟩
  · have Hl := Lib.hid hl
    have He := Lib.hid he
    clear he hl
    go_enter Try.func35, Try.ntmps35
    go_wp2_with (first | (refine st_load rfl _ _ rfl _ _ rfl ?_ H 0 rfl rfl ?_; (kernel_rfl); (intro K hK; go_simp)) | (refine st_load rfl _ _ rfl _ _ rfl ?_ H 1 rfl hva ?_; (kernel_rfl); (intro K hK; go_simp)))
    have hlen := Hl.out
    refine (twin (elem_reads hv) (by omega) (H.pick 2 rfl)).mono ?_
    rintro e w ⟨g, rfl, H⟩
    rw [hlen]
    go_wp2_with fail
    go_ret
    have H2 : At w0 (Blk r _ :: Blk sg _ :: Elems vals R.sec :: Blk g _ :: L) w := H.sel 4 [2, 3, 1, 0]
    exact ⟨g, rfl, (shut_ref He.out H2).pick 1 rfl⟩

theorem rread_no (H : At w0 (RefAt r R :: L) w) (n : Int) (hm : refE R n ≠ 0) : Calls Try.prog 19 #[.pointer (some ⟨r, 0, none⟩), .int .i64 n] w
    (Ret w0 (.tuple #[.slice none 0 0, .int .i64 (refE R n)]) (RefAt r R :: L)) := by
  obtain ⟨sg, vals, he, H⟩ := open_ref H
  cases hf : R.fallen with
  | true =>
    rw [hf] at H
    clear hm
    have hm : Hid (refE R n = 5) := by show _ = _; simp [refE, hf]
    go_enter Try.func19, Try.ntmps19
    go_wp2_with (first | (refine st_load rfl _ _ rfl _ _ rfl ?_ H 0 rfl rfl ?_; (kernel_rfl); (intro K hK; go_simp)))
    go_ret2
    exact ⟨by rw [hm.out]; rfl, shut_ref he (by rw [hf]; exact H)⟩
  | false =>
    rw [hf] at H
    by_cases h1 : n < 0
    · clear hm
      have hm : Hid (refE R n = 31) := by show _ = _; simp [refE, hf, h1]
      go_enter Try.func19, Try.ntmps19
      go_wp2_with (first | (refine st_load rfl _ _ rfl _ _ rfl ?_ H 0 rfl rfl ?_; (kernel_rfl); (intro K hK; go_simp)))
      go_ret2
      exact ⟨by rw [hm.out]; rfl, shut_ref he (by rw [hf]; exact H)⟩
    · have d1 : decide (n < 0) = false := decide_eq_false h1
      have h2 : (R.n : Int) ≤ n := by
        rcases Int.lt_or_le n R.n with h | h
        · simp [refE, hf, h1] at hm; omega
        · exact h
      clear hm
      have hm : Hid (refE R n = 31) := by show _ = _; simp [refE, hf, h2]
      go_enter Try.func19, Try.ntmps19
      go_wp2_with (first | (refine st_load rfl _ _ rfl _ _ rfl ?_ H 0 rfl rfl ?_; (kernel_rfl); (intro K hK; go_simp)))
      go_ret2
      exact ⟨by rw [hm.out]; rfl, shut_ref he (by rw [hf]; exact H)⟩

theorem rread_yes (H : At w0 (RefAt r R :: L) w) (n : Int) (hm : refE R n = 0) (hn : R.n ≤ 65536) : Calls Try.prog 19 #[.pointer (some ⟨r, 0, none⟩), .int .i64 n] w
    (RetEx w0 (fun g => .tuple #[.slice (some ⟨g, 0, none⟩) 512 512, .int .i64 0]) (fun g => Blk g (.cells (bv (R.sec n)).toArray 5 (0, 0)) :: RefAt r { R with reads := wrap64 (R.reads + 1) } :: L)) := by
  obtain ⟨hf, h1, h2⟩ : R.fallen = false ∧ 0 ≤ n ∧ n < R.n := by
    unfold refE at hm
    cases hf : R.fallen with
    | true => simp [hf] at hm
    | false =>
      simp only [hf, Bool.false_eq_true, if_false] at hm
      by_cases h : n < 0 ∨ (R.n : Int) ≤ n
      · simp [h] at hm
      · exact ⟨rfl, by omega, by omega⟩
  obtain ⟨i, rfl⟩ := Int.eq_ofNat_of_zero_le h1
  have d1 : decide ((i : Int) < 0) = false := decide_eq_false (by omega)
  obtain ⟨sg, vals, he, H⟩ := open_ref H
  rw [hf] at H
  go_enter Try.func19, Try.ntmps19
  go_wp2_with (first | (refine st_load rfl _ _ rfl _ _ rfl ?_ H 0 rfl rfl ?_; (kernel_rfl); (intro K hK; go_simp)) | (refine st_store rfl _ _ _ rfl _ _ rfl _ rfl rfl ?_ H 0 rfl ?_ ?_; (kernel_rfl); (simp); (clear H; intro w H K hK; simp only [List.set_cons_zero, List.set_cons_succ, List.setIfInBounds_toArray, Act.eval, Value.cells, Array.getD_eq_getD_getElem?, List.getElem?_toArray, List.getElem?_cons_succ, List.getElem?_cons_zero, Option.getD_some] at H; go_simp)))
  refine (sector (R := { R with reads := wrap64 (R.reads + 1) }) (shut_ref (R := { R with reads := wrap64 (R.reads + 1) }) he (by rw [hf]; exact H)) i (show i < R.n by omega) hn).mono ?_
  rintro e w ⟨g, rfl, H⟩
  go_wp2_with fail
  go_ret2
  exact ⟨g, rfl, H⟩
end
end Rf
end Go.Proofs.Ytbbkfneafonmiaa
