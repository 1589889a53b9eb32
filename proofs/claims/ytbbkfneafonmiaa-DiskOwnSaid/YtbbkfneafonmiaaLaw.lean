/-
  The small functions of the statements on the disk.
-/
import Derived.Test.YtbbkfneafonmiaaRows
import Derived.Test.YtbbkfneafonmiaaOrd
import Derived.Test.YtbbkfneafonmiaaArr
import Derived.Outline
namespace Go.Proofs.Ytbbkfneafonmiaa
open Go.Hp Go.RowKit
set_option linter.unusedVariables false
set_option linter.unusedSimpArgs false
namespace Lw
section
variable {w0 w : World} {L : List HProp}

theorem same {va vb : Value} {a b : List UInt8} (H : At w0 L w) (ha : BytesAt w va a) (hb : BytesAt w vb b) : Calls Try.prog 20 #[va, vb] w (Ret w0 (.bool (a == b)) L) := by
  have c1 := run_bytes_string (P := Try.prog) ha 33 9 5 Try.underlying33 Try.underlying5 Try.underlying9
  have c2 := run_bytes_string (P := Try.prog) hb 33 9 5 Try.underlying33 Try.underlying5 Try.underlying9
  clear ha hb
  go_enter Try.func20, Try.ntmps20
  go_wp2_with fail
  go_ret
  exact ⟨rfl, H⟩

def rnd (v n : Int) : Int := if n < 1 then 0 else v % n

theorem rnd_range {v n : Int} (h : 1 ≤ n) : 0 ≤ rnd v n ∧ rnd v n < n := by
  unfold rnd
  rw [if_neg (by omega)]
  exact ⟨Int.emod_nonneg _ (by omega), Int.emod_lt_of_pos _ (by omega)⟩

theorem tmod_neg' {v n : Int} (hn : 1 ≤ n) : (v.tmod n < 0 → v.tmod n + n = v % n) ∧ (¬ v.tmod n < 0 → v.tmod n = v % n) := by
  have h := Int.emod_nonneg v (show n ≠ 0 by omega)
  rw [Int.tmod_eq_emod]
  split
  · rename_i hc
    rcases hc with hc | hc
    · exact ⟨fun h2 => by omega, fun _ => by simp⟩
    · have : v % n = 0 := Int.emod_eq_zero_of_dvd hc
      exact ⟨fun h2 => by simp at h2; omega, fun _ => by simp⟩
  · have hlt := Int.emod_lt_of_pos v (show 0 < n by omega)
    have hna : (n.natAbs : Int) = n := by omega
    exact ⟨fun _ => by omega, fun h2 => by omega⟩

theorem round (H : At w0 L w) (v n : Int) (hv1 : -9223372036854775808 ≤ v) (hv2 : v ≤ 9223372036854775807) (hn1 : 1 ≤ n) (hn2 : n ≤ 9223372036854775807) :
    Calls Try.prog 15 #[.int .i64 v, .int .i64 n] w (Ret w0 (.int .i64 (rnd v n)) L) := by
  obtain ⟨t1, t2⟩ := tmod_neg' (v := v) hn1
  have hr : rnd v n = v % n := by unfold rnd; rw [if_neg (by omega)]
  have hlo := Int.emod_nonneg v (show n ≠ 0 by omega)
  have hhi := Int.emod_lt_of_pos v (show 0 < n by omega)
  rw [hr]
  by_cases hneg : v.tmod n < 0
  · have Ht := Lib.hid (t1 hneg)
    have b1 : -9223372036854775808 ≤ v.tmod n := by have := t1 hneg; omega
    have b2 : v.tmod n ≤ 9223372036854775807 := by have := t1 hneg; omega
    have b3 : v.tmod n + n ≤ 9223372036854775807 := by have := t1 hneg; omega
    have b4 : 0 ≤ v.tmod n + n := by have := t1 hneg; omega
    clear t1 t2 hr hlo hhi
    generalize v % n = m at *
    have hz : (n == 0) = false := by simp; omega
    have hz2 : ¬ n = 0 := by omega
    go_enter Try.func15, Try.ntmps15
    go_wp2_with fail
    go_ret
    exact ⟨by rw [← Ht.out]; rfl, H⟩
  · have Ht := Lib.hid (t2 hneg)
    have b0 : 0 ≤ v.tmod n := by omega
    have b2 : v.tmod n ≤ 9223372036854775807 := by have := t2 hneg; omega
    clear t1 t2 hr hlo hhi
    generalize v % n = m at *
    have hz : (n == 0) = false := by simp; omega
    have hz2 : ¬ n = 0 := by omega
    go_enter Try.func15, Try.ntmps15
    go_wp2_with fail
    go_ret
    exact ⟨by rw [← Ht.out]; rfl, H⟩

/-- A sector of these bytes, the rest one byte. -/
def fullB (l : List UInt8) (b : UInt8) : List UInt8 := l.take 512 ++ List.replicate (512 - l.length) b

theorem len_fullB (l : List UInt8) (b : UInt8) : (fullB l b).length = 512 := by
  unfold fullB
  simp only [List.length_append, List.length_take, List.length_replicate]; omega

/-- A row that is written from a place on with one value. -/
def runV (A : List Value) (v z : Value) (k m : Nat) : List Value := A ++ (List.replicate k v ++ List.replicate (m - k) z)
theorem runV_zero (A : List Value) (v z : Value) (m : Nat) : runV A v z 0 m = A ++ List.replicate m z := by simp [runV]
theorem runV_all (A : List Value) (v z : Value) (m : Nat) : runV A v z m m = A ++ List.replicate m v := by simp [runV]
theorem len_runV {A : List Value} {v z : Value} {k m : Nat} (h : k ≤ m) : (runV A v z k m).length = A.length + m := by simp [runV]; omega
theorem runV_set {A : List Value} {v z : Value} {k m : Nat} (h : k < m) : (runV A v z k m).set (A.length + k) v = runV A v z (k + 1) m := by
  unfold runV
  have hn : m - k = (m - (k + 1)) + 1 := by omega
  rw [List.set_append_right _ _ (by omega), List.set_append_right _ _ (by simp)]
  simp only [List.length_replicate, Nat.add_sub_cancel_left, Nat.sub_self]
  rw [hn, List.replicate_succ, List.set_cons_zero, List.replicate_succ', List.append_assoc]
  rfl

theorem bv_replicate (n : Nat) (b : UInt8) : bv (List.replicate n b) = List.replicate n (Value.int .u8 b.toNat) := by simp [bv]

theorem splice_full {l : List UInt8} {b : UInt8} : splice (List.replicate 512 (Value.int .u8 b.toNat)) 0 (bv (l.take 512)) = bv (fullB l b) := by
  unfold splice fullB
  rw [bv_append, bv_replicate, List.take_zero, List.nil_append, Nat.zero_add, List.drop_replicate]
  congr 2
  rw [length_bv, List.length_take]
  omega

theorem full {va : Value} {l : List UInt8} {B : HProp} (hB : Reads B va l) (b : UInt8) (H : At w0 (B :: L) w) : Calls Try.prog 22 #[va, .int .u8 b.toNat] w
    (RetEx w0 (fun g => .slice (some ⟨g, 0, none⟩) 512 512) (fun g => Blk g (.cells (bv (fullB l b)).toArray 5 (0, 0)) :: B :: L)) := by
  obtain ⟨ad, cap, rfl, hc1, hc2, h3⟩ := (hB.at_ H 0 rfl).len
  clear h3
  go_enter Try.func22, Try.ntmps22
  go_wp2_with (first | (refine st_make rfl _ _ _ rfl _ _ _ _ rfl rfl 5 Try.underlying33 1 ?_ 1 ?_ (.int .u8 0) ?_ ?_ ?_ ?_ ?_ H ?_; (kernel_rfl); (kernel_rfl); (kernel_rfl); (omega); (omega); (omega); (omega); (clear H; intro g w H K hK; go_simp)))
  have e0 : madeCells (Value.int .u8 0).cells ((512 : Int).toNat * 1) = (runV [] (.int .u8 b.toNat) (.int .u8 0) 0 512).toArray := by
    rw [runV_zero, List.nil_append]; exact madeCells_one _ _
  rw [e0] at H
  clear e0
  go_loopw [6] (fun i wr => ∃ k : Nat, k ≤ 512 ∧ i = .int .i64 k ∧ At w0 (Blk g (.cells (runV [] (.int .u8 b.toNat) (.int .u8 0) k 512).toArray 5 (0, 0)) :: B :: L) wr) (fun i _ => 512 - (intOf i).toNat)
  case atStart => exact ⟨0, Nat.zero_le _, rfl, H⟩
  case round =>
    clear H
    obtain ⟨k, hk, rfl, H⟩ := hrel
    by_cases hlt : k < 512
    · have hset := runV_set (A := []) (v := .int .u8 b.toNat) (z := .int .u8 0) hlt
      have hlen := len_runV (A := []) (v := .int .u8 b.toNat) (z := .int .u8 0) hk
      rw [List.length_nil, Nat.zero_add] at hset hlen
      have Hset := Lib.hid hset
      have Hlen := Lib.hid hlen
      clear hset hlen
      have hlt2 : (k : Int) < 512 := by omega
      go_wp2_with (first | (refine st_store rfl _ _ _ rfl _ _ rfl _ rfl rfl ?_ H 0 rfl ?_ ?_; (kernel_rfl); (simp only [List.size_toArray]; rw [Hlen.out]; exact hlt); (clear H; intro w H K hK; simp only [List.set_cons_zero, List.set_cons_succ, List.setIfInBounds_toArray, Act.eval, Value.cells, Array.getD_eq_getD_getElem?, List.getElem?_toArray, List.getElem?_cons_succ, List.getElem?_cons_zero, Option.getD_some] at H; rw [Hset.out] at H; go_simp)))
      go_roundw
      case rel => exact ⟨k + 1, by omega, by go_num, H⟩
      case measure => simp [intOf]; omega
    · have hk2 : k = 512 := by omega
      subst hk2
      have e1 : runV [] (.int .u8 b.toNat) (.int .u8 0) 512 512 = List.replicate 512 (Value.int .u8 b.toNat) := by rw [runV_all, List.nil_append]
      rw [e1] at H
      clear e1
      have hB2 := hB.at_ H 1 rfl
      have hmin : (bv (l.take 512)).length = Nat.min l.length 512 := by rw [length_bv, List.length_take]; exact Nat.min_comm _ _
      go_wp2_with (first | (refine st_copy rfl _ _ _ _ rfl 5 Try.underlying33 ?_ g 0 512 512 l.length cap ad rfl rfl (bv (l.take 512)) hmin ?_ (bv_one _) H 0 rfl ?_ ?_; (kernel_rfl);          (intro hp; obtain ⟨ad2, cap2, hv, _, _, hc⟩ := hB2.len; obtain ⟨bb, hbb, hcc⟩ := hc (by rw [length_bv, List.length_take] at hp; omega); cases hv; exact ⟨bb, hbb, fun j v hj => hcc j v (bv_take hj)⟩);          (rw [length_bv, List.length_take, List.length_replicate]; omega); (clear H; intro w H K hK; simp only [List.set_cons_zero] at H; rw [splice_full] at H; go_simp)))
      go_ret
      exact ⟨g, rfl, H⟩

theorem lend {va : Value} {l : List UInt8} {B : HProp} (hB : Reads B va l) (hl : l.length ≤ 140737488355328) (H : At w0 (B :: L) w) : Calls Try.prog 29 #[va] w
    (RetEx w0 (fun g => .slice (some ⟨g, 0, none⟩) l.length (l.length + 67)) (fun g => Blk g (.cells (bv l ++ List.replicate 67 (Value.int .u8 201)).toArray 5 (0, 0)) :: B :: L)) := by
  obtain ⟨ad, cap, rfl, hc1, hc2, h3⟩ := (hB.at_ H 0 rfl).len
  clear h3
  have hn : ((l.length : Int) + 67).toNat = l.length + 67 := by omega
  go_enter Try.func29, Try.ntmps29
  go_wp2_with (first | (refine st_make rfl _ _ _ rfl _ _ _ _ rfl rfl 5 Try.underlying33 1 ?_ 1 ?_ (.int .u8 0) ?_ ?_ ?_ ?_ ?_ H ?_; (kernel_rfl); (kernel_rfl); (kernel_rfl); (omega); (omega); (omega); (omega);        (clear H; intro g w H K hK; replace H : At w0 (Blk g (.cells (List.replicate (l.length + 67) (Value.int .u8 0)).toArray 5 (0, 0)) :: B :: L) w := (by rw [← madeCells_one]; have e : ((l.length : Int) + 67).toNat * 1 = l.length + 67 := (by omega); rw [e] at H; exact H); go_simp))      | (have hB2 := hB.at_ H 1 rfl; (refine st_copy rfl _ _ _ _ rfl 5 Try.underlying33 ?_ g 0 (l.length + 67) (l.length + 67) l.length cap ad rfl rfl (bv l) ?_ ?_ (bv_one _) H 0 rfl ?_ ?_; (kernel_rfl); (rw [length_bv]; show _ = min l.length (l.length + 67); omega);          (intro hp; obtain ⟨ad2, cap2, hv, _, _, hc⟩ := hB2.len; obtain ⟨bb, hbb, hcc⟩ := hc (by rw [length_bv] at hp; exact hp); cases hv; exact ⟨bb, hbb, hcc⟩);          (rw [length_bv, List.length_replicate]; omega); (clear H hB2; intro w H K hK; simp only [List.set_cons_zero] at H; go_simp))))
  have e0 : splice (List.replicate (l.length + 67) (.int .u8 0)) 0 (bv l) = runV (bv l) (.int .u8 201) (.int .u8 0) 0 67 := by
    rw [runV_zero]
    unfold splice
    rw [List.take_zero, List.nil_append, Nat.zero_add, List.drop_replicate, length_bv, Nat.add_sub_cancel_left]
  rw [e0] at H
  clear e0
  go_loopw [4] (fun i wr => ∃ k : Nat, k ≤ 67 ∧ i = .int .i64 (l.length + k) ∧ At w0 (Blk g (.cells (runV (bv l) (.int .u8 201) (.int .u8 0) k 67).toArray 5 (0, 0)) :: B :: L) wr) (fun i _ => l.length + 67 - (intOf i).toNat)
  case atStart => exact ⟨0, Nat.zero_le _, by simp, H⟩
  case round =>
    clear H
    obtain ⟨k, hk, rfl, H⟩ := hrel
    by_cases hlt : k < 67
    · have hset := runV_set (A := bv l) (v := .int .u8 201) (z := .int .u8 0) hlt
      have hlen := len_runV (A := bv l) (v := .int .u8 201) (z := .int .u8 0) hk
      rw [length_bv] at hset hlen
      have hoff : ((l.length : Int) + k).toNat = l.length + k := by omega
      have Hset := Lib.hid hset
      have Hlen := Lib.hid hlen
      clear hset hlen
      have hlt2 : (k : Int) < 67 := by omega
      go_wp2_with (first | (refine st_store rfl _ _ _ rfl _ _ rfl _ rfl rfl ?_ H 0 rfl ?_ ?_; (kernel_rfl); (simp only [List.size_toArray]; rw [Hlen.out]; omega); (clear H; intro w H K hK; simp only [List.set_cons_zero, List.set_cons_succ, List.setIfInBounds_toArray, Act.eval, Value.cells, Array.getD_eq_getD_getElem?, List.getElem?_toArray, List.getElem?_cons_succ, List.getElem?_cons_zero, Option.getD_some] at H; rw [Hset.out] at H; go_simp)))
      go_roundw
      case rel => exact ⟨k + 1, by omega, by rw [Int.natCast_add, Int.add_assoc]; rfl, H⟩
      case measure => simp [intOf]; omega
    · have hk2 : k = 67 := by omega
      subst hk2
      rw [runV_all] at H
      go_wp2_with fail
      go_ret
      exact ⟨g, rfl, H⟩
end
end Lw
end Go.Proofs.Ytbbkfneafonmiaa
