/-
  The reference's disk: Write.
-/
import Derived.Test.YtbbkfneafonmiaaRef2
import Derived.Test.YtbbkfneafonmiaaReg
namespace Go.Proofs.Ytbbkfneafonmiaa
open Go.Hp Go.RowKit
set_option linter.unusedVariables false
set_option linter.unusedSimpArgs false
namespace Rf
section
variable {w0 w : World} {L : List HProp} {r : Nat} {R : RS}

def rwritten (R : RS) (n : Int) (b : List UInt8) : RS × Int :=
  if refE R n ≠ 0 then (R, refE R n) else if b.length ≠ 512 then (R, 32) else
  if R.armed = true ∧ R.left = 0 then ({ R with writes := wrap64 (R.writes + 1), sec := Dk.upd R.sec n (b.take R.torn.toNat ++ (R.sec n).drop R.torn.toNat), fallen := true }, 5)
  else ({ R with writes := wrap64 (R.writes + 1), sec := Dk.upd R.sec n b, left := if R.armed then wrap64 (R.left - 1) else R.left }, 0)

theorem rwrite_no {B : HProp} {v : Value} {b : List UInt8} (hB : Reads B v b) (n : Int) (hm : refE R n ≠ 0) (H : At w0 (RefAt r R :: B :: L) w) :
    Calls Try.prog 17 #[.pointer (some ⟨r, 0, none⟩), .int .i64 n, v] w (Ret w0 (.int .i64 (refE R n)) (RefAt r R :: B :: L)) := by
  obtain ⟨sg, vals, he, H⟩ := open_ref H
  cases hf : R.fallen with
  | true =>
    rw [hf] at H
    clear hm
    have hm : Hid (refE R n = 5) := by show _ = _; simp [refE, hf]
    go_enter Try.func17, Try.ntmps17
    go_wp2_with (first | (refine st_load rfl _ _ rfl _ _ rfl ?_ H 0 rfl rfl ?_; (kernel_rfl); (intro K hK; go_simp)))
    go_ret
    exact ⟨by rw [hm.out]; rfl, shut_ref he (by rw [hf]; exact H)⟩
  | false =>
    rw [hf] at H
    by_cases h1 : n < 0
    · clear hm
      have hm : Hid (refE R n = 31) := by show _ = _; simp [refE, hf, h1]
      go_enter Try.func17, Try.ntmps17
      go_wp2_with (first | (refine st_load rfl _ _ rfl _ _ rfl ?_ H 0 rfl rfl ?_; (kernel_rfl); (intro K hK; go_simp)))
      go_ret
      exact ⟨by rw [hm.out]; rfl, shut_ref he (by rw [hf]; exact H)⟩
    · have d1 : decide (n < 0) = false := decide_eq_false h1
      have h2 : (R.n : Int) ≤ n := by
        rcases Int.lt_or_le n R.n with h | h
        · simp [refE, hf, h1] at hm; omega
        · exact h
      clear hm
      have hm : Hid (refE R n = 31) := by show _ = _; simp [refE, hf, h2]
      go_enter Try.func17, Try.ntmps17
      go_wp2_with (first | (refine st_load rfl _ _ rfl _ _ rfl ?_ H 0 rfl rfl ?_; (kernel_rfl); (intro K hK; go_simp)))
      go_ret
      exact ⟨by rw [hm.out]; rfl, shut_ref he (by rw [hf]; exact H)⟩

theorem refE_zero {n : Int} (hm : refE R n = 0) : R.fallen = false ∧ 0 ≤ n ∧ n < R.n := by
  unfold refE at hm
  cases hf : R.fallen with
  | true => simp [hf] at hm
  | false =>
    simp only [hf, Bool.false_eq_true, if_false] at hm
    by_cases h : n < 0 ∨ (R.n : Int) ≤ n
    · simp [h] at hm
    · exact ⟨rfl, by omega, by omega⟩

theorem rwrite_len {B : HProp} {v : Value} {b : List UInt8} (hB : Reads B v b) (n : Int) (hm : refE R n = 0) (hl : b.length ≠ 512) (H : At w0 (RefAt r R :: B :: L) w) :
    Calls Try.prog 17 #[.pointer (some ⟨r, 0, none⟩), .int .i64 n, v] w (Ret w0 (.int .i64 32) (RefAt r R :: B :: L)) := by
  obtain ⟨hf, h1, h2⟩ := refE_zero hm
  obtain ⟨ad, cap, rfl, _, _, h3⟩ := (hB.at_ H 1 rfl).len
  have hb : ((b.length : Int) == 512) = false := by simp; omega
  have d1 : decide (n < 0) = false := decide_eq_false (by omega)
  obtain ⟨sg, vals, he, H⟩ := open_ref H
  rw [hf] at H
  clear h3
  go_enter Try.func17, Try.ntmps17
  go_wp2_with (first | (refine st_load rfl _ _ rfl _ _ rfl ?_ H 0 rfl rfl ?_; (kernel_rfl); (intro K hK; go_simp)))
  go_ret
  exact ⟨rfl, shut_ref he (by rw [hf]; exact H)⟩

set_option maxHeartbeats 1000000 in
theorem rwrite_whole {B : HProp} {v : Value} {b : List UInt8} (hB : Reads B v b) (n : Int) (hm : refE R n = 0) (hl : b.length = 512) (hn : R.n ≤ 65536) (ha : ¬ (R.armed = true ∧ R.left = 0)) (H : At w0 (RefAt r R :: B :: L) w) :
    Calls Try.prog 17 #[.pointer (some ⟨r, 0, none⟩), .int .i64 n, v] w (Ret w0 (.int .i64 0)
      (RefAt r { R with writes := wrap64 (R.writes + 1), sec := Dk.upd R.sec n b, left := if R.armed then wrap64 (R.left - 1) else R.left } :: B :: L)) := by
  obtain ⟨hf, h1, h2⟩ := refE_zero hm
  obtain ⟨i, rfl⟩ := Int.eq_ofNat_of_zero_le h1
  obtain ⟨ad, cap, rfl, _, _, h3⟩ := (hB.at_ H 1 rfl).len
  have hb : ((b.length : Int) == 512) = true := by simp; omega
  have d1 : decide ((i : Int) < 0) = false := decide_eq_false (by omega)
  obtain ⟨sg, vals, he, H⟩ := open_ref H
  rw [hf] at H
  have Hl := Lib.hid hl
  have He := Lib.hid he
  have Hm := Lib.hid hm
  clear h3 hl he hm
  cases har : R.armed with
  | true =>
    rw [har] at H
    have hl0 : (R.left == 0) = false := by simp [har] at ha; simpa using ha
    clear ha
    go_enter Try.func17, Try.ntmps17
    go_wp2_with (first | (refine st_load rfl _ _ rfl _ _ rfl ?_ H 0 rfl rfl ?_; (kernel_rfl); (intro K hK; go_simp)) | (refine st_store rfl _ _ _ rfl _ _ rfl _ rfl rfl ?_ H 0 rfl ?_ ?_; (kernel_rfl); (simp); (clear H; intro w H K hK; simp only [List.set_cons_zero, List.set_cons_succ, List.setIfInBounds_toArray, Act.eval, Value.cells, Array.getD_eq_getD_getElem?, List.getElem?_toArray, List.getElem?_cons_succ, List.getElem?_cons_zero, Option.getD_some] at H; go_simp)))
    have hc0 : w.cell? ⟨r, 0, none⟩ = some (.slice (some ⟨sg, 0, none⟩) R.n R.n) := by rw [cell_of_row _ _ _ _ _ _ (H.get 0 rfl)]; rfl
    obtain ⟨v0, hv0⟩ : ∃ v0, vals.toArray[i]? = some v0 := by
      have : i < vals.length := by have := He.out; omega
      exact ⟨vals[i], by simp [this]⟩
    have hh2 : (i : Int) < R.n := h2
    go_region_with (go_at_call 36; refine (twin hB (by have := Hl.out; omega) ((H.drew).pick 3 rfl)).mono ?_; rintro e w ⟨g, rfl, H⟩;        have hc0 : w.cell? ⟨r, 0, none⟩ = some (.slice (some ⟨sg, 0, none⟩) R.n R.n) := (by rw [cell_of_row _ _ _ _ _ _ (H.get 2 rfl)]; rfl); have hc1 : w.cell? ⟨sg, i, none⟩ = some v0 := (by rw [cell_of_row _ _ _ _ _ _ (H.get 3 rfl)]; exact hv0);        have hc2 : w.frozen? ⟨sg, i, none⟩ = false := frozen_of_row _ _ _ _ _ (H.get 3 rfl); simp only [])
    all_goals go_wp2_with fail
    all_goals go_ret
    all_goals
      refine ⟨rfl, ?_⟩
      have hbl := Hl.out
      have H1 : At w0 (Blk sg _ :: Blk r _ :: Blk g _ :: Elems vals R.sec :: B :: L) w := H.sel 5 [3, 2, 0, 4, 1]
      have H2 := H1.set0 (i := i) (.slice (some ⟨g, 0, none⟩) 512 512)
      have H3 : At w0 (Blk g _ :: Elems vals R.sec :: Blk r _ :: Blk sg _ :: B :: L) _ := H2.sel 5 [2, 3, 1, 0, 4]
      have H4 := elem_add (i := i) hbl H3
      have H5 : At w0 (Blk r _ :: Blk sg _ :: Elems _ _ :: B :: L) _ := H4.sel 4 [1, 2, 0, 3]
      rw [List.setIfInBounds_toArray] at H5
      rw [hbl]
      exact shut_ref (R := { R with writes := wrap64 (R.writes + 1), sec := Dk.upd R.sec i b, left := wrap64 (R.left - 1), armed := true, fallen := false }) (by rw [List.length_set]; exact He.out) H5
  | false =>
    rw [har] at H
    clear ha
    go_enter Try.func17, Try.ntmps17
    go_wp2_with (first | (refine st_load rfl _ _ rfl _ _ rfl ?_ H 0 rfl rfl ?_; (kernel_rfl); (intro K hK; go_simp)) | (refine st_store rfl _ _ _ rfl _ _ rfl _ rfl rfl ?_ H 0 rfl ?_ ?_; (kernel_rfl); (simp); (clear H; intro w H K hK; simp only [List.set_cons_zero, List.set_cons_succ, List.setIfInBounds_toArray, Act.eval, Value.cells, Array.getD_eq_getD_getElem?, List.getElem?_toArray, List.getElem?_cons_succ, List.getElem?_cons_zero, Option.getD_some] at H; go_simp)))
    have hc0 : w.cell? ⟨r, 0, none⟩ = some (.slice (some ⟨sg, 0, none⟩) R.n R.n) := by rw [cell_of_row _ _ _ _ _ _ (H.get 0 rfl)]; rfl
    obtain ⟨v0, hv0⟩ : ∃ v0, vals.toArray[i]? = some v0 := by
      have : i < vals.length := by have := He.out; omega
      exact ⟨vals[i], by simp [this]⟩
    have hh2 : (i : Int) < R.n := h2
    go_region_with (go_at_call 36; refine (twin hB (by have := Hl.out; omega) ((H.drew).pick 3 rfl)).mono ?_; rintro e w ⟨g, rfl, H⟩;        have hc0 : w.cell? ⟨r, 0, none⟩ = some (.slice (some ⟨sg, 0, none⟩) R.n R.n) := (by rw [cell_of_row _ _ _ _ _ _ (H.get 2 rfl)]; rfl); have hc1 : w.cell? ⟨sg, i, none⟩ = some v0 := (by rw [cell_of_row _ _ _ _ _ _ (H.get 3 rfl)]; exact hv0);        have hc2 : w.frozen? ⟨sg, i, none⟩ = false := frozen_of_row _ _ _ _ _ (H.get 3 rfl); simp only [])
    all_goals go_wp2_with fail
    all_goals go_ret
    all_goals
      refine ⟨rfl, ?_⟩
      have hbl := Hl.out
      have H1 : At w0 (Blk sg _ :: Blk r _ :: Blk g _ :: Elems vals R.sec :: B :: L) w := H.sel 5 [3, 2, 0, 4, 1]
      have H2 := H1.set0 (i := i) (.slice (some ⟨g, 0, none⟩) 512 512)
      have H3 : At w0 (Blk g _ :: Elems vals R.sec :: Blk r _ :: Blk sg _ :: B :: L) _ := H2.sel 5 [2, 3, 1, 0, 4]
      have H4 := elem_add (i := i) hbl H3
      have H5 : At w0 (Blk r _ :: Blk sg _ :: Elems _ _ :: B :: L) _ := H4.sel 4 [1, 2, 0, 3]
      rw [List.setIfInBounds_toArray] at H5
      rw [hbl]
      exact shut_ref (R := { R with writes := wrap64 (R.writes + 1), sec := Dk.upd R.sec i b, armed := false, fallen := false }) (by rw [List.length_set]; exact He.out) H5

theorem len_torn {b s : List UInt8} {k : Nat} (hb : b.length = 512) (hs : s.length = 512) (hk : k ≤ 512) : (b.take k ++ s.drop k).length = 512 := by
  simp only [List.length_append, List.length_take, List.length_drop]; omega

theorem torn_set {b s : List UInt8} {k : Nat} (hb : k < b.length) (hs : k < s.length) : (bv (b.take k ++ s.drop k)).set k (.int .u8 b[k].toNat) = bv (b.take (k + 1) ++ s.drop (k + 1)) := by
  have h1 : (bv (b.take k)).length = k := by simp; omega
  have h2 : bv (s.drop k) = .int .u8 s[k].toNat :: bv (s.drop (k + 1)) := by rw [List.drop_eq_getElem_cons hs]; rfl
  rw [bv_append, List.set_append_right _ _ (by omega), h1, Nat.sub_self, List.take_succ_eq_append_getElem hb, bv_append, bv_append, h2, List.set_cons_zero, List.append_assoc]
  rfl

set_option maxHeartbeats 1000000 in
theorem rwrite_torn {B : HProp} {v : Value} {b : List UInt8} (hB : Reads B v b) (n : Int) (hm : refE R n = 0) (hl : b.length = 512) (hn : R.n ≤ 65536) (ha : R.armed = true) (ha0 : R.left = 0) (ht0 : 0 ≤ R.torn) (ht1 : R.torn ≤ 512)
    (hsl : ∀ n, (R.sec n).length = 512) (H : At w0 (RefAt r R :: B :: L) w) :
    Calls Try.prog 17 #[.pointer (some ⟨r, 0, none⟩), .int .i64 n, v] w (Ret w0 (.int .i64 5)
      (RefAt r { R with writes := wrap64 (R.writes + 1), sec := Dk.upd R.sec n (b.take R.torn.toNat ++ (R.sec n).drop R.torn.toNat), fallen := true } :: B :: L)) := by
  obtain ⟨hf, h1, h2⟩ := refE_zero hm
  obtain ⟨i, rfl⟩ := Int.eq_ofNat_of_zero_le h1
  obtain ⟨T, hT⟩ := Int.eq_ofNat_of_zero_le ht0
  have hTt : R.torn.toNat = T := by omega
  rw [hTt]
  have hT1 : (T : Int) ≤ 512 := by omega
  obtain ⟨ad, cap, rfl, _, _, h3⟩ := (hB.at_ H 1 rfl).len
  have hb : ((b.length : Int) == 512) = true := by simp; omega
  have d1 : decide ((i : Int) < 0) = false := decide_eq_false (by omega)
  obtain ⟨sg, vals, he, H⟩ := open_ref H
  rw [hf, ha, ha0, hT] at H
  have Hl := Lib.hid hl
  have He := Lib.hid he
  have Hm := Lib.hid hm
  have Hs := Lib.hid hsl
  have Ha := Lib.hid (And.intro ha (And.intro ha0 (And.intro hT hf)))
  clear h3 hl he hm hsl ha ha0 hT hf ht0 ht1 hTt
  have hh2 : (i : Int) < R.n := h2
  go_enter Try.func17, Try.ntmps17
  go_wp2_with (first | (refine st_load rfl _ _ rfl _ _ rfl ?_ H 0 rfl rfl ?_; (kernel_rfl); (intro K hK; go_simp)) | (refine st_store rfl _ _ _ rfl _ _ rfl _ rfl rfl ?_ H 0 rfl ?_ ?_; (kernel_rfl); (simp); (clear H; intro w H K hK; simp only [List.set_cons_zero, List.set_cons_succ, List.setIfInBounds_toArray, Act.eval, Value.cells, Array.getD_eq_getD_getElem?, List.getElem?_toArray, List.getElem?_cons_succ, List.getElem?_cons_zero, Option.getD_some] at H; go_simp)))
  have HR : At w0 (RefAt r { R with writes := wrap64 (R.writes + 1), torn := T, armed := true, fallen := false, left := 0 } :: B :: L) w := shut_ref (R := { R with writes := wrap64 (R.writes + 1), torn := T, armed := true, fallen := false, left := 0 }) He.out H
  refine (sector HR i (show i < R.n by omega) hn).mono ?_
  clear H HR
  rintro e w ⟨g, rfl, H⟩
  go_wp2_with fail
  go_loopw [8] (fun j wr => ∃ k : Nat, k ≤ T ∧ j = .int .i64 k ∧ At w0 (Blk g (.cells (bv (b.take k ++ (R.sec i).drop k)).toArray 5 (0, 0)) :: RefAt r { R with writes := wrap64 (R.writes + 1), torn := T, armed := true, fallen := false, left := 0 } :: B :: L) wr) (fun j _ => T - (intOf j).toNat)
  case atStart => exact ⟨0, Nat.zero_le _, rfl, by simpa using H⟩
  case round =>
    clear H
    obtain ⟨k, hk, rfl, H⟩ := hrel
    obtain ⟨sg, vals, he, H⟩ : ∃ sg, ∃ vals : List Value, vals.length = R.n ∧ At w0 (Blk r (.cells #[.slice (some ⟨sg, 0, none⟩) R.n R.n, .bool true, .bool false, .int .i64 0, .int .i64 T, .int .i64 R.reads, .int .i64 (wrap64 (R.writes + 1))] 59 (0, 0)) ::
        Blk sg (.cells vals.toArray 33 (0, 0)) :: Elems vals R.sec :: Blk g (.cells (bv (b.take k ++ (R.sec i).drop k)).toArray 5 (0, 0)) :: B :: L) wr := by
      obtain ⟨sg, vals, he, H⟩ := open_ref (H.pick 1 rfl)
      exact ⟨sg, vals, he, H⟩
    have He := Lib.hid he
    clear he
    by_cases hlt : k < T
    · have hbl := Hl.out
      have hsl := Hs.out i
      have hk1 : k < b.length := by omega
      have hk2 : (k : Int) < b.length := by omega
      have Hset := Lib.hid (torn_set hk1 (show k < (R.sec i).length by omega))
      have hlen := len_torn hbl hsl (show k ≤ 512 by omega)
      obtain ⟨bb, cap', hv, _, _, hc⟩ := (hB.at_ H 4 rfl).len
      obtain ⟨b1, rfl, hcell⟩ := hc (by omega)
      cases hv
      have hck := hcell k _ (bv_get b k hk1)
      have Hlen := Lib.hid hlen
      clear hcell hc hbl hsl hlen
      go_wp2_with (first | (refine st_load rfl _ _ rfl _ _ rfl ?_ H 0 rfl rfl ?_; (kernel_rfl); (intro K hK; go_simp)) | (refine st_load1 rfl _ _ rfl _ rfl ?_ hck ?_; (kernel_rfl); (intro K hK; go_simp)) | (refine st_store rfl _ _ _ rfl _ _ rfl _ rfl rfl ?_ H 3 rfl ?_ ?_; (kernel_rfl); (simp only [List.size_toArray]; rw [length_bv, Hlen.out]; omega); (clear H; intro w H K hK; simp only [List.set_cons_zero, List.set_cons_succ, List.setIfInBounds_toArray, Act.eval, Value.cells, Array.getD_eq_getD_getElem?, List.getElem?_toArray, List.getElem?_cons_succ, List.getElem?_cons_zero, Option.getD_some] at H; rw [Hset.out] at H; go_simp)))
      go_roundw
      case rel => exact ⟨k + 1, by omega, by go_num, (shut_ref (R := { R with writes := wrap64 (R.writes + 1), torn := T, armed := true, fallen := false, left := 0 }) He.out H).pick 1 rfl⟩
      case measure => simp [intOf]; omega
    · have hk2 : k = T := by omega
      subst hk2
      have hlen := len_torn Hl.out (Hs.out i) (show k ≤ 512 by omega)
      generalize b.take k ++ (R.sec i).drop k = new at *
      have Hlen := Lib.hid hlen
      clear hlen
      obtain ⟨v0, hv0⟩ : ∃ v0, vals.toArray[i]? = some v0 := by
        have : i < vals.length := by have := He.out; omega
        exact ⟨vals[i], by simp [this]⟩
      have hset : ∀ u, vals.toArray.setIfInBounds i u = (vals.set i u).toArray := fun u => List.setIfInBounds_toArray ..
      go_wp2_with (first | (refine st_load rfl _ _ rfl _ _ rfl ?_ H 0 rfl rfl ?_; (kernel_rfl); (intro K hK; go_simp)) | (refine st_store rfl _ _ _ rfl _ _ rfl _ rfl rfl ?_ H 1 rfl ?_ ?_; (kernel_rfl); (have := He.out; simp only [List.size_toArray]; omega); (clear H; intro w H K hK; simp only [List.set_cons_zero, List.set_cons_succ, hset, Act.eval, Value.cells, Array.getD_eq_getD_getElem?, List.getElem?_toArray, List.getElem?_cons_succ, List.getElem?_cons_zero, Option.getD_some] at H; go_simp)) | (refine st_store rfl _ _ _ rfl _ _ rfl _ rfl rfl ?_ H 0 rfl ?_ ?_; (kernel_rfl); (simp); (clear H; intro w H K hK; simp only [List.set_cons_zero, List.set_cons_succ, List.setIfInBounds_toArray, Act.eval, Value.cells, Array.getD_eq_getD_getElem?, List.getElem?_toArray, List.getElem?_cons_succ, List.getElem?_cons_zero, Option.getD_some] at H; go_simp)))
      go_ret
      refine ⟨rfl, ?_⟩
      have H3 : At w0 (Blk g _ :: Elems vals R.sec :: Blk r _ :: Blk sg _ :: B :: L) _ := H.sel 5 [3, 2, 0, 1, 4]
      have H4 := elem_add (i := i) Hlen.out H3
      have H5 : At w0 (Blk r _ :: Blk sg _ :: Elems _ _ :: B :: L) _ := H4.sel 4 [1, 2, 0, 3]
      obtain ⟨e1, e2, e3, e4⟩ := Ha.out
      have hR : ({ R with writes := wrap64 (R.writes + 1), sec := Dk.upd R.sec i new, fallen := true } : RS) = { R with writes := wrap64 (R.writes + 1), sec := Dk.upd R.sec i new, fallen := true, armed := true, left := 0, torn := k } := by
        rw [e1, e2, e3]
      rw [hR]
      exact shut_ref (R := { R with writes := wrap64 (R.writes + 1), sec := Dk.upd R.sec i new, fallen := true, armed := true, left := 0, torn := k }) (by rw [List.length_set]; exact He.out) H5

/-- What may be said of the reference's disk at any time. -/
structure RefOk (R : RS) : Prop where
  n : R.n ≤ 65536
  t0 : 0 ≤ R.torn
  t1 : R.torn ≤ 512
  len : ∀ n, (R.sec n).length = 512

theorem rwrite {B : HProp} {v : Value} {b : List UInt8} (hB : Reads B v b) (n : Int) (ok : RefOk R) (H : At w0 (RefAt r R :: B :: L) w) :
    Calls Try.prog 17 #[.pointer (some ⟨r, 0, none⟩), .int .i64 n, v] w (Ret w0 (.int .i64 (rwritten R n b).2) (RefAt r (rwritten R n b).1 :: B :: L)) := by
  by_cases hm : refE R n = 0
  · by_cases hl : b.length = 512
    · by_cases ha : R.armed = true ∧ R.left = 0
      · have := rwrite_torn hB n hm hl ok.n ha.1 ha.2 ok.t0 ok.t1 ok.len H
        simpa [rwritten, hm, hl, ha.1, ha.2] using this
      · have := rwrite_whole hB n hm hl ok.n ha H
        simpa [rwritten, hm, hl, ha] using this
    · have := rwrite_len hB n hm hl H
      simpa [rwritten, hm, hl] using this
  · have := rwrite_no hB n hm H
    simpa [rwritten, hm] using this
end
end Rf
end Go.Proofs.Ytbbkfneafonmiaa
