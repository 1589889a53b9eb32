/-
  The disk of the program: Write, Image, Load.
-/
import Derived.Test.YtbbkfneafonmiaaDisk
import Derived.Test.YtbbkfneafonmiaaOrd
namespace Go.Proofs.Ytbbkfneafonmiaa
open Go.Hp Go.RowKit
set_option linter.unusedVariables false
set_option linter.unusedSimpArgs false
namespace Dk

def pwBytes : Option (Option (Int × Int)) → Int
  | some (some (l, t)) => if l = 0 then t else 512
  | _ => 512
def pwHolds : Option (Option (Int × Int)) → Bool
  | some (some (l, t)) => if l = 0 then false else true
  | _ => true
def pwNext : Option (Option (Int × Int)) → Option (Option (Int × Int))
  | some (some (l, t)) => if l = 0 then some (some (l, t)) else some (some (l - 1, t))
  | p => p

/-- What an armed power may hold. -/
def PwOk (p : Option (Option (Int × Int))) : Prop := ∀ l t, p = some (some (l, t)) → 0 ≤ l ∧ l ≤ 9223372036854775807 ∧ 0 ≤ t ∧ t ≤ 512

theorem pwBytes_range {p : Option (Option (Int × Int))} (h : PwOk p) : 0 ≤ pwBytes p ∧ pwBytes p ≤ 512 := by
  match p with
  | none => simp [pwBytes]
  | some none => simp [pwBytes]
  | some (some (l, t)) =>
    obtain ⟨h1, h2, h3, h4⟩ := h l t rfl
    by_cases h0 : l = 0
    · simp [pwBytes, h0, h3, h4]
    · simp [pwBytes, h0]

theorem method_steady (w : World) : (callMethod (.iface 69 (.agg #[])) "cairn/disk.write" #[]).run Try.prog w = .ok (.enter 55 #[.agg #[]]) w := by kernel_rfl
theorem method_fuse (p : Addr) (w : World) : (callMethod (.iface 79 (.pointer (some p))) "cairn/disk.write" #[]).run Try.prog w = .ok (.enter 56 #[.pointer (some p)]) w := by kernel_rfl

section
variable {w0 w : World} {L : List HProp} {d : Nat} {D : DS}
variable {ops : Array Oper} {Q : Exit → Act → World → Prop} {a : Act} {rest : List Oper} {o : Oper}

/-- The power is asked. -/
theorem st_power (hw : Region.wanted o (yielded ops a.tmps) = true) (x : Operand) (ho : o.op = .call { callee := .invoke x "cairn/disk.write", args := #[], argTypes := #[] }) {pv : Value} (hx : a.eval x = pv)
    {p : Option (Option (Int × Int))} (hp : p.isNone = false) (hok : PwOk p) (H : At w0 (PwAt p pv :: L) w)
    (h : ∀ w', At w0 (PwAt (pwNext p) pv :: L) w' → ∀ K : Act → World → Prop, (∀ a w, wpList Try.prog ops Q rest a w → K a w) → K (a.put o.dst (.tuple #[.int .i64 (pwBytes p), .bool (pwHolds p)])) w') :
    wpList Try.prog ops Q (o :: rest) a w := by
  unfold wpList
  rw [if_pos hw]
  refine .inl ?_
  unfold Oper.wp
  match p with
  | none => cases hp
  | some none =>
    obtain ⟨rfl, H2⟩ := pw_steady H
    have hr : (execOp a.eval o).run Try.prog w = .ok (.enter 55 #[.agg #[]]) w := by
      simp [execOp, ho, resolve, hx, invoke, method_steady]
    rw [hr]
    refine (swrite H2).mono ?_
    rintro e w ⟨rfl, H3⟩
    exact h w (to_steady H3) _ fun _ _ h => h
  | some (some (l, t)) =>
    obtain ⟨h1, h2, h3, h4⟩ := hok l t rfl
    obtain ⟨f, rfl, H2⟩ := pw_fuse H
    have hr : (execOp a.eval o).run Try.prog w = .ok (.enter 56 #[.pointer (some ⟨f, 0, none⟩)]) w := by
      simp [execOp, ho, resolve, hx, invoke, method_fuse]
    rw [hr]
    by_cases h0 : l = 0
    · subst h0
      refine (fwrite_0 H2).mono ?_
      rintro e w ⟨rfl, H3⟩
      have := h w (by simpa [pwNext] using to_fuse H3) _ fun _ _ h => h
      simpa [pwBytes, pwHolds] using this
    · refine (fwrite_1 (by omega) h2 H2).mono ?_
      rintro e w ⟨rfl, H3⟩
      have := h w (by simpa [pwNext, h0] using to_fuse H3) _ fun _ _ h => h
      simpa [pwBytes, pwHolds, h0] using this

def upd (s : Int → List UInt8) (n : Int) (b : List UInt8) : Int → List UInt8 := fun m => if m = n then b else s m

theorem splice_bv {s b : List UInt8} {k : Nat} (h : k ≤ b.length) : splice (bv s) 0 (bv (b.take k)) = bv (b.take k ++ s.drop k) := by
  simp [splice, bv, List.map_take, Nat.min_eq_left h]

/-- What Write makes of the disk, and its answer. -/
def written (D : DS) (n : Int) (b : List UInt8) : DS × Int :=
  if mayE D n ≠ 0 then (D, mayE D n) else if b.length ≠ 512 then (D, 32) else
  ({ D with writes := wrap64 (D.writes + 1), pw := if pwHolds D.pw then pwNext D.pw else none, sec := upd D.sec n (b.take (pwBytes D.pw).toNat ++ (D.sec n).drop (pwBytes D.pw).toNat) }, if pwHolds D.pw then 0 else 5)

theorem write_no {B : HProp} {v : Value} {b : List UInt8} (hB : Reads B v b) (n : Int) (hm : mayE D n ≠ 0) (H : At w0 (DiskAt d D :: B :: L) w) :
    Calls Try.prog 16 #[.pointer (some ⟨d, 0, none⟩), .int .i64 n, v] w (Ret w0 (.int .i64 (mayE D n)) (DiskAt d D :: B :: L)) := by
  have hb : (mayE D n == 0) = false := by simpa using hm
  go_enter Try.func16, Try.ntmps16
  go_wp2_with fail
  refine (may H n).mono ?_
  rintro e w ⟨rfl, H⟩
  generalize mayE D n = m at *
  go_wp2_with fail
  go_ret
  exact ⟨rfl, H⟩

theorem write_len {B : HProp} {v : Value} {b : List UInt8} (hB : Reads B v b) (n : Int) (hm : mayE D n = 0) (hl : b.length ≠ 512) (H : At w0 (DiskAt d D :: B :: L) w) :
    Calls Try.prog 16 #[.pointer (some ⟨d, 0, none⟩), .int .i64 n, v] w (Ret w0 (.int .i64 32) (DiskAt d D :: B :: L)) := by
  obtain ⟨ad, cap, rfl, h1, h2, h3⟩ := (hB.at_ H 1 rfl).len
  have hb : ((b.length : Int) == 512) = false := by simp; omega
  have Hm := Lib.hid hm
  clear hm
  go_enter Try.func16, Try.ntmps16
  go_wp2_with fail
  refine (may H n).mono ?_
  rintro e w ⟨rfl, H⟩
  rw [Hm.out]
  go_wp2_with fail
  go_ret
  exact ⟨rfl, H⟩

set_option maxHeartbeats 1000000 in
theorem write_yes {B : HProp} {v : Value} {b : List UInt8} (hB : Reads B v b) (hok : PwOk D.pw) (n : Int) (hm : mayE D n = 0) (hl : b.length = 512) (H : At w0 (DiskAt d D :: B :: L) w) :
    Calls Try.prog 16 #[.pointer (some ⟨d, 0, none⟩), .int .i64 n, v] w (Ret w0 (.int .i64 (written D n b).2) (DiskAt d (written D n b).1 :: B :: L)) := by
  obtain ⟨ad, cap, rfl, h1, h2, h3⟩ := (hB.at_ H 1 rfl).len
  have hp : D.pw.isNone = false := by
    cases hq : D.pw.isNone with
    | false => rfl
    | true => simp [mayE, hq] at hm
  have hb : ((b.length : Int) == 512) = true := by simp; omega
  have Hm := Lib.hid hm
  have Hl := Lib.hid hl
  clear hm hl
  go_enter Try.func16, Try.ntmps16
  go_wp2_with fail
  refine (may H n).mono ?_
  rintro e w ⟨rfl, H⟩
  rw [Hm.out]
  obtain ⟨mb, es, ck, pv, f, ⟨he, hs⟩, H⟩ := open_disk H
  have hv := (hs n).2
  have hl := (hs n).1
  go_wp2_with (first | (refine st_load rfl _ _ rfl _ _ rfl ?_ H 0 rfl rfl ?_; (kernel_rfl); (intro K hK; go_simp)) | (refine st_store rfl _ _ _ rfl _ _ rfl _ rfl rfl ?_ H 0 rfl ?_ ?_; (kernel_rfl); (simp); (clear H; intro w H K hK; simp only [List.set_cons_zero, List.set_cons_succ, List.setIfInBounds_toArray, Act.eval, Value.cells, Array.getD_eq_getD_getElem?, List.getElem?_toArray, List.getElem?_cons_succ, List.getElem?_cons_zero, Option.getD_some] at H; go_simp)) | (refine st_load rfl _ _ rfl _ _ rfl ?_ H 1 rfl rfl ?_; (kernel_rfl); (intro K hK; go_simp)) | (refine st_power rfl _ rfl (pv := pv) rfl hp hok (H.pick 2 rfl) ?_; (clear H; intro w H K hK; replace H := H.back 2 (by simp); simp only [List.eraseIdx_cons_succ, List.eraseIdx_cons_zero, List.insertIdx_succ_cons, List.insertIdx_zero] at H; go_simp))      | (refine st_lookup rfl _ _ _ _ rfl _ rfl _ rfl _ _ Try.underlying67 Try.underlying3 zarr zero_arr H 1 rfl f he ?_; (intro K hK; go_simp)) | (refine st_alloc rfl _ rfl zarr zero_arr _ zarr_cells H ?_; (clear H; intro g w H K hK; go_simp)) | (refine st_put rfl _ _ _ rfl _ rfl (bv (D.sec n)).toArray rfl (bv_oneA _) ?_ H 0 rfl ?_ ?_; (rw [size_bvA, hl]; exact size_arr); (rw [size_bvA, size_bvA, hl, len_zer]); (clear H; intro w H K hK; simp only [List.set_cons_zero] at H; go_simp)))
  have hk := pwBytes_range hok
  obtain ⟨k, hk0⟩ := Int.eq_ofNat_of_zero_le hk.1
  have hk1 : (k : Int) ≤ 512 := by rw [← hk0]; exact hk.2
  have hk2 : (k : Int) ≤ cap := by have := Hl.out; omega
  clear hk
  obtain ⟨bb, rfl, _⟩ := h3 (by have := Hl.out; omega)
  clear h3
  refine wp_region_tail_at 4 (by kernel_rfl) (by kernel_rfl) H ?_
  clear H
  intro w H
  simp only [List.take_succ_cons, List.take_zero, List.drop_succ_cons, List.drop_zero]
  repeat still_step
  refine wpStill_nil ?_
  have hbl := Hl.out
  refine st_copy rfl _ _ _ _ rfl 5 Try.underlying33 (by kernel_rfl) g 0 512 512 k cap (some bb) rfl rfl (bv (b.take k)) ?_ ?_ (bv_one _) H 0 rfl ?_ ?_
  · rw [length_bv, List.length_take]; show _ = min k 512; omega
  · intro _
    exact ⟨bb, rfl, fun j v hj => (hB.at_ H 4 rfl).cells j v (bv_take hj)⟩
  · rw [length_bv, length_bv, List.length_take, hl]; omega
  have hsp : splice (bv (D.sec n)) 0 (bv (b.take k)) = bv (b.take k ++ (D.sec n).drop k) := splice_bv (by omega : k ≤ b.length)
  rw [hsp]
  have hnl : (b.take k ++ (D.sec n).drop k).length = 512 := by rw [List.length_append, List.length_take, List.length_drop, hl]; omega
  clear H hsp hv hbl
  generalize hnew : b.take k ++ (D.sec n).drop k = new at *
  have Hnew := Lib.hid hnew
  have Hnl := Lib.hid hnl
  clear hnew hnl
  intro w H K hK
  simp only [List.set_cons_zero] at H
  go_simp
  go_wp2_with (first | (refine st_load rfl _ _ rfl _ _ rfl ?_ H 0 rfl rfl ?_; (kernel_rfl); (intro K hK; go_simp)) | (refine st_store rfl _ _ _ rfl _ _ rfl _ rfl rfl ?_ H 0 rfl ?_ ?_; (kernel_rfl); (simp); (clear H; intro w H K hK; simp only [List.set_cons_zero, List.set_cons_succ, List.setIfInBounds_toArray, Act.eval, Value.cells, Array.getD_eq_getD_getElem?, List.getElem?_toArray, List.getElem?_cons_succ, List.getElem?_cons_zero, Option.getD_some] at H; go_simp)))
  refine wp_region_tail_at 6 (by kernel_rfl) (by kernel_rfl) H ?_
  clear H
  intro w H
  simp only [List.take_succ_cons, List.take_zero, List.drop_succ_cons, List.drop_zero]
  repeat (first | (refine sl_load rfl _ _ rfl _ _ rfl ?_ H 1 rfl rfl ?_; (kernel_rfl); (intro K hK; go_simp; refine hK _ ?_; clear hK K)) | (refine sl_row rfl _ _ rfl _ rfl ?_ 512 ?_ H 0 rfl ?_ ?_; (kernel_rfl); (kernel_rfl); (rw [size_bvA]; exact Hnl.out); (intro K hK; go_simp; refine hK _ ?_; clear hK K)) | still_step)
  refine wpStill_nil ?_
  refine st_mapUpdate rfl _ _ _ _ rfl mb rfl n rfl _ rfl _ _ Try.underlying67 Try.underlying3 H 2 rfl f he ?_
  clear H
  intro es' ck' w H he' K hK
  simp only [List.set_cons_zero, List.set_cons_succ, Act.eval, Value.cells, Array.getD_eq_getD_getElem?, List.getElem?_toArray, List.getElem?_cons_succ, List.getElem?_cons_zero, Option.getD_some] at H he'
  go_simp
  have hs' : Secs (fun m => if m = n then some (.agg (bv new).toArray) else f m) (upd D.sec n new) := by
    intro m
    by_cases hmn : m = n
    · subst hmn; simp [upd, Hnl.out]
    · simp only [upd, if_neg hmn]; exact hs m
  have e : written D n b = ({ D with writes := wrap64 (D.writes + 1), pw := if pwHolds D.pw then pwNext D.pw else none, sec := upd D.sec n new }, if pwHolds D.pw then 0 else 5) := by
    simp only [written, Hm.out, Hl.out, hk0, Hnew.out, Int.toNat_natCast, ne_eq, not_true_eq_false, if_false]
  have He := Lib.hid e
  clear e
  cases hh : pwHolds D.pw with
  | true =>
    go_wp2_with (first | (refine st_load rfl _ _ rfl _ _ rfl ?_ H 0 rfl rfl ?_; (kernel_rfl); (intro K hK; go_simp)) | (refine st_load rfl _ _ rfl _ _ rfl ?_ H 1 rfl rfl ?_; (kernel_rfl); (intro K hK; go_simp)) | (refine st_store rfl _ _ _ rfl _ _ rfl _ rfl rfl ?_ H 0 rfl ?_ ?_; (kernel_rfl); (simp); (clear H; intro w H K hK; simp only [List.set_cons_zero, List.set_cons_succ, List.setIfInBounds_toArray, Act.eval, Value.cells, Array.getD_eq_getD_getElem?, List.getElem?_toArray, List.getElem?_cons_succ, List.getElem?_cons_zero, Option.getD_some] at H; go_simp)) | (refine st_store rfl _ _ _ rfl _ _ rfl _ rfl rfl ?_ H 1 rfl ?_ ?_; (kernel_rfl); (simp); (clear H; intro w H K hK; simp only [List.set_cons_zero, List.set_cons_succ, List.setIfInBounds_toArray, Act.eval, Value.cells, Array.getD_eq_getD_getElem?, List.getElem?_toArray, List.getElem?_cons_succ, List.getElem?_cons_zero, Option.getD_some] at H; go_simp)))
    go_ret
    have e := He.out
    rw [hh] at e
    rw [e]
    exact ⟨rfl, shut_disk (D := { D with writes := wrap64 (D.writes + 1), pw := pwNext D.pw, sec := upd D.sec n new }) he' hs' H.drop⟩
  | false =>
    go_wp2_with (first | (refine st_load rfl _ _ rfl _ _ rfl ?_ H 0 rfl rfl ?_; (kernel_rfl); (intro K hK; go_simp)) | (refine st_load rfl _ _ rfl _ _ rfl ?_ H 1 rfl rfl ?_; (kernel_rfl); (intro K hK; go_simp)) | (refine st_store rfl _ _ _ rfl _ _ rfl _ rfl rfl ?_ H 0 rfl ?_ ?_; (kernel_rfl); (simp); (clear H; intro w H K hK; simp only [List.set_cons_zero, List.set_cons_succ, List.setIfInBounds_toArray, Act.eval, Value.cells, Array.getD_eq_getD_getElem?, List.getElem?_toArray, List.getElem?_cons_succ, List.getElem?_cons_zero, Option.getD_some] at H; go_simp)) | (refine st_store rfl _ _ _ rfl _ _ rfl _ rfl rfl ?_ H 1 rfl ?_ ?_; (kernel_rfl); (simp); (clear H; intro w H K hK; simp only [List.set_cons_zero, List.set_cons_succ, List.setIfInBounds_toArray, Act.eval, Value.cells, Array.getD_eq_getD_getElem?, List.getElem?_toArray, List.getElem?_cons_succ, List.getElem?_cons_zero, Option.getD_some] at H; go_simp)))
    go_ret
    have e := He.out
    rw [hh] at e
    rw [e]
    have H2 : At w0 (Blk d _ :: Blk mb _ :: PwAt none _ :: B :: L) w := (to_none (H.drop.pick 2 rfl).drop).back 2 (by simp)
    exact ⟨rfl, shut_disk (D := { D with writes := wrap64 (D.writes + 1), pw := none, sec := upd D.sec n new }) he' hs' H2⟩

theorem write {B : HProp} {v : Value} {b : List UInt8} (hB : Reads B v b) (hok : PwOk D.pw) (n : Int) (H : At w0 (DiskAt d D :: B :: L) w) :
    Calls Try.prog 16 #[.pointer (some ⟨d, 0, none⟩), .int .i64 n, v] w (Ret w0 (.int .i64 (written D n b).2) (DiskAt d (written D n b).1 :: B :: L)) := by
  by_cases hm : mayE D n = 0
  · by_cases hl : b.length = 512
    · exact write_yes hB hok n hm hl H
    · have := write_len hB n hm hl H
      simpa [written, hm, hl] using this
  · have := write_no hB n hm H
    simpa [written, hm] using this
end
end Dk
end Go.Proofs.Ytbbkfneafonmiaa
