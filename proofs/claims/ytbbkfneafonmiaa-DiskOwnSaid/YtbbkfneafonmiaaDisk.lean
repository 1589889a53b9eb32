/-
  The disk of the program: what is said of it in memory, and what each call does to that.
-/
import Derived.Test.YtbbkfneafonmiaaRows
import Derived.Test.YtbbkfneafonmiaaMaps
import Derived.Test.YtbbkfneafonmiaaArr
import Derived.Outline
namespace Go.Proofs.Ytbbkfneafonmiaa
open Go.Hp Go.RowKit
set_option linter.unusedVariables false
set_option linter.unusedSimpArgs false

namespace Dk

structure DS where
  n : Int
  sec : Int → List UInt8
  pw : Option (Option (Int × Int))
  reads : Int
  writes : Int

/-- The power's value and block. -/
def PwAt : Option (Option (Int × Int)) → Value → HProp
  | none, v => fun h => v = .nilIface ∧ Stars [] h
  | some none, v => fun h => v = .iface 69 (.agg #[]) ∧ Stars [] h
  | some (some (l, t)), v => fun h => ∃ f, v = .iface 79 (.pointer (some ⟨f, 0, none⟩)) ∧ Blk f (.cells #[.int .i64 l, .int .i64 t] 81 (0, 0)) h


/-- 512 zeros. -/
def zer : List UInt8 := List.replicate 512 0
theorem len_zer : zer.length = 512 := List.length_replicate
def zarr : Value := .agg (bv zer).toArray
theorem zarr_cells : zarr.cells = (bv zer).toArray := rfl
theorem zarr_eq : zarr = .agg (bv zer).toArray := rfl
theorem size_bvA (l : List UInt8) : (bv l).toArray.size = l.length := by simp
theorem bv_oneA (l : List UInt8) : ∀ v ∈ (bv l).toArray.toList, v.oneCell' = true := bv_one l
theorem zero_arr : zeroT Try.prog 77 = some zarr := by kernel_rfl
theorem size_arr : sizeT Try.prog 77 = some 512 := by kernel_rfl

theorem made_zer : madeCells (Value.int .u8 0).cells ((512 : Int).toNat * 1) = (bv zer).toArray := by
  have h : (512 : Int).toNat * 1 = 512 := rfl
  rw [h]
  refine (madeCells_one (.int .u8 0) 512).trans ?_
  unfold zer bv
  rw [List.map_replicate]
  rfl
attribute [irreducible] zer zarr
/-- What the map tells is the sectors. -/
def Secs (f : Int → Option Value) (s : Int → List UInt8) : Prop := ∀ n, (s n).length = 512 ∧ (f n).getD zarr = .agg (bv (s n)).toArray

def dcells (D : DS) (mb : Nat) (pv : Value) : Array Value := #[.int .i64 D.n, .map (some mb), pv, .int .i64 D.reads, .int .i64 D.writes]

def DiskAt (d : Nat) (D : DS) : HProp := fun h => ∃ mb, ∃ es, ∃ ck, ∃ pv, ∃ f, (IMap es f ∧ Secs f D.sec) ∧
  Stars [Blk d (.cells #[.int .i64 D.n, .map (some mb), pv, .int .i64 D.reads, .int .i64 D.writes] 73 (0, 0)), Blk mb (.map es ck), PwAt D.pw pv] h

section
variable {w0 w : World} {L : List HProp} {d : Nat} {D : DS}

theorem open_disk (H : At w0 (DiskAt d D :: L) w) : ∃ mb es ck pv f, (IMap es f ∧ Secs f D.sec) ∧
    At w0 (Blk d (.cells #[.int .i64 D.n, .map (some mb), pv, .int .i64 D.reads, .int .i64 D.writes] 73 (0, 0)) :: Blk mb (.map es ck) :: PwAt D.pw pv :: L) w := by
  obtain ⟨mb, H⟩ := H.ex
  obtain ⟨es, H⟩ := H.ex
  obtain ⟨ck, H⟩ := H.ex
  obtain ⟨pv, H⟩ := H.ex
  obtain ⟨f, H⟩ := H.ex
  obtain ⟨he, H⟩ := H.and
  exact ⟨mb, es, ck, pv, f, he, H.flat⟩

theorem shut_disk {mb : Nat} {es : Array MapEntry} {ck : Nat} {pv : Value} {f : Int → Option Value} (he : IMap es f) (hs : Secs f D.sec)
    (H : At w0 (Blk d (.cells #[.int .i64 D.n, .map (some mb), pv, .int .i64 D.reads, .int .i64 D.writes] 73 (0, 0)) :: Blk mb (.map es ck) :: PwAt D.pw pv :: L) w) : At w0 (DiskAt d D :: L) w := by
  have H2 : At w0 (Stars [Blk d (.cells #[.int .i64 D.n, .map (some mb), pv, .int .i64 D.reads, .int .i64 D.writes] 73 (0, 0)), Blk mb (.map es ck), PwAt D.pw pv] :: L) w := At.fold (M := [_, _, _]) H
  exact H2.imp fun h hh => ⟨mb, es, ck, pv, f, ⟨he, hs⟩, hh⟩

theorem pw_val {p : Option (Option (Int × Int))} {v : Value} (H : At w0 (PwAt p v :: L) w) : (p = none ∧ v = .nilIface) ∨ (p.isNone = false ∧ ∃ T x, v = .iface T x) := by
  match p with
  | none => exact .inl ⟨rfl, (At.and H).1⟩
  | some none => exact .inr ⟨rfl, _, _, (At.and H).1⟩
  | some (some (l, t)) =>
    obtain ⟨f, H⟩ := At.ex (A := fun f h => v = .iface 79 (.pointer (some ⟨f, 0, none⟩)) ∧ Blk f (.cells #[.int .i64 l, .int .i64 t] 81 (0, 0)) h) H
    exact .inr ⟨rfl, _, _, (At.and H).1⟩

theorem At.nil {w0 w : World} {L : List HProp} (H : At w0 L w) : At w0 (Stars [] :: L) w := At.fold (M := []) H

theorem pw_none {v : Value} (H : At w0 (PwAt none v :: L) w) : v = .nilIface ∧ At w0 L w := ⟨(At.and H).1, (At.and H).2.drop⟩
theorem pw_steady {v : Value} (H : At w0 (PwAt (some none) v :: L) w) : v = .iface 69 (.agg #[]) ∧ At w0 L w := ⟨(At.and H).1, (At.and H).2.drop⟩
theorem pw_fuse {l t : Int} {v : Value} (H : At w0 (PwAt (some (some (l, t))) v :: L) w) : ∃ f, v = .iface 79 (.pointer (some ⟨f, 0, none⟩)) ∧ At w0 (Blk f (.cells #[.int .i64 l, .int .i64 t] 81 (0, 0)) :: L) w := by
  obtain ⟨f, H⟩ := At.ex (A := fun f h => v = .iface 79 (.pointer (some ⟨f, 0, none⟩)) ∧ Blk f (.cells #[.int .i64 l, .int .i64 t] 81 (0, 0)) h) H
  exact ⟨f, (At.and H).1, (At.and H).2⟩
theorem to_none (H : At w0 L w) : At w0 (PwAt none .nilIface :: L) w := (At.nil H).imp fun h hh => ⟨rfl, hh⟩
theorem to_steady (H : At w0 L w) : At w0 (PwAt (some none) (.iface 69 (.agg #[])) :: L) w := (At.nil H).imp fun h hh => ⟨rfl, hh⟩
theorem to_fuse {l t : Int} {f : Nat} (H : At w0 (Blk f (.cells #[.int .i64 l, .int .i64 t] 81 (0, 0)) :: L) w) : At w0 (PwAt (some (some (l, t))) (.iface 79 (.pointer (some ⟨f, 0, none⟩))) :: L) w :=
  H.imp fun h hh => ⟨f, rfl, hh⟩

theorem sectors (H : At w0 (DiskAt d D :: L) w) : Calls Try.prog 27 #[.pointer (some ⟨d, 0, none⟩)] w (Ret w0 (.int .i64 D.n) (DiskAt d D :: L)) := by
  obtain ⟨mb, es, ck, pv, f, ⟨he, hs⟩, H⟩ := open_disk H
  go_enter Try.func27, Try.ntmps27
  go_wp2_with (first | (refine st_load rfl _ _ rfl _ _ rfl ?_ H 0 rfl rfl ?_; (kernel_rfl); (intro K hK; go_simp)) | (refine st_store rfl _ _ _ rfl _ _ rfl _ rfl rfl ?_ H 0 rfl ?_ ?_; (kernel_rfl); (simp); (clear H; intro w H K hK; simp only [List.set_cons_zero, List.set_cons_succ, List.setIfInBounds_toArray, Act.eval, Value.cells, Array.getD_eq_getD_getElem?, List.getElem?_toArray, List.getElem?_cons_succ, List.getElem?_cons_zero, Option.getD_some] at H; go_simp)))
  go_ret
  exact ⟨rfl, shut_disk he hs H⟩

theorem fallen (H : At w0 (DiskAt d D :: L) w) : Calls Try.prog 24 #[.pointer (some ⟨d, 0, none⟩)] w (Ret w0 (.bool D.pw.isNone) (DiskAt d D :: L)) := by
  obtain ⟨mb, es, ck, pv, f, ⟨he, hs⟩, H⟩ := open_disk H
  rcases pw_val (H.pick 2 rfl) with ⟨hp, rfl⟩ | ⟨hp, T, x, rfl⟩
  · go_enter Try.func24, Try.ntmps24
    go_wp2_with (first | (refine st_load rfl _ _ rfl _ _ rfl ?_ H 0 rfl rfl ?_; (kernel_rfl); (intro K hK; go_simp)) | (refine st_store rfl _ _ _ rfl _ _ rfl _ rfl rfl ?_ H 0 rfl ?_ ?_; (kernel_rfl); (simp); (clear H; intro w H K hK; simp only [List.set_cons_zero, List.set_cons_succ, List.setIfInBounds_toArray, Act.eval, Value.cells, Array.getD_eq_getD_getElem?, List.getElem?_toArray, List.getElem?_cons_succ, List.getElem?_cons_zero, Option.getD_some] at H; go_simp)))
    go_ret
    exact ⟨by rw [hp]; rfl, shut_disk he hs H⟩
  · go_enter Try.func24, Try.ntmps24
    go_wp2_with (first | (refine st_load rfl _ _ rfl _ _ rfl ?_ H 0 rfl rfl ?_; (kernel_rfl); (intro K hK; go_simp)) | (refine st_store rfl _ _ _ rfl _ _ rfl _ rfl rfl ?_ H 0 rfl ?_ ?_; (kernel_rfl); (simp); (clear H; intro w H K hK; simp only [List.set_cons_zero, List.set_cons_succ, List.setIfInBounds_toArray, Act.eval, Value.cells, Array.getD_eq_getD_getElem?, List.getElem?_toArray, List.getElem?_cons_succ, List.getElem?_cons_zero, Option.getD_some] at H; go_simp)))
    go_ret
    exact ⟨by rw [hp]; rfl, shut_disk he hs H⟩

theorem start (H : At w0 (DiskAt d D :: L) w) : Calls Try.prog 25 #[.pointer (some ⟨d, 0, none⟩)] w (Ret w0 (.tuple #[]) (DiskAt d { D with pw := some none } :: L)) := by
  obtain ⟨mb, es, ck, pv, f, ⟨he, hs⟩, H⟩ := open_disk H
  go_enter Try.func25, Try.ntmps25
  go_wp2_with (first | (refine st_load rfl _ _ rfl _ _ rfl ?_ H 0 rfl rfl ?_; (kernel_rfl); (intro K hK; go_simp)) | (refine st_store rfl _ _ _ rfl _ _ rfl _ rfl rfl ?_ H 0 rfl ?_ ?_; (kernel_rfl); (simp); (clear H; intro w H K hK; simp only [List.set_cons_zero, List.set_cons_succ, List.setIfInBounds_toArray, Act.eval, Value.cells, Array.getD_eq_getD_getElem?, List.getElem?_toArray, List.getElem?_cons_succ, List.getElem?_cons_zero, Option.getD_some] at H; go_simp)))
  go_end0
  have H2 := to_steady ((H.pick 2 rfl).drop)
  exact ⟨rfl, shut_disk he hs (H2.back 2 (by simp))⟩

def mayE (D : DS) (n : Int) : Int := if D.pw.isNone then 5 else if n < 0 ∨ D.n ≤ n then 31 else 0

theorem may (H : At w0 (DiskAt d D :: L) w) (n : Int) : Calls Try.prog 34 #[.pointer (some ⟨d, 0, none⟩), .int .i64 n] w (Ret w0 (.int .i64 (mayE D n)) (DiskAt d D :: L)) := by
  cases hp : D.pw.isNone with
  | true =>
    have hm : mayE D n = 5 := by simp [mayE, hp]
    go_enter Try.func34, Try.ntmps34
    go_wp2_with fail
    refine (fallen H).mono ?_
    rintro e w ⟨rfl, H⟩
    rw [hp]
    go_wp2_with fail
    go_ret
    exact ⟨by rw [hm]; rfl, H⟩
  | false =>
    by_cases h1 : n < 0
    · have hm : mayE D n = 31 := by simp [mayE, hp, h1]
      go_enter Try.func34, Try.ntmps34
      go_wp2_with fail
      refine (fallen H).mono ?_
      rintro e w ⟨rfl, H⟩
      rw [hp]
      go_wp2_with fail
      go_ret
      exact ⟨by rw [hm]; rfl, H⟩
    · have d1 : decide (n < 0) = false := decide_eq_false h1
      by_cases h2 : D.n ≤ n
      · have hm : mayE D n = 31 := by simp [mayE, hp, h1, h2]
        go_enter Try.func34, Try.ntmps34
        go_wp2_with fail
        refine (fallen H).mono ?_
        rintro e w ⟨rfl, H⟩
        rw [hp]
        obtain ⟨mb, es, ck, pv, f, ⟨he, hs⟩, H⟩ := open_disk H
        go_wp2_with (first | (refine st_load rfl _ _ rfl _ _ rfl ?_ H 0 rfl rfl ?_; (kernel_rfl); (intro K hK; go_simp)) | (refine st_store rfl _ _ _ rfl _ _ rfl _ rfl rfl ?_ H 0 rfl ?_ ?_; (kernel_rfl); (simp); (clear H; intro w H K hK; simp only [List.set_cons_zero, List.set_cons_succ, List.setIfInBounds_toArray, Act.eval, Value.cells, Array.getD_eq_getD_getElem?, List.getElem?_toArray, List.getElem?_cons_succ, List.getElem?_cons_zero, Option.getD_some] at H; go_simp)))
        go_ret
        exact ⟨by rw [hm]; rfl, shut_disk he hs H⟩
      · have hm : mayE D n = 0 := by simp [mayE, hp, h1, h2]
        go_enter Try.func34, Try.ntmps34
        go_wp2_with fail
        refine (fallen H).mono ?_
        rintro e w ⟨rfl, H⟩
        rw [hp]
        obtain ⟨mb, es, ck, pv, f, ⟨he, hs⟩, H⟩ := open_disk H
        go_wp2_with (first | (refine st_load rfl _ _ rfl _ _ rfl ?_ H 0 rfl rfl ?_; (kernel_rfl); (intro K hK; go_simp)) | (refine st_store rfl _ _ _ rfl _ _ rfl _ rfl rfl ?_ H 0 rfl ?_ ?_; (kernel_rfl); (simp); (clear H; intro w H K hK; simp only [List.set_cons_zero, List.set_cons_succ, List.setIfInBounds_toArray, Act.eval, Value.cells, Array.getD_eq_getD_getElem?, List.getElem?_toArray, List.getElem?_cons_succ, List.getElem?_cons_zero, Option.getD_some] at H; go_simp)))
        go_ret
        exact ⟨by rw [hm]; rfl, shut_disk he hs H⟩

theorem new_no (H : At w0 L w) (n : Int) (h : n < 1 ∨ 65536 < n) : Calls Try.prog 13 #[.int .i64 n] w (Ret w0 (.tuple #[.pointer none, .int .i64 30]) L) := by
  by_cases h1 : n < 1
  · go_enter Try.func13, Try.ntmps13
    go_wp2_with fail
    go_ret2
    exact ⟨rfl, H⟩
  · have h2 : 65536 < n := by omega
    go_enter Try.func13, Try.ntmps13
    go_wp2_with fail
    go_ret2
    exact ⟨rfl, H⟩

theorem new_yes (H : At w0 L w) (n : Int) (h1 : 1 ≤ n) (h2 : n ≤ 65536) : Calls Try.prog 13 #[.int .i64 n] w
    (RetEx w0 (fun d => .tuple #[.pointer (some ⟨d, 0, none⟩), .int .i64 0]) (fun d => DiskAt d ⟨n, fun _ => zer, some none, 0, 0⟩ :: L)) := by
  go_enter Try.func13, Try.ntmps13
  go_wp2_with (first | (refine st_makeMap rfl _ rfl H ?_; (clear H; intro mb w H K hK; go_simp)) | (refine st_box rfl _ _ rfl _ rfl H ?_; (clear H; intro d w H K hK; simp only [Act.eval, Value.cells, Array.getD_eq_getD_getElem?, List.getElem?_toArray, List.getElem?_cons_succ, List.getElem?_cons_zero, Option.getD_some] at H; go_simp)))
  go_ret2
  have H2 : At w0 (Blk d _ :: Blk mb _ :: PwAt (some none) _ :: L) w := (to_steady H).back 2 (by simp)
  exact ⟨d, rfl, shut_disk (f := fun _ => none) IMap.empty (fun _ => ⟨len_zer, zarr_eq⟩) H2⟩

theorem counts (H : At w0 (DiskAt d D :: L) w) : Calls Try.prog 28 #[.pointer (some ⟨d, 0, none⟩)] w (Ret w0 (.agg #[.int .i64 D.reads, .int .i64 D.writes]) (DiskAt d D :: L)) := by
  obtain ⟨mb, es, ck, pv, f, ⟨he, hs⟩, H⟩ := open_disk H
  go_enter Try.func28, Try.ntmps28
  go_wp2_with (first | (refine st_alloc rfl _ rfl (.agg (#[.int .i64 0, .int .i64 0])) ?_ (#[.int .i64 0, .int .i64 0]) rfl H ?_; (kernel_rfl); (clear H; intro g w H K hK; go_simp)) | (refine st_loads rfl _ _ rfl _ _ rfl ?_ 2 ?_ H 1 rfl ?_ ?_; (kernel_rfl); (kernel_rfl); (simp); (intro K hK; go_simp)) | (refine st_put rfl _ _ _ rfl _ rfl _ rfl ?_ ?_ H 0 rfl ?_ ?_; (simp [Value.oneCell']); (kernel_rfl); (simp); (clear H; intro w H K hK; simp only [List.set_cons_zero, List.set_cons_succ, Act.eval, Value.cells, Array.getD_eq_getD_getElem?, List.getElem?_toArray, List.getElem?_cons_succ, List.getElem?_cons_zero, Option.getD_some] at H; go_simp)))
  refine bodyPost_ret (results_cell (n := 2) rfl rfl (by kernel_rfl) (by kernel_rfl) (H.get 0 rfl) rfl) rfl ?_
  exact ⟨rfl, shut_disk he hs H.drop⟩

theorem swrite (H : At w0 L w) : Calls Try.prog 55 #[.agg #[]] w (Ret w0 (.tuple #[.int .i64 512, .bool true]) L) := by
  go_enter Try.func55, Try.ntmps55
  go_wp2_with (first | (refine st_box rfl _ _ rfl _ rfl H ?_; (clear H; intro g w H K hK; simp only [Act.eval, Value.cells, Array.getD_eq_getD_getElem?, List.getElem?_toArray, List.getElem?_cons_succ, List.getElem?_cons_zero, Option.getD_some] at H; go_simp)))
  go_ret2
  exact ⟨rfl, H.drop⟩

theorem fwrite_0 {f : Nat} {t : Int} (H : At w0 (Blk f (.cells #[.int .i64 0, .int .i64 t] 81 (0, 0)) :: L) w) : Calls Try.prog 56 #[.pointer (some ⟨f, 0, none⟩)] w
    (Ret w0 (.tuple #[.int .i64 t, .bool false]) (Blk f (.cells #[.int .i64 0, .int .i64 t] 81 (0, 0)) :: L)) := by
  go_enter Try.func56, Try.ntmps56
  go_wp2_with (first | (refine st_load rfl _ _ rfl _ _ rfl ?_ H 0 rfl rfl ?_; (kernel_rfl); (intro K hK; go_simp)) | (refine st_store rfl _ _ _ rfl _ _ rfl _ rfl rfl ?_ H 0 rfl ?_ ?_; (kernel_rfl); (simp); (clear H; intro w H K hK; simp only [List.set_cons_zero, List.set_cons_succ, List.setIfInBounds_toArray, Act.eval, Value.cells, Array.getD_eq_getD_getElem?, List.getElem?_toArray, List.getElem?_cons_succ, List.getElem?_cons_zero, Option.getD_some] at H; go_simp)))
  go_ret2
  exact ⟨rfl, H⟩

theorem fwrite_1 {f : Nat} {l t : Int} (hl : 0 < l) (hl2 : l ≤ 9223372036854775807) (H : At w0 (Blk f (.cells #[.int .i64 l, .int .i64 t] 81 (0, 0)) :: L) w) : Calls Try.prog 56 #[.pointer (some ⟨f, 0, none⟩)] w
    (Ret w0 (.tuple #[.int .i64 512, .bool true]) (Blk f (.cells #[.int .i64 (l - 1), .int .i64 t] 81 (0, 0)) :: L)) := by
  have h0 : (l == 0) = false := by simp; omega
  go_enter Try.func56, Try.ntmps56
  go_wp2_with (first | (refine st_load rfl _ _ rfl _ _ rfl ?_ H 0 rfl rfl ?_; (kernel_rfl); (intro K hK; go_simp)) | (refine st_store rfl _ _ _ rfl _ _ rfl _ rfl rfl ?_ H 0 rfl ?_ ?_; (kernel_rfl); (simp); (clear H; intro w H K hK; simp only [List.set_cons_zero, List.set_cons_succ, List.setIfInBounds_toArray, Act.eval, Value.cells, Array.getD_eq_getD_getElem?, List.getElem?_toArray, List.getElem?_cons_succ, List.getElem?_cons_zero, Option.getD_some] at H; go_simp)))
  go_ret2
  exact ⟨rfl, H⟩

def armX (x : Int) : Int := if x < 0 then 0 else x
def armY (y : Int) : Int := if 512 < armX y then 512 else armX y

def armed (D : DS) (x y : Int) : DS := if D.pw.isNone then D else { D with pw := some (some (armX x, armY y)) }

theorem ta_nil1 (w : World) : (Instr.typeAssert .nilIface 71 69 true).run Try.prog w = .ok (.tuple #[.agg #[], .bool false]) w := by kernel_rfl
theorem ta_nil2 (w : World) : (Instr.typeAssert .nilIface 71 79 true).run Try.prog w = .ok (.tuple #[.pointer none, .bool false]) w := by kernel_rfl
theorem ta_st1 (w : World) : (Instr.typeAssert (.iface 69 (.agg #[])) 71 69 true).run Try.prog w = .ok (.tuple #[.agg #[], .bool true]) w := by kernel_rfl
theorem ta_fu1 (p : Addr) (w : World) : (Instr.typeAssert (.iface 79 (.pointer (some p))) 71 69 true).run Try.prog w = .ok (.tuple #[.agg #[], .bool false]) w := by kernel_rfl
theorem ta_fu2 (p : Addr) (w : World) : (Instr.typeAssert (.iface 79 (.pointer (some p))) 71 79 true).run Try.prog w = .ok (.tuple #[.pointer (some p), .bool true]) w := by kernel_rfl

theorem arm (H : At w0 (DiskAt d D :: L) w) (x y : Int) : Calls Try.prog 23 #[.pointer (some ⟨d, 0, none⟩), .int .i64 x, .int .i64 y] w (Ret w0 (.tuple #[]) (DiskAt d (armed D x y) :: L)) := by
  obtain ⟨mb, es, ck, pv, f, ⟨he, hs⟩, H⟩ := open_disk H
  have hx : (if x < 0 then (0 : Int) else x) = armX x := rfl
  have hy : (if y < 0 then (0 : Int) else y) = armX y := rfl
  have hz : (if 512 < armX y then (512 : Int) else armX y) = armY y := rfl
  cases hp : D.pw with
  | none =>
    rw [hp] at H
    obtain ⟨rfl, _⟩ := pw_none (H.pick 2 rfl)
    have ha : armed D x y = D := by simp [armed, hp]
    have t1 := ta_nil1
    have t2 := ta_nil2
    go_enter Try.func23, Try.ntmps23
    go_wp2_with (first | (refine st_load rfl _ _ rfl _ _ rfl ?_ H 0 rfl rfl ?_; (kernel_rfl); (intro K hK; go_simp)) | (refine st_store rfl _ _ _ rfl _ _ rfl _ rfl rfl ?_ H 0 rfl ?_ ?_; (kernel_rfl); (simp); (clear H; intro w H K hK; simp only [List.set_cons_zero, List.set_cons_succ, List.setIfInBounds_toArray, Act.eval, Value.cells, Array.getD_eq_getD_getElem?, List.getElem?_toArray, List.getElem?_cons_succ, List.getElem?_cons_zero, Option.getD_some] at H; go_simp)))
    go_end0
    refine ⟨rfl, ?_⟩
    rw [ha]
    exact shut_disk he hs (by rw [hp]; exact H)
  | some q =>
    rw [hp] at H
    have ha : armed D x y = { D with pw := some (some (armX x, armY y)) } := by simp [armed, hp]
    cases q with
    | none =>
      obtain ⟨rfl, H2⟩ := pw_steady (H.pick 2 rfl)
      have H : At w0 (Blk d (.cells #[.int .i64 D.n, .map (some mb), .iface 69 (.agg #[]), .int .i64 D.reads, .int .i64 D.writes] 73 (0, 0)) :: Blk mb (.map es ck) :: L) w := H2
      clear H2
      have t1 := ta_st1
      go_enter Try.func23, Try.ntmps23
      go_wp2_with (first | (refine st_load rfl _ _ rfl _ _ rfl ?_ H 0 rfl rfl ?_; (kernel_rfl); (intro K hK; go_simp)) | (refine st_load rfl _ _ rfl _ _ rfl ?_ H 1 rfl rfl ?_; (kernel_rfl); (intro K hK; go_simp)) | (refine st_load rfl _ _ rfl _ _ rfl ?_ H 2 rfl rfl ?_; (kernel_rfl); (intro K hK; go_simp)) | (refine st_store rfl _ _ _ rfl _ _ rfl _ rfl rfl ?_ H 0 rfl ?_ ?_; (kernel_rfl); (simp); (clear H; intro w H K hK; simp only [List.set_cons_zero, List.set_cons_succ, List.setIfInBounds_toArray, Act.eval, Value.cells, Array.getD_eq_getD_getElem?, List.getElem?_toArray, List.getElem?_cons_succ, List.getElem?_cons_zero, Option.getD_some] at H; go_simp)) | (refine st_store rfl _ _ _ rfl _ _ rfl _ rfl rfl ?_ H 1 rfl ?_ ?_; (kernel_rfl); (simp); (clear H; intro w H K hK; simp only [List.set_cons_zero, List.set_cons_succ, List.setIfInBounds_toArray, Act.eval, Value.cells, Array.getD_eq_getD_getElem?, List.getElem?_toArray, List.getElem?_cons_succ, List.getElem?_cons_zero, Option.getD_some] at H; go_simp)) | (refine st_store rfl _ _ _ rfl _ _ rfl _ rfl rfl ?_ H 2 rfl ?_ ?_; (kernel_rfl); (simp); (clear H; intro w H K hK; simp only [List.set_cons_zero, List.set_cons_succ, List.setIfInBounds_toArray, Act.eval, Value.cells, Array.getD_eq_getD_getElem?, List.getElem?_toArray, List.getElem?_cons_succ, List.getElem?_cons_zero, Option.getD_some] at H; go_simp)) | (refine st_alloc rfl _ rfl (.agg (#[])) ?_ (#[]) rfl H ?_; (kernel_rfl); (clear H; intro g w H K hK; go_simp)) | (refine st_put rfl _ _ _ rfl _ rfl _ rfl ?_ ?_ H 0 rfl ?_ ?_; (simp [Value.oneCell']); (kernel_rfl); (simp); (clear H; intro w H K hK; simp only [List.set_cons_zero, List.set_cons_succ, Act.eval, Value.cells, Array.getD_eq_getD_getElem?, List.getElem?_toArray, List.getElem?_cons_succ, List.getElem?_cons_zero, Option.getD_some] at H; go_simp)) | (refine st_box rfl _ _ rfl _ rfl H ?_; (clear H; intro fu w H K hK; simp only [Act.eval, Value.cells, Array.getD_eq_getD_getElem?, List.getElem?_toArray, List.getElem?_cons_succ, List.getElem?_cons_zero, Option.getD_some] at H; go_simp)))
      go_end0
      refine ⟨rfl, ?_⟩
      rw [ha]
      have H3 : At w0 (Blk d _ :: Blk mb _ :: PwAt (some (some (armX x, armY y))) _ :: L) w := ((to_fuse H).pick 1 rfl).drop.back 2 (by simp)
      exact shut_disk (D := { D with pw := some (some (armX x, armY y)) }) he hs H3
    | some lt =>
      obtain ⟨l, t⟩ := lt
      obtain ⟨fu, rfl, H2⟩ := pw_fuse (H.pick 2 rfl)
      have H : At w0 (Blk fu (.cells #[.int .i64 l, .int .i64 t] 81 (0, 0)) :: Blk d (.cells #[.int .i64 D.n, .map (some mb), .iface 79 (.pointer (some ⟨fu, 0, none⟩)), .int .i64 D.reads, .int .i64 D.writes] 73 (0, 0)) :: Blk mb (.map es ck) :: L) w := H2
      clear H2
      have t1 := ta_fu1
      have t2 := ta_fu2
      go_enter Try.func23, Try.ntmps23
      go_wp2_with (first | (refine st_load rfl _ _ rfl _ _ rfl ?_ H 0 rfl rfl ?_; (kernel_rfl); (intro K hK; go_simp)) | (refine st_load rfl _ _ rfl _ _ rfl ?_ H 1 rfl rfl ?_; (kernel_rfl); (intro K hK; go_simp)) | (refine st_store rfl _ _ _ rfl _ _ rfl _ rfl rfl ?_ H 0 rfl ?_ ?_; (kernel_rfl); (simp); (clear H; intro w H K hK; simp only [List.set_cons_zero, List.set_cons_succ, List.setIfInBounds_toArray, Act.eval, Value.cells, Array.getD_eq_getD_getElem?, List.getElem?_toArray, List.getElem?_cons_succ, List.getElem?_cons_zero, Option.getD_some] at H; go_simp)) | (refine st_store rfl _ _ _ rfl _ _ rfl _ rfl rfl ?_ H 1 rfl ?_ ?_; (kernel_rfl); (simp); (clear H; intro w H K hK; simp only [List.set_cons_zero, List.set_cons_succ, List.setIfInBounds_toArray, Act.eval, Value.cells, Array.getD_eq_getD_getElem?, List.getElem?_toArray, List.getElem?_cons_succ, List.getElem?_cons_zero, Option.getD_some] at H; go_simp)))
      go_end0
      refine ⟨rfl, ?_⟩
      rw [ha]
      have H3 : At w0 (Blk d _ :: Blk mb _ :: PwAt (some (some (armX x, armY y))) _ :: L) w := (to_fuse H).back 2 (by simp)
      exact shut_disk (D := { D with pw := some (some (armX x, armY y)) }) he hs H3

theorem read_no (H : At w0 (DiskAt d D :: L) w) (n : Int) (hm : mayE D n ≠ 0) : Calls Try.prog 18 #[.pointer (some ⟨d, 0, none⟩), .int .i64 n] w
    (Ret w0 (.tuple #[.slice none 0 0, .int .i64 (mayE D n)]) (DiskAt d D :: L)) := by
  have hb : (mayE D n == 0) = false := by simpa using hm
  go_enter Try.func18, Try.ntmps18
  go_wp2_with fail
  refine (may H n).mono ?_
  rintro e w ⟨rfl, H⟩
  generalize mayE D n = m at *
  go_wp2_with fail
  go_ret2
  exact ⟨rfl, H⟩

theorem read_yes (H : At w0 (DiskAt d D :: L) w) (n : Int) (hm : mayE D n = 0) : Calls Try.prog 18 #[.pointer (some ⟨d, 0, none⟩), .int .i64 n] w
    (RetEx w0 (fun g => .tuple #[.slice (some ⟨g, 0, none⟩) 512 512, .int .i64 0]) (fun g => Blk g (.cells (bv (D.sec n)).toArray 77 (0, 0)) :: DiskAt d { D with reads := wrap64 (D.reads + 1) } :: L)) := by
  have Hm := Lib.hid hm
  clear hm
  go_enter Try.func18, Try.ntmps18
  go_wp2_with fail
  refine (may H n).mono ?_
  rintro e w ⟨rfl, H⟩
  rw [Hm.out]
  obtain ⟨mb, es, ck, pv, f, ⟨he, hs⟩, H⟩ := open_disk H
  have hv := (hs n).2
  have hl := (hs n).1
  go_wp2_with (first | (refine st_load rfl _ _ rfl _ _ rfl ?_ H 0 rfl rfl ?_; (kernel_rfl); (intro K hK; go_simp)) | (refine st_load rfl _ _ rfl _ _ rfl ?_ H 1 rfl rfl ?_; (kernel_rfl); (intro K hK; go_simp)) | (refine st_store rfl _ _ _ rfl _ _ rfl _ rfl rfl ?_ H 0 rfl ?_ ?_; (kernel_rfl); (simp); (clear H; intro w H K hK; simp only [List.set_cons_zero, List.set_cons_succ, List.setIfInBounds_toArray, Act.eval, Value.cells, Array.getD_eq_getD_getElem?, List.getElem?_toArray, List.getElem?_cons_succ, List.getElem?_cons_zero, Option.getD_some] at H; go_simp)) | (refine st_store rfl _ _ _ rfl _ _ rfl _ rfl rfl ?_ H 1 rfl ?_ ?_; (kernel_rfl); (simp); (clear H; intro w H K hK; simp only [List.set_cons_zero, List.set_cons_succ, List.setIfInBounds_toArray, Act.eval, Value.cells, Array.getD_eq_getD_getElem?, List.getElem?_toArray, List.getElem?_cons_succ, List.getElem?_cons_zero, Option.getD_some] at H; go_simp)) | (refine st_lookup rfl _ _ _ _ rfl _ rfl _ rfl _ _ Try.underlying67 Try.underlying3 zarr zero_arr H 1 rfl f he ?_; (intro K hK; go_simp)) | (refine st_alloc rfl _ rfl zarr zero_arr _ zarr_cells H ?_; (clear H; intro g w H K hK; go_simp)) | (refine st_put rfl _ _ _ rfl _ rfl (bv (D.sec n)).toArray rfl (bv_oneA _) ?_ H 0 rfl ?_ ?_; (rw [size_bvA, hl]; exact size_arr); (rw [size_bvA, size_bvA, hl, len_zer]); (clear H; intro w H K hK; simp only [List.set_cons_zero] at H; go_simp)))
  go_ret2
  have H2 : At w0 (Blk d _ :: Blk mb _ :: PwAt D.pw _ :: Blk g _ :: L) w := H.back 3 (by simp)
  have H3 := shut_disk (D := { D with reads := wrap64 (D.reads + 1) }) he hs H2
  exact ⟨g, rfl, H3.pick 1 rfl⟩
end
end Dk
end Go.Proofs.Ytbbkfneafonmiaa
