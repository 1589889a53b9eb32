/-
  The disk of the program: Image, Load.
-/
import Derived.Test.YtbbkfneafonmiaaDisk2
import Derived.Test.YtbbkfneafonmiaaArr
namespace Go.Proofs.Ytbbkfneafonmiaa
open Go.Hp Go.RowKit
set_option linter.unusedVariables false
set_option linter.unusedSimpArgs false
namespace Dk

/-- The bytes of the first k sectors. -/
def img (s : Int → List UInt8) : Nat → List UInt8
  | 0 => []
  | k + 1 => img s k ++ s k

theorem len_img {s : Int → List UInt8} (h : ∀ n, (s n).length = 512) : ∀ k, (img s k).length = k * 512
  | 0 => rfl
  | k + 1 => by rw [img, List.length_append, len_img h k, h]; omega

section
variable {w0 w : World} {L : List HProp} {d : Nat} {D : DS}

set_option maxHeartbeats 1000000 in
theorem image (hn1 : 1 ≤ D.n) (hn2 : D.n ≤ 65536) (hsec : ∀ n, (D.sec n).length = 512) (H : At w0 (DiskAt d D :: L) w) : Calls Try.prog 26 #[.pointer (some ⟨d, 0, none⟩)] w
    (RetEx w0 (fun v => v) (fun v => OwnRow 5 1 v (D.n.toNat * 512) (bv (img D.sec D.n.toNat)) :: DiskAt d D :: L)) := by
  obtain ⟨N, hN⟩ := Int.eq_ofNat_of_zero_le (show 0 ≤ D.n by omega)
  have hN1 : (1 : Int) ≤ (N : Int) := by omega
  have hN2 : (N : Int) ≤ 65536 := by omega
  clear hn1 hn2
  have hNt : D.n.toNat = N := by omega
  rw [hNt]
  clear hNt
  have hcap : ((N : Int) * 512).toNat = N * 512 := by omega
  obtain ⟨mb, es, ck, pv, f, ⟨he, hs⟩, H⟩ := open_disk H
  go_enter Try.func26, Try.ntmps26
  go_wp2_with (first | (refine st_load rfl _ _ rfl _ _ rfl ?_ H 0 rfl rfl ?_; (kernel_rfl); (intro K hK; go_simp)) | (refine st_load rfl _ _ rfl _ _ rfl ?_ H 1 rfl rfl ?_; (kernel_rfl); (intro K hK; go_simp)) | (refine st_store rfl _ _ _ rfl _ _ rfl _ rfl rfl ?_ H 0 rfl ?_ ?_; (kernel_rfl); (simp); (clear H; intro w H K hK; simp only [List.set_cons_zero, List.set_cons_succ, List.setIfInBounds_toArray, Act.eval, Value.cells, Array.getD_eq_getD_getElem?, List.getElem?_toArray, List.getElem?_cons_succ, List.getElem?_cons_zero, Option.getD_some] at H; go_simp)) | (refine st_store rfl _ _ _ rfl _ _ rfl _ rfl rfl ?_ H 1 rfl ?_ ?_; (kernel_rfl); (simp); (clear H; intro w H K hK; simp only [List.set_cons_zero, List.set_cons_succ, List.setIfInBounds_toArray, Act.eval, Value.cells, Array.getD_eq_getD_getElem?, List.getElem?_toArray, List.getElem?_cons_succ, List.getElem?_cons_zero, Option.getD_some] at H; go_simp)) | (refine st_make rfl _ _ _ rfl _ _ _ _ rfl rfl 5 Try.underlying33 1 ?_ 1 ?_ (.int .u8 0) ?_ ?_ ?_ ?_ ?_ H ?_; (kernel_rfl); (kernel_rfl); (kernel_rfl); (omega); (omega); (omega); (omega); (clear H; intro g w H K hK; go_simp)))
  have H1 : At w0 (OwnRow 5 1 (.slice (some ⟨g, 0, none⟩) 0 (N * 512)) 0 [] :: Blk d (.cells #[.int .i64 D.n, .map (some mb), pv, .int .i64 D.reads, .int .i64 D.writes] 73 (0, 0)) :: Blk mb (.map es ck) :: PwAt D.pw pv :: L) w := by
    refine own_mk H (Nat.zero_le _) (by simp [maxLen]; omega) ?_ rfl rfl
    rw [size_madeCells]
    omega
  have H2 : At w0 (DiskAt d D :: OwnRow 5 1 (.slice (some ⟨g, 0, none⟩) 0 (N * 512)) 0 [] :: L) w := shut_disk he hs (H1.back 3 (by simp))
  clear H H1
  go_loopw [3, 16] (fun v i wr => ∃ k : Nat, k ≤ N ∧ i = .int .i64 k ∧ At w0 (DiskAt d D :: OwnRow 5 1 v (k * 512) (bv (img D.sec k)) :: L) wr) (fun _ i _ => N - (intOf i).toNat)
  case atStart => exact ⟨0, Nat.zero_le _, rfl, by simpa [img, bv] using H2⟩
  case round =>
    clear he hs mb es ck pv f H2 hcap hsec
    obtain ⟨k, hk, rfl, H⟩ := hrel
    by_cases hlt : k < N
    · obtain ⟨mb, es, ck, pv, f, ⟨he, hs⟩, H⟩ := open_disk H
      have hv := (hs k).2
      have hl := (hs k).1
      go_wp2_with (first | (refine st_load rfl _ _ rfl _ _ rfl ?_ H 0 rfl rfl ?_; (kernel_rfl); (intro K hK; go_simp)) | (refine st_load rfl _ _ rfl _ _ rfl ?_ H 1 rfl rfl ?_; (kernel_rfl); (intro K hK; go_simp)) | (refine st_store rfl _ _ _ rfl _ _ rfl _ rfl rfl ?_ H 0 rfl ?_ ?_; (kernel_rfl); (simp); (clear H; intro w H K hK; simp only [List.set_cons_zero, List.set_cons_succ, List.setIfInBounds_toArray, Act.eval, Value.cells, Array.getD_eq_getD_getElem?, List.getElem?_toArray, List.getElem?_cons_succ, List.getElem?_cons_zero, Option.getD_some] at H; go_simp)) | (refine st_store rfl _ _ _ rfl _ _ rfl _ rfl rfl ?_ H 1 rfl ?_ ?_; (kernel_rfl); (simp); (clear H; intro w H K hK; simp only [List.set_cons_zero, List.set_cons_succ, List.setIfInBounds_toArray, Act.eval, Value.cells, Array.getD_eq_getD_getElem?, List.getElem?_toArray, List.getElem?_cons_succ, List.getElem?_cons_zero, Option.getD_some] at H; go_simp)) | (refine st_lookup rfl _ _ _ _ rfl _ rfl _ rfl _ _ Try.underlying67 Try.underlying3 zarr zero_arr H 1 rfl f he ?_; (intro K hK; go_simp))          | (refine st_alloc rfl _ rfl zarr zero_arr _ zarr_cells H ?_; (clear H; intro gs w H K hK; go_simp)) | (refine st_put rfl _ _ _ rfl _ rfl (bv (D.sec k)).toArray rfl (bv_oneA _) ?_ H 0 rfl ?_ ?_; (rw [size_bvA, hl]; exact size_arr); (rw [size_bvA, size_bvA, hl, len_zer]); (clear H; intro w H K hK; simp only [List.set_cons_zero] at H; go_simp))          | (refine st_append rfl _ _ _ rfl 5 Try.underlying33 1 ?_ 1 ?_ (.int .u8 0) ?_ rfl u3 (k * 512) (bv (img D.sec k)) rfl (H.pick 4 rfl) (some ⟨gs, 0, none⟩) 512 512 (bv (D.sec k)) rfl ?_ ?_ (bv_one _) ?_ ?_ ?_; (kernel_rfl); (kernel_rfl); (kernel_rfl); (rw [length_bv, hl]); (intro _; refine ⟨_, rfl, fun j u hj => ?_⟩; rw [Addr.add_lit, Nat.zero_add, cell_of_row _ _ _ _ _ _ (H.get 0 rfl)]; simpa using hj); (simp only [maxLen]; omega); (omega); (clear H; intro v' w H K hK; go_simp)))
      go_roundw
      case rel =>
        have e : (k + 1) * 512 = k * 512 + 512 := by omega
        refine ⟨k + 1, by omega, by go_num, ?_⟩
        rw [e, img, bv_append]
        have H2 : At w0 (Blk d (.cells #[.int .i64 D.n, .map (some mb), pv, .int .i64 D.reads, .int .i64 D.writes] 73 (0, 0)) :: Blk mb (.map es ck) :: PwAt D.pw pv :: OwnRow 5 1 _ (k * 512 + 512) (bv (img D.sec k) ++ bv (D.sec k)) :: L) w := (H.pick 1 rfl).drop.back 3 (by simp)
        exact shut_disk he hs H2
      case measure => simp [intOf]; omega
    · have hk2 : k = N := by omega
      subst hk2
      go_wp2_with fail
      go_ret
      exact ⟨_, rfl, H.pick 1 rfl⟩

/-- The sectors of an image, of which so many are in. -/
def cut (l : List UInt8) (k : Nat) : Int → List UInt8 := fun n => if 0 ≤ n ∧ n < k then (l.drop (n.toNat * 512)).take 512 else zer

theorem len_chunk {l : List UInt8} {k : Nat} (h : (k + 1) * 512 ≤ l.length) : ((l.drop (k * 512)).take 512).length = 512 := by
  simp only [List.length_take, List.length_drop]; omega

theorem cut_len {l : List UInt8} {N : Nat} (h : N * 512 ≤ l.length) (n : Int) : (cut l N n).length = 512 := by
  unfold cut
  by_cases hc : 0 ≤ n ∧ n < N
  · rw [if_pos hc]
    exact len_chunk (Nat.le_trans (Nat.mul_le_mul_right 512 (show n.toNat + 1 ≤ N by omega)) h)
  · rw [if_neg hc]
    exact len_zer

theorem cut_succ (l : List UInt8) (k : Nat) : cut l (k + 1) = upd (cut l k) k ((l.drop (k * 512)).take 512) := by
  funext n
  show (if 0 ≤ n ∧ n < ((k + 1 : Nat) : Int) then (l.drop (n.toNat * 512)).take 512 else zer) = if n = (k : Int) then (l.drop (k * 512)).take 512 else if 0 ≤ n ∧ n < (k : Int) then (l.drop (n.toNat * 512)).take 512 else zer
  by_cases h : n = (k : Int)
  · subst h
    rw [if_pos (by omega), if_pos rfl, Int.toNat_natCast]
  · rw [if_neg h]
    by_cases h2 : 0 ≤ n ∧ n < k
    · rw [if_pos h2, if_pos ⟨h2.1, by omega⟩]
    · rw [if_neg h2, if_neg (by omega)]

theorem add_add (a : Addr) (i j : Nat) : (a.add i).add j = a.add (i + j) := by
  unfold Addr.add
  by_cases hi : i = 0 <;> by_cases hj : j = 0 <;> simp [hi, hj, Nat.add_assoc]

theorem run_arrayAt {P : Program} {T E : TypeId} {n : Nat} (hT : P.underlying T = some (.array n E)) (p : Option Addr) (l c : Nat) (w : World) (h : ¬ l < n) : (Instr.arrayAt T (.slice p l c)).run P w = .ok (.pointer p) w := by
  simp [Instr.arrayAt, run_underlying hT, h]

theorem zv_arr (w : World) : (zeroValue 77).run Try.prog w = .ok (.agg (bv zer).toArray) w := by rw [← zarr_eq]; exact run_zeroValue zero_arr

theorem chunk_get {l : List UInt8} {k j : Nat} {v : Value} (h : (bv ((l.drop (k * 512)).take 512))[j]? = some v) : (bv l)[k * 512 + j]? = some v := by
  have := bv_take h
  unfold bv at this ⊢
  rwa [List.map_drop, List.getElem?_drop] at this

section
variable {w0 w : World} {L : List HProp}

theorem load_no {B : HProp} {v : Value} {b : List UInt8} (hB : Reads B v b) (hn : b.length % 512 ≠ 0 ∨ b.length = 0 ∨ 65536 * 512 < b.length) (H : At w0 (B :: L) w) :
    Calls Try.prog 30 #[v] w (Ret w0 (.tuple #[.pointer none, .int .i64 30]) (B :: L)) := by
  obtain ⟨ad, cap, rfl, h1, h2, h3⟩ := (hB.at_ H 0 rfl).len
  have hm : b.length ≤ 9223372036854775807 := by simp only [maxLen] at h2; omega
  by_cases hmod : b.length % 512 = 0
  · have hb : ((b.length : Int) % 512 == 0) = true := by simp; omega
    have hq : (b.length : Int) / 512 < 1 ∨ 65536 < (b.length : Int) / 512 := by omega
    clear h2 h3
    go_enter Try.func30, Try.ntmps30
    go_wp2_with fail
    refine (new_no H _ hq).mono ?_
    rintro e w ⟨rfl, H⟩
    go_wp2_with fail
    go_ret2
    exact ⟨rfl, H⟩
  · have hb : ((b.length : Int) % 512 == 0) = false := by simp; omega
    clear h2 h3
    go_enter Try.func30, Try.ntmps30
    go_wp2_with fail
    go_ret2
    exact ⟨rfl, H⟩

set_option maxHeartbeats 1000000 in
theorem load_yes {B : HProp} {v : Value} {b : List UInt8} (hB : Reads B v b) (N : Nat) (hn : b.length = N * 512) (h1 : 1 ≤ N) (h2 : N ≤ 65536) (H : At w0 (B :: L) w) :
    Calls Try.prog 30 #[v] w (RetEx w0 (fun d => .tuple #[.pointer (some ⟨d, 0, none⟩), .int .i64 0]) (fun d => DiskAt d ⟨N, cut b N, some none, 0, 0⟩ :: B :: L)) := by
  obtain ⟨ad, cap, rfl, hc1, hc2, h3⟩ := (hB.at_ H 0 rfl).len
  have hm : b.length ≤ 9223372036854775807 := by omega
  have hb : ((b.length : Int) % 512 == 0) = true := by simp; omega
  have hq : (b.length : Int) / 512 = (N : Int) := by omega
  have hq1 : (1 : Int) ≤ N := by omega
  have hq2 : (N : Int) ≤ 65536 := by omega
  obtain ⟨bb, rfl, _⟩ := h3 (by omega)
  have Hn := Lib.hid hn
  clear hn h3
  go_enter Try.func30, Try.ntmps30
  go_wp2_with fail
  refine (new_yes H _ hq1 hq2).mono ?_
  rintro e w ⟨d, rfl, H⟩
  obtain ⟨mb, es, ck, pv, f, ⟨he, hs⟩, H⟩ := open_disk H
  go_wp2_with (first | (refine st_load rfl _ _ rfl _ _ rfl ?_ H 0 rfl rfl ?_; (kernel_rfl); (intro K hK; go_simp)) | (refine st_store rfl _ _ _ rfl _ _ rfl _ rfl rfl ?_ H 0 rfl ?_ ?_; (kernel_rfl); (simp); (clear H; intro w H K hK; simp only [List.set_cons_zero, List.set_cons_succ, List.setIfInBounds_toArray, Act.eval, Value.cells, Array.getD_eq_getD_getElem?, List.getElem?_toArray, List.getElem?_cons_succ, List.getElem?_cons_zero, Option.getD_some] at H; go_simp)))
  have H2 : At w0 (DiskAt d ⟨N, fun _ => zer, some none, 0, 0⟩ :: B :: L) w := shut_disk he hs H
  clear H he hs hb hq
  go_loopw [26] (fun i wr => ∃ k : Nat, k ≤ N ∧ i = .int .i64 k ∧ At w0 (DiskAt d ⟨N, cut b k, some none, 0, 0⟩ :: B :: L) wr) (fun i _ => N - (intOf i).toNat)
  case atStart =>
    have e : (fun _ => zer) = cut b 0 := by
      funext n
      unfold cut
      rw [if_neg (by omega)]
    rw [e] at H2
    exact ⟨0, Nat.zero_le _, rfl, H2⟩
  case round =>
    clear mb es ck pv f H2
    obtain ⟨k, hk, rfl, H⟩ := hrel
    by_cases hlt : k < N
    · obtain ⟨mb, es, ck, pv, f, ⟨he, hs⟩, H⟩ := open_disk H
      have hbl := Hn.out
      have hlt2 : (k : Int) < N := by omega
      have g1 : (k : Int) * 512 ≤ b.length := by omega
      have g2 : (k : Int) * 512 ≤ cap := by omega
      have g3 : ¬ (cap = k * 512) := by omega
      have g4 : ¬ (b.length - k * 512 < 512) := by omega
      have g5 : ((k : Int) * 512).toNat = k * 512 := by omega
      have hcl : ((b.drop (k * 512)).take 512).length = 512 := len_chunk (by omega)
      have hat := run_arrayAt (P := Try.prog) (T := 77) (n := 512) (E := 5) Try.underlying77
      have hsrc : ∀ j u, (bv ((b.drop (k * 512)).take 512))[j]? = some u → wr.cell? ((bb.add (k * 512)).add j) = some u := by
        intro j u hj
        rw [add_add]
        exact (hB.at_ H 3 rfl).cells _ _ (chunk_get hj)
      clear hbl
      have hsucc := cut_succ b k
      generalize (b.drop (k * 512)).take 512 = ch at hcl hsrc hsucc
      have Hsrc := Lib.hid hsrc
      have Hsucc := Lib.hid hsucc
      clear hsrc hsucc
      have hbz := zv_arr
      have heg : Try.prog.eqGuardType Try.prog.depth 77 = false := by kernel_rfl
      have hne := fun w => run_neq_bytes (P := Try.prog) (w := w) (n := 512) Try.underlying77 Try.underlying5 (by kernel_rfl) ch zer hcl len_zer
      by_cases hz : ch = zer
      · have hd : decide (ch = zer) = true := decide_eq_true hz
        have Hz := Lib.hid hz
        clear hz
        go_wp2_with (first | (refine st_load rfl _ _ rfl _ _ rfl ?_ H 0 rfl rfl ?_; (kernel_rfl); (intro K hK; go_simp)) | (refine st_load rfl _ _ rfl _ _ rfl ?_ H 1 rfl rfl ?_; (kernel_rfl); (intro K hK; go_simp)) | (refine st_store rfl _ _ _ rfl _ _ rfl _ rfl rfl ?_ H 0 rfl ?_ ?_; (kernel_rfl); (simp); (clear H; intro w H K hK; simp only [List.set_cons_zero, List.set_cons_succ, List.setIfInBounds_toArray, Act.eval, Value.cells, Array.getD_eq_getD_getElem?, List.getElem?_toArray, List.getElem?_cons_succ, List.getElem?_cons_zero, Option.getD_some] at H; go_simp)) | (refine st_store rfl _ _ _ rfl _ _ rfl _ rfl rfl ?_ H 1 rfl ?_ ?_; (kernel_rfl); (simp); (clear H; intro w H K hK; simp only [List.set_cons_zero, List.set_cons_succ, List.setIfInBounds_toArray, Act.eval, Value.cells, Array.getD_eq_getD_getElem?, List.getElem?_toArray, List.getElem?_cons_succ, List.getElem?_cons_zero, Option.getD_some] at H; go_simp)) | (refine st_loadCells rfl _ _ rfl _ rfl ?_ (bv ch) ?_ Hsrc.out ?_; (kernel_rfl); (rw [length_bv, hcl]; exact size_arr); (intro K hK; go_simp))            | (refine st_alloc rfl _ rfl zarr zero_arr _ zarr_cells H ?_; (clear H; intro gs w H K hK; go_simp)) | (refine st_put rfl _ _ _ rfl _ rfl (bv ch).toArray rfl (bv_oneA _) ?_ H 0 rfl ?_ ?_; (rw [size_bvA, hcl]; exact size_arr); (rw [size_bvA, size_bvA, hcl, len_zer]); (clear H; intro w H K hK; simp only [List.set_cons_zero] at H; go_simp))            | (refine st_row rfl _ _ rfl _ rfl ?_ 512 ?_ H 0 rfl ?_ ?_; (kernel_rfl); (kernel_rfl); (rw [size_bvA]; exact hcl); (intro K hK; go_simp)))
        go_roundw
        case rel =>
          refine ⟨k + 1, by omega, by go_num, ?_⟩
          have hs' : Secs f (cut b (k + 1)) := by
            rw [Hsucc.out]
            intro m
            by_cases hmk : m = (k : Int)
            · subst hmk
              have h0 := (hs k).2
              have hz0 : cut b k k = zer := by unfold cut; rw [if_neg (by omega)]
              simp only [upd, if_true]
              rw [Hz.out]
              refine ⟨len_zer, ?_⟩
              rw [← hz0]; exact h0
            · simp only [upd, if_neg hmk]; exact hs m
          exact shut_disk (D := ⟨N, cut b (k + 1), some none, 0, 0⟩) he hs' H.drop
        case measure => simp [intOf]; omega
      · have hd : decide (ch = zer) = false := decide_eq_false hz
        go_wp2_with (first | (refine st_load rfl _ _ rfl _ _ rfl ?_ H 0 rfl rfl ?_; (kernel_rfl); (intro K hK; go_simp)) | (refine st_load rfl _ _ rfl _ _ rfl ?_ H 1 rfl rfl ?_; (kernel_rfl); (intro K hK; go_simp)) | (refine st_store rfl _ _ _ rfl _ _ rfl _ rfl rfl ?_ H 0 rfl ?_ ?_; (kernel_rfl); (simp); (clear H; intro w H K hK; simp only [List.set_cons_zero, List.set_cons_succ, List.setIfInBounds_toArray, Act.eval, Value.cells, Array.getD_eq_getD_getElem?, List.getElem?_toArray, List.getElem?_cons_succ, List.getElem?_cons_zero, Option.getD_some] at H; go_simp)) | (refine st_store rfl _ _ _ rfl _ _ rfl _ rfl rfl ?_ H 1 rfl ?_ ?_; (kernel_rfl); (simp); (clear H; intro w H K hK; simp only [List.set_cons_zero, List.set_cons_succ, List.setIfInBounds_toArray, Act.eval, Value.cells, Array.getD_eq_getD_getElem?, List.getElem?_toArray, List.getElem?_cons_succ, List.getElem?_cons_zero, Option.getD_some] at H; go_simp)) | (refine st_loadCells rfl _ _ rfl _ rfl ?_ (bv ch) ?_ Hsrc.out ?_; (kernel_rfl); (rw [length_bv, hcl]; exact size_arr); (intro K hK; go_simp))            | (refine st_alloc rfl _ rfl zarr zero_arr _ zarr_cells H ?_; (clear H; intro gs w H K hK; go_simp)) | (refine st_put rfl _ _ _ rfl _ rfl (bv ch).toArray rfl (bv_oneA _) ?_ H 0 rfl ?_ ?_; (rw [size_bvA, hcl]; exact size_arr); (rw [size_bvA, size_bvA, hcl, len_zer]); (clear H; intro w H K hK; simp only [List.set_cons_zero] at H; go_simp))            | (refine st_row rfl _ _ rfl _ rfl ?_ 512 ?_ H 0 rfl ?_ ?_; (kernel_rfl); (kernel_rfl); (rw [size_bvA]; exact hcl); (intro K hK; go_simp)))
        refine wp_region_tail_at 6 (by kernel_rfl) (by kernel_rfl) H ?_
        clear H
        intro w H
        simp only [List.take_succ_cons, List.take_zero, List.drop_succ_cons, List.drop_zero]
        repeat (first | (refine sl_load rfl _ _ rfl _ _ rfl ?_ H 1 rfl rfl ?_; (kernel_rfl); (intro K hK; go_simp; refine hK _ ?_; clear hK K)) | (refine sl_row rfl _ _ rfl _ rfl ?_ 512 ?_ H 0 rfl ?_ ?_; (kernel_rfl); (kernel_rfl); (rw [size_bvA]; exact hcl); (intro K hK; go_simp; refine hK _ ?_; clear hK K)) | still_step)
        refine wpStill_nil ?_
        refine st_mapUpdate rfl _ _ _ _ rfl mb rfl (k : Int) rfl _ rfl _ _ Try.underlying67 Try.underlying3 H 2 rfl f he ?_
        clear H
        intro es' ck' w H he' K hK
        simp only [List.set_cons_zero, List.set_cons_succ, Act.eval, Value.cells, Array.getD_eq_getD_getElem?, List.getElem?_toArray, List.getElem?_cons_succ, List.getElem?_cons_zero, Option.getD_some] at H he'
        go_simp
        go_wp2_with fail
        go_roundw
        case rel =>
          refine ⟨k + 1, by omega, by go_num, ?_⟩
          have hs' : Secs (fun m => if m = (k : Int) then some (.agg (bv ch).toArray) else f m) (cut b (k + 1)) := by
            rw [Hsucc.out]
            intro m
            by_cases hmk : m = (k : Int)
            · subst hmk; simp [upd, hcl]
            · simp only [upd, if_neg hmk]; exact hs m
          exact shut_disk (D := ⟨N, cut b (k + 1), some none, 0, 0⟩) he' hs' H.drop
        case measure => simp [intOf]; omega
    · have hk2 : k = N := by omega
      subst hk2
      go_wp2_with fail
      go_ret2
      exact ⟨d, rfl, H⟩
end
end
end Dk
end Go.Proofs.Ytbbkfneafonmiaa
