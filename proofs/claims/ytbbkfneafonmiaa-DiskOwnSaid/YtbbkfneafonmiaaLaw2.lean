/-
  The two disks, side by side.
-/
import Derived.Test.YtbbkfneafonmiaaLaw
import Derived.Test.YtbbkfneafonmiaaDisk3
import Derived.Test.YtbbkfneafonmiaaRef5
import Derived.Test.YtbbkfneafonmiaaReg2
namespace Go.Proofs.Ytbbkfneafonmiaa
open Go.Hp Go.RowKit
set_option linter.unusedVariables false
set_option linter.unusedSimpArgs false
namespace Lw
open Dk Rf

/-- The program's disk that tells what the reference's tells. -/
def conv (R : RS) : DS := ⟨R.n, R.sec, if R.fallen then none else if R.armed then some (some (R.left, R.torn)) else some none, R.reads, R.writes⟩

theorem conv_isNone (R : RS) : (conv R).pw.isNone = R.fallen := by
  unfold conv
  cases R.fallen <;> cases R.armed <;> rfl

theorem wrap64_in {x : Int} (h1 : -9223372036854775808 ≤ x) (h2 : x ≤ 9223372036854775807) : wrap64 x = x := by unfold wrap64; omega

structure Both (R : RS) : Prop where
  ok : RefOk R
  n1 : 1 ≤ R.n
  l0 : 0 ≤ R.left
  l1 : R.left ≤ 9223372036854775807

section
variable {w0 w : World} {L : List HProp} {d r : Nat} {R : RS}

theorem mayE_conv (n : Int) : mayE (conv R) n = refE R n := by
  unfold mayE refE
  rw [conv_isNone]
  rfl

theorem pwok_conv (h : Both R) : PwOk (conv R).pw := by
  intro l t hp
  unfold conv at hp
  dsimp only at hp
  split at hp
  · cases hp
  · split at hp
    · cases hp; exact ⟨h.l0, h.l1, h.ok.t0, h.ok.t1⟩
    · cases hp

theorem written_conv (h : Both R) (n : Int) (b : List UInt8) : Dk.written (conv R) n b = (conv (rwritten R n b).1, (rwritten R n b).2) := by
  unfold Dk.written rwritten
  rw [mayE_conv]
  by_cases hm : refE R n = 0
  · simp only [hm, ne_eq, not_true_eq_false, if_false]
    by_cases hl : b.length = 512
    · simp only [hl, not_true_eq_false, if_false]
      have hf := (refE_zero hm).1
      have hlen := h.ok.len n
      have h0 := h.l0
      have h1 := h.l1
      cases ha : R.armed with
      | false =>
        have e : b.take 512 ++ (R.sec n).drop 512 = b := by
          rw [List.take_of_length_le (by omega), List.drop_eq_nil_of_le (by omega), List.append_nil]
        simp [conv, hf, ha, pwHolds, pwBytes, pwNext, e]
      | true =>
        by_cases hl0 : R.left = 0
        · simp [conv, hf, ha, pwHolds, pwBytes, pwNext, hl0]
        · have e : b.take 512 ++ (R.sec n).drop 512 = b := by
            rw [List.take_of_length_le (by omega), List.drop_eq_nil_of_le (by omega), List.append_nil]
          have hw : wrap64 (R.left - 1) = R.left - 1 := wrap64_in (by omega) (by omega)
          simp [conv, hf, ha, pwHolds, pwBytes, pwNext, hl0, e, hw]
    · simp [hl]
  · simp [hm]

theorem both_written (h : Both R) (n : Int) (b : List UInt8) : Both (rwritten R n b).1 := by
  unfold rwritten
  have h0 := h.l0
  have h1 := h.l1
  split
  · exact h
  · split
    · exact h
    · rename_i hl
      have hl : b.length = 512 := by omega
      split
      · refine ⟨⟨h.ok.n, h.ok.t0, h.ok.t1, fun m => ?_⟩, h.n1, h0, h1⟩
        show (upd _ _ _ m).length = 512
        unfold upd
        split
        · exact len_torn hl (h.ok.len n) (by have := h.ok.t1; omega)
        · exact h.ok.len m
      · rename_i hc
        refine ⟨⟨h.ok.n, h.ok.t0, h.ok.t1, fun m => ?_⟩, h.n1, ?_, ?_⟩
        · show (upd _ _ _ m).length = 512
          unfold upd
          split
          · exact hl
          · exact h.ok.len m
        · show 0 ≤ if R.armed then wrap64 (R.left - 1) else R.left
          split
          · rename_i ha
            have hl0 : R.left ≠ 0 := fun e => hc ⟨ha, e⟩
            rw [wrap64_in (by omega) (by omega)]; omega
          · exact h0
        · show (if R.armed then wrap64 (R.left - 1) else R.left) ≤ 9223372036854775807
          split
          · rename_i ha
            have hl0 : R.left ≠ 0 := fun e => hc ⟨ha, e⟩
            rw [wrap64_in (by omega) (by omega)]; omega
          · exact h1

theorem armed_conv (x y : Int) : armed (conv R) x y = conv (rarmed R x y) := by
  unfold armed rarmed
  rw [conv_isNone]
  cases hf : R.fallen with
  | true => simp
  | false =>
    have e : armY y = if 512 < y then 512 else if y < 0 then 0 else y := by
      unfold armY armX
      split <;> split <;> (try split) <;> omega
    simp [conv, hf, e]

theorem both_armed (h : Both R) (x y : Int) (hx : x ≤ 9223372036854775807) : Both (rarmed R x y) := by
  unfold rarmed
  split
  · exact h
  · refine ⟨⟨h.ok.n, ?_, ?_, h.ok.len⟩, h.n1, ?_, ?_⟩
    · show 0 ≤ if 512 < y then (512 : Int) else if y < 0 then 0 else y
      split <;> (try split) <;> omega
    · show (if 512 < y then (512 : Int) else if y < 0 then 0 else y) ≤ 512
      split <;> (try split) <;> omega
    · show 0 ≤ armX x
      unfold armX; split <;> omega
    · show armX x ≤ _
      unfold armX; split <;> omega

def started (R : RS) : RS := { R with fallen := false, armed := false }
theorem started_conv : ({ conv R with pw := some none } : DS) = conv (started R) := rfl
theorem both_started (h : Both R) : Both (started R) := ⟨⟨h.ok.n, h.ok.t0, h.ok.t1, h.ok.len⟩, h.n1, h.l0, h.l1⟩

theorem both_new (N : Nat) (h1 : 1 ≤ N) (h2 : N ≤ 65536) : Both ⟨N, fun _ => zer, false, false, 0, 0, 0, 0⟩ :=
  ⟨⟨h2, Int.le_refl _, by show (0:Int) ≤ 512; decide, fun _ => len_zer⟩, h1, Int.le_refl _, by show (0:Int) ≤ 9223372036854775807; decide⟩

theorem both_cut (b : List UInt8) (N : Nat) (hb : b.length = N * 512) (h1 : 1 ≤ N) (h2 : N ≤ 65536) : Both ⟨N, cut b N, false, false, 0, 0, 0, 0⟩ :=
  ⟨⟨h2, Int.le_refl _, by show (0:Int) ≤ 512; decide, fun n => cut_len (Nat.le_of_eq hb.symm) n⟩, h1, Int.le_refl _, by show (0:Int) ≤ 9223372036854775807; decide⟩

/-- The disk shows what the reference's shows. -/
theorem held (H : At w0 (DiskAt d (conv R) :: RefAt r R :: L) w) : Calls Try.prog 21 #[.pointer (some ⟨d, 0, none⟩), .pointer (some ⟨r, 0, none⟩)] w (Ret w0 (.bool true) (DiskAt d (conv R) :: RefAt r R :: L)) := by
  obtain ⟨sg, vals, he, H2⟩ := open_ref (H.pick 1 rfl)
  have H : At w0 (DiskAt d (conv R) :: Blk r _ :: Blk sg _ :: Elems vals R.sec :: L) w := H2.sel 4 [3, 0, 1, 2]
  clear H2
  go_enter Try.func21, Try.ntmps21
  go_wp2_with fail
  refine wp_region_const (fun i => (#[.pointer (some ⟨d, 0, none⟩), .int .i64 R.n, .pointer (some ⟨r, 0, none⟩), .pointer (some ⟨r, 0, none⟩), .pointer (some ⟨r, 0, none⟩), .slice (some ⟨sg, 0, none⟩) R.n R.n, .int .i64 R.n, .bool true, .bool true,      .pointer (some ⟨d, 0, none⟩), .bool R.fallen, .pointer (some ⟨r, 0, none⟩), .pointer (some ⟨r, 0, none⟩), .pointer (some ⟨r, 2, none⟩), .bool R.fallen, .bool true, .bool true, .bool true,      .pointer (some ⟨d, 0, none⟩), .agg #[.int .i64 R.reads, .int .i64 R.writes], .pointer (some ⟨r, 0, none⟩), .pointer (some ⟨r, 0, none⟩), .pointer (some ⟨r, 5, none⟩), .agg #[.int .i64 R.reads, .int .i64 R.writes], .bool true, .bool true, .bool true] : Array Value).getD i undef)      (At w0 (DiskAt d (conv R) :: Blk r _ :: Blk sg _ :: Elems vals R.sec :: L)) (by kernel_rfl) (by kernel_rfl) H ?_ ?_
  · clear H
    refine ⟨?_, ?_, ?_, ?_, ?_, ?_, ?_, ?_, ?_, ?_, ?_, ?_, ?_, ?_, ?_, ?_, ?_, ?_, ?_, ?_, ?_, ?_, ?_, ?_, ?_, ?_, ?_, trivial⟩
    all_goals
      refine (if_pos (by rfl)).mpr ?_
      intro T ds w K H hk ho hK
      have o0 := ho 0 (by kernel_rfl)
      have o1 := ho 1 (by kernel_rfl)
      clear ho
      simp [know, dstAt, Region.binds] at hk o0 o1
    all_goals first
      | (go_simp; exact hK _ H)
      | (refine op_load _ _ rfl r 0 (by simp [Act.eval, hk]) (by kernel_rfl) H 1 rfl rfl ?_; exact hK _ H)
      | (refine op_load _ _ rfl r 2 (by simp [Act.eval, hk]) (by kernel_rfl) H 1 rfl rfl ?_; exact hK _ H)
      | (refine op_loads _ _ rfl r 5 (by simp [Act.eval, hk]) (by kernel_rfl) 2 (by kernel_rfl) H 1 rfl (by simp) ?_; exact hK _ H)
      | (go_simp; refine (sectors H).mono ?_; rintro e w ⟨rfl, H⟩; exact hK _ H)
      | (go_simp; refine (fallen H).mono ?_; rintro e w ⟨rfl, H⟩; rw [conv_isNone]; exact hK _ H)
      | (go_simp; refine (counts H).mono ?_; rintro e w ⟨rfl, H⟩; exact hK _ H)
      | skip
  · clear H
    intro w H
    simp [putAll, Act.put]
    go_wp2_with fail
    go_ret
    have H2 : At w0 (RefAt r R :: DiskAt d (conv R) :: L) w := shut_ref he ((H.pick 0 rfl).sel 4 [1, 2, 3, 0])
    exact ⟨rfl, H2.pick 1 rfl⟩

theorem back {vb : Value} {l : List UInt8} {g : Nat} {t : TypeId} {B : HProp} (hB : Reads B vb l) (hl : l.length ≤ 140737488355328)
    (H : At w0 (Blk g (.cells (bv l ++ List.replicate 67 (Value.int .u8 201)).toArray t (0, 0)) :: B :: L) w) : Calls Try.prog 32 #[.slice (some ⟨g, 0, none⟩) l.length (l.length + 67), vb] w
    (Ret w0 (.bool true) (Blk g (.cells (bv l ++ List.replicate 67 (Value.int .u8 201)).toArray t (0, 0)) :: B :: L)) := by
  obtain ⟨ad, cap, rfl, hc1, hc2, h3⟩ := (hB.at_ H 1 rfl).len
  clear h3
  have hcell : ∀ k : Nat, k < 67 → (bv l ++ List.replicate 67 (Value.int .u8 201)).toArray[l.length + k]? = some (.int .u8 201) := by
    intro k hk
    rw [List.getElem?_toArray, List.getElem?_append_right (by rw [length_bv]; omega), length_bv, Nat.add_sub_cancel_left, List.getElem?_replicate, if_pos hk]
  have hr : Reads (Blk g (.cells (bv l ++ List.replicate 67 (Value.int .u8 201)).toArray t (0, 0))) (.slice (some ⟨g, 0, none⟩) l.length (l.length + 67)) l := by
    refine reads_blk (fun j v hj => ?_) (by omega) (by simp only [maxLen]; omega)
    have hjl := (List.getElem?_eq_some_iff.1 hj).1
    rw [Nat.zero_add, List.getElem?_toArray, List.getElem?_append_left hjl]
    exact hj
  have Hc := Lib.hid hcell
  clear hcell
  have ht : ((l.length : Int) + 67).toNat = l.length + 67 := by omega
  go_enter Try.func32, Try.ntmps32
  go_wp2_with fail
  go_loopw [6] (fun i wr => ∃ k : Nat, k ≤ 67 ∧ i = .int .i64 (l.length + k) ∧ At w0 (Blk g (.cells (bv l ++ List.replicate 67 (Value.int .u8 201)).toArray t (0, 0)) :: B :: L) wr) (fun i _ => l.length + 67 - (intOf i).toNat)
  case atStart => exact ⟨0, Nat.zero_le _, by simp, H⟩
  case round =>
    clear H
    obtain ⟨k, hk, rfl, H⟩ := hrel
    by_cases hlt : k < 67
    · have hoff : ((l.length : Int) + k).toNat = l.length + k := by omega
      have hlt2 : (k : Int) < 67 := by omega
      have hck := Hc.out k hlt
      go_wp2_with (first | (refine st_load rfl _ _ rfl g (l.length + k) rfl ?_ H 0 rfl hck ?_; (kernel_rfl); (intro K hK; go_simp)))
      go_roundw
      case rel => exact ⟨k + 1, by omega, by rw [Int.natCast_add, Int.add_assoc]; rfl, H⟩
      case measure => simp [intOf]; omega
    · have hk2 : k = 67 := by omega
      subst hk2
      go_wp2_with fail
      refine (same H (hr.at_ H 0 rfl) (hB.at_ H 1 rfl)).mono ?_
      rintro e w ⟨rfl, H⟩
      go_wp2_with fail
      go_ret
      exact ⟨by simp, H⟩

theorem bv_set {l : List UInt8} {i : Nat} {b : UInt8} : (bv l).set i (.int .u8 b.toNat) = bv (l.set i b) := by simp [bv]

/-- A sector that begins with 7. -/
def sev : List UInt8 := zer.set 0 7
theorem len_sev : sev.length = 512 := by unfold sev; rw [List.length_set]; exact len_zer
theorem set_sev : (bv zer).set 0 (.int .u8 7) = bv sev := bv_set (b := 7)
theorem upd_len {s : Int → List UInt8} {n : Int} {b : List UInt8} (hb : b.length = 512) (hs : ∀ m, (s m).length = 512) (m : Int) : (upd s n b m).length = 512 := by
  unfold upd
  split
  · exact hb
  · exact hs m
theorem img_sev : img (upd (fun _ => zer) 1 sev) 2 = zer ++ sev := by simp [img, upd]
theorem sev_at : (bv (zer ++ sev))[512]? = some (.int .u8 7) := by
  have h : (zer ++ sev)[512]? = some 7 := by
    rw [List.getElem?_append_right (by rw [len_zer]; exact Nat.le_refl _), len_zer, Nat.sub_self]
    unfold sev
    rw [List.getElem?_set_self (by rw [len_zer]; decide)]
  unfold bv
  rw [List.getElem?_map, h]
  rfl

theorem written_whole {D : DS} {n : Int} {b : List UInt8} (hm : mayE D n = 0) (hl : b.length = 512) (hp : D.pw = some none) (hsec : (D.sec n).length = 512) :
    Dk.written D n b = ({ D with writes := wrap64 (D.writes + 1), sec := upd D.sec n b }, 0) := by
  have e : b.take 512 ++ (D.sec n).drop 512 = b := by
    rw [List.take_of_length_le (by omega), List.drop_eq_nil_of_le (by omega), List.append_nil]
  obtain ⟨n', s, p, r, w⟩ := D
  simp only at hp hsec e
  subst hp
  simp [Dk.written, hm, hl, pwHolds, pwBytes, pwNext, e]

theorem reads_full {g : Nat} {l : List UInt8} {t : TypeId} {n : Nat} (hl : l.length = n) (hn : n ≤ maxLen) : Reads (Blk g (.cells (bv l).toArray t (0, 0))) (.slice (some ⟨g, 0, none⟩) n n) l := by
  subst hl
  exact reads_blk (fun j v hj => by simpa using hj) (Nat.le_refl _) hn

theorem known (H : At w0 L w) : Calls Try.prog 12 #[] w (Ret w0 (.bool true) L) := by
  go_enter Try.func12, Try.ntmps12
  go_wp2_with fail
  refine (new_yes H 2 (by omega) (by omega)).mono ?_
  rintro e w ⟨d, rfl, H⟩
  go_wp2_with fail
  refine (sectors H).mono ?_
  rintro e w ⟨rfl, H⟩
  dsimp only
  go_wp2_with (first | (refine st_make rfl _ _ _ rfl _ _ _ _ rfl rfl 5 Try.underlying33 1 ?_ 1 ?_ (.int .u8 0) ?_ ?_ ?_ ?_ ?_ H ?_; (kernel_rfl); (kernel_rfl); (kernel_rfl); (omega); (omega); (omega); (omega); (clear H; intro g w H K hK; rw [made_zer] at H; go_simp))      | (refine st_store rfl _ _ _ rfl _ _ rfl _ rfl rfl ?_ H 0 rfl ?_ ?_; (kernel_rfl); (rw [size_bvA, len_zer]; decide); (clear H; intro w H K hK; simp only [List.set_cons_zero, List.setIfInBounds_toArray, Act.eval, Value.cells, Array.getD_eq_getD_getElem?, List.getElem?_toArray, List.getElem?_cons_succ, List.getElem?_cons_zero, Option.getD_some] at H; rw [set_sev] at H; go_simp)))
  have hB : Reads (Blk g (.cells (bv sev).toArray 5 (0, 0))) (.slice (some ⟨g, 0, none⟩) 512 512) sev := reads_full len_sev (by decide)
  have hw := Lib.hid (written_whole (D := ⟨2, fun _ => zer, some none, 0, 0⟩) (n := 1) (by decide) len_sev rfl len_zer)
  refine (write hB (D := ⟨2, fun _ => zer, some none, 0, 0⟩) (by intro l t h; cases h) 1 (H.pick 1 rfl)).mono ?_
  rintro e w ⟨rfl, H⟩
  rw [hw.out] at H ⊢
  dsimp only at H ⊢
  go_wp2_with fail
  refine (read_yes H 1 (by rfl)).mono ?_
  rintro e w ⟨c, rfl, H⟩
  dsimp only at H
  go_wp2_with fail
  have H := H.pick 1 rfl
  dsimp only [List.eraseIdx] at H
  refine (image (by decide) (by decide) ?_ H).mono ?_
  · exact upd_len len_sev fun _ => len_zer
  rintro e w ⟨v, rfl, H⟩
  have H : At w0 (OwnRow 5 1 v 1024 (bv (img (upd (fun _ => zer) 1 sev) 2)) :: _) w := H
  rw [img_sev] at H
  have hlx : (zer ++ sev).length = 1024 := by rw [List.length_append, len_zer, len_sev]
  have hR : Reads (OwnRow 5 1 v 1024 (bv (zer ++ sev))) v (zer ++ sev) := by
    have := reads_own (v := v) (l := zer ++ sev) (e := 5)
    rwa [hlx] at this
  obtain ⟨ad, cap, rfl, _, _, hc⟩ := (hR.at_ H 0 rfl).len
  obtain ⟨bb, rfl, _⟩ := hc (by rw [hlx]; decide)
  clear hc
  rw [hlx] at H hR ⊢
  have hC : Reads (Blk c (.cells (bv sev).toArray 77 (0, 0))) (.slice (some ⟨c, 0, none⟩) 512 512) sev := reads_full len_sev (by decide)
  have H : At w0 (OwnRow 5 1 (.slice (some bb) 1024 cap) 1024 (bv (zer ++ sev)) :: DiskAt d _ :: Blk c (.cells (bv sev).toArray 77 (0, 0)) :: Blk g (.cells (bv sev).toArray 5 (0, 0)) :: L) w := H
  go_wp2_with fail
  refine (same H (hC.at_ H 2 rfl) (hB.at_ H 3 rfl)).mono ?_
  rintro e w ⟨rfl, H⟩
  have hcell : w.cell? (bb.add 512) = some (.int .u8 7) := by
    obtain ⟨ad2, cap2, hv, _, _, hc⟩ := (hR.at_ H 0 rfl).len
    obtain ⟨b2, rfl, hcc⟩ := hc (by rw [hlx]; decide)
    cases (Value.slice.inj hv).1
    exact hcc 512 _ sev_at
  have hbe : (sev == sev) = true := beq_self_eq_true _
  go_wp2_with (first | (refine st_load1 rfl _ _ rfl _ rfl ?_ hcell ?_; (kernel_rfl); (intro K hK; go_simp)))
  refine (write_no hB 2 (by decide) (H.sel 4 [1, 3])).mono ?_
  rintro e w ⟨rfl, H⟩
  go_wp2_with fail
  go_ret
  exact ⟨rfl, (H.drop).drop⟩
end
end Lw
end Go.Proofs.Ytbbkfneafonmiaa
