/-
  DiskBig.
-/
import Derived.Test.YtbbkfneafonmiaaLaw3
import Derived.Test.YtbbkfneafonmiaaSteps
import Derived.ProofKit
namespace Go.Proofs.Ytbbkfneafonmiaa
open Go.Hp Go.RowKit Go.ChangeShapes Go.WideShapes
set_option linter.unusedVariables false
set_option linter.unusedSimpArgs false
namespace diskBig
open Dk Rf Lw
section
variable {W : World}

set_option maxRecDepth 100000 in
set_option maxHeartbeats 2000000 in
theorem walk (n : Int) (hn : In64 n) {v : Value} {l : List StepV} (hs : StepsAt W v l) : Calls Try.prog 4 #[.int .i64 n, v] W fun e w => e = .returned (.bool true) ∧ Below W.heap.size W w := by
  have H := At.of W
  obtain ⟨ad, cap, rfl, hl1, hl2, hst⟩ := hs
  by_cases h1 : n < 1
  · go_enter Try.func4, Try.ntmps4
    go_wp2_with fail
    refine (known H).mono ?_
    rintro e w ⟨rfl, H⟩
    go_wp2_with fail
    refine (known H).mono ?_
    rintro e w ⟨rfl, H⟩
    go_wp2_with fail
    go_ret
    exact ⟨rfl, H.below 0 rfl⟩
  by_cases h2 : 65536 < n
  · go_enter Try.func4, Try.ntmps4
    go_wp2_with fail
    refine (known H).mono ?_
    rintro e w ⟨rfl, H⟩
    go_wp2_with fail
    refine (known H).mono ?_
    rintro e w ⟨rfl, H⟩
    go_wp2_with fail
    go_ret
    exact ⟨rfl, H.below 0 rfl⟩
  obtain ⟨N, rfl⟩ := Int.eq_ofNat_of_zero_le (show 0 ≤ n by omega)
  have h1' : (1 : Int) ≤ N := by omega
  have h2' : (N : Int) ≤ 65536 := by omega
  clear h1 h2
  go_enter Try.func4, Try.ntmps4
  go_wp2_with fail
  refine (known H).mono ?_
  rintro e w ⟨rfl, H⟩
  go_wp2_with fail
  refine (new_yes H N h1' h2').mono ?_
  rintro e w ⟨d, rfl, H⟩
  go_wp2_with fail
  refine (rnew_yes H N h1' h2').mono ?_
  rintro e w ⟨r, rfl, H⟩
  go_wp2_with fail
  have H : At W (RefAt r ⟨N, fun _ => zer, false, false, 0, 0, 0, 0⟩ :: DiskAt d (conv ⟨N, fun _ => zer, false, false, 0, 0, 0, 0⟩) :: Arg W :: []) w := H
  have HB := Lib.hid (both_new N (by omega) (by omega))
  have Hst := Lib.hid hst
  clear hst
  go_loopw [9] (fun i wr => ∃ k : Nat, k ≤ l.length ∧ i = .int .i64 k ∧ ∃ R : RS, R.n = N ∧ Hid (Both R) ∧ At W (RefAt r R :: DiskAt d (conv R) :: Arg W :: []) wr) (fun i _ => l.length - (intOf i).toNat)
  case atStart => exact ⟨0, Nat.zero_le _, rfl, _, rfl, HB, H⟩
  case round =>
    clear H HB
    obtain ⟨k, hk, rfl, R, rfl, HB, H⟩ := hrel
    by_cases hlt : k < l.length
    · by_cases hlt64 : k < 64
      · have g1 : (k : Int) < l.length := by omega
        have g2 : (k : Int) < 64 := by omega
        obtain ⟨⟨sk, sn, sm, sv, sd⟩, hs⟩ : ∃ s, l[k]? = some s := ⟨l[k], by simp [hlt]⟩
        obtain ⟨b, rfl, so⟩ := Hst.out k _ hs
        obtain ⟨da, dc, hdv, hd1, hd2, hd3⟩ := so.d.len
        dsimp only at hdv
        subst hdv
        clear hd3
        have so1 := (so.at_ H 2 rfl).c1
        dsimp only at so1 hd1 hd2
        have r1 := so.n64.1
        have r2 := so.n64.2
        dsimp only at r1 r2
        go_wp2_with (first | (refine st_load1 rfl _ _ rfl _ rfl ?_ so1 ?_; (kernel_rfl); (intro K hK; go_simp)))
        refine (round H sn R.n r1 r2 h1' (by omega)).mono ?_
        rintro e w ⟨rfl, H⟩
        generalize rnd sn R.n = p at *
        go_wp2_with (first | (refine st_make rfl _ _ _ rfl _ _ _ _ rfl rfl 5 Try.underlying33 1 ?_ 1 ?_ (.int .u8 0) ?_ ?_ ?_ ?_ ?_ H ?_; (kernel_rfl); (kernel_rfl); (kernel_rfl); (omega); (omega); (omega); (omega); (clear H; intro g w H K hK; rw [made_512] at H; have so3 := (so.at_ H 3 rfl).c3; dsimp only at so3; go_simp))            | (refine st_load1 rfl _ _ rfl _ rfl ?_ so3 ?_; (kernel_rfl); (intro K hK; go_simp))            | (refine st_copy rfl _ _ _ _ rfl 5 Try.underlying33 ?_ g 0 512 512 sd.length dc da rfl rfl (bv (sd.take 512)) ?_ ?_ (bv_one _) H 0 rfl ?_ ?_; (kernel_rfl); (rw [length_bv, List.length_take]; exact Nat.min_comm _ _);              (intro hp; obtain ⟨ad2, cap2, hv, _, _, hc⟩ := (so.at_ H 3 rfl).d.len; obtain ⟨bb, hbb, hcc⟩ := hc (by rw [length_bv, List.length_take] at hp; dsimp only; omega); cases hv; exact ⟨bb, hbb, fun j v hj => hcc j v (bv_take hj)⟩);              (rw [length_bv, List.length_take, List.length_replicate]; omega); (clear H so3; intro w H K hK; simp only [List.set_cons_zero] at H; rw [splice_full] at H; go_simp)))
        have hlb := len_fullB sd 0
        generalize fullB sd 0 = bb at *
        have hB : Reads (Blk g (.cells (bv bb).toArray 5 (0, 0))) (.slice (some ⟨g, 0, none⟩) 512 512) bb := reads_full hlb (by decide)
        refine (write hB (pwok_conv HB.out) p (H.sel 3 [2, 0, 1])).mono ?_
        rintro e w ⟨rfl, H⟩
        rw [written_conv HB.out] at H ⊢
        dsimp only at H ⊢
        have H : At W (DiskAt d (conv (rwritten R p bb).1) :: Blk g (.cells (bv bb).toArray 5 (0, 0)) :: RefAt r R :: Arg W :: []) w := H
        generalize hR1 : (rwritten R p bb).1 = R1 at *
        generalize hE1 : (rwritten R p bb).2 = E1 at *
        have HB1 : Hid (Both R1) := Lib.hid (by rw [← hR1]; exact both_written HB.out _ _)
        have hn1 : R1.n = R.n := by rw [← hR1]; exact n_rwritten _ _
        go_wp2_with fail
        refine (rwrite hB p HB.out.ok (H.sel 3 [2, 1, 0])).mono ?_
        rintro e w ⟨rfl, H⟩
        rw [hR1] at H
        rw [hE1]
        have H : At W (RefAt r R1 :: Blk g (.cells (bv bb).toArray 5 (0, 0)) :: DiskAt d (conv R1) :: Arg W :: []) w := H
        have Hn1 := Lib.hid hn1
        clear hR1 hE1 hn1 hB HB
        go_wp2_with fail
        refine (Lw.read p (HB1.out.ok.len p) (H.sel 3 [2, 0])).mono ?_
        rintro e w ⟨v1, B1, rfl, hB1, H⟩
        rw [mayE_conv] at hB1 ⊢
        rw [readD_conv] at H
        go_wp2_with fail
        refine (Lw.rread HB1.out p (H.sel 3 [2, 0, 1])).mono ?_
        rintro e w ⟨v2, B2, rfl, hB2, H⟩
        have H : At W (B2 :: RefAt r (readR R1 p) :: B1 :: DiskAt d (conv (readR R1 p)) :: Arg W :: []) w := H
        have HB2 : Hid (Both (readR R1 p)) := Lib.hid (both_readR HB1.out p)
        have Hn2 : Hid ((readR R1 p).n = R.n) := Lib.hid ((n_readR p).trans Hn1.out)
        generalize readR R1 p = R2 at *
        generalize refE R1 p = E2 at *
        go_wp2_with fail
        refine (same H (hB1.at_ H 2 rfl) (hB2.at_ H 0 rfl)).mono ?_
        rintro e w ⟨rfl, H⟩
        have hbe : (got E2 ((conv R1).sec p) == got E2 (R1.sec p)) = true := beq_self_eq_true _
        have H : At W (RefAt r R2 :: DiskAt d (conv R2) :: Arg W :: []) w := H.sel 5 [1, 3, 4]
        clear hB1 hB2
        have so2 := (so.at_ H 2 rfl).c2
        dsimp only at so2
        go_wp2_with (first | (refine st_load1 rfl _ _ rfl _ rfl ?_ so2 ?_; (kernel_rfl); (intro K hK; go_simp)))
        refine (Lw.read sm (HB2.out.ok.len sm) (H.sel 2 [1, 0])).mono ?_
        rintro e w ⟨v3, B3, rfl, hB3, H⟩
        rw [mayE_conv] at hB3 ⊢
        rw [readD_conv] at H
        have H : At W (B3 :: DiskAt d (conv (readR R2 sm)) :: RefAt r R2 :: Arg W :: []) w := H
        have so2 := (so.at_ H 3 rfl).c2
        dsimp only at so2
        go_wp2_with (first | (refine st_load1 rfl _ _ rfl _ rfl ?_ so2 ?_; (kernel_rfl); (intro K hK; go_simp)))
        refine (Lw.rread HB2.out sm (H.sel 3 [2, 0, 1])).mono ?_
        rintro e w ⟨v4, B4, rfl, hB4, H⟩
        have H : At W (B4 :: RefAt r (readR R2 sm) :: B3 :: DiskAt d (conv (readR R2 sm)) :: Arg W :: []) w := H
        have HB3 : Hid (Both (readR R2 sm)) := Lib.hid (both_readR HB2.out sm)
        have Hn3 : Hid ((readR R2 sm).n = R.n) := Lib.hid ((n_readR sm).trans Hn2.out)
        generalize readR R2 sm = R3 at *
        generalize refE R2 sm = E3 at *
        go_wp2_with fail
        refine (same H (hB3.at_ H 2 rfl) (hB4.at_ H 0 rfl)).mono ?_
        rintro e w ⟨rfl, H⟩
        have hbe : (got E3 ((conv R2).sec sm) == got E3 (R2.sec sm)) = true := beq_self_eq_true _
        go_wp2_with fail
        go_roundw
        case rel => exact ⟨k + 1, by omega, by go_num, R3, Hn3.out, HB3, H.sel 5 [1, 3, 4]⟩
        case measure => simp [intOf]; omega
      · have g1 : (k : Int) < l.length := by omega
        have g2 : ¬ (k : Int) < 64 := by omega
        go_wp2_with fail
        refine (held (H.sel 2 [1, 0])).mono ?_
        rintro e w ⟨rfl, H⟩
        go_wp2_with fail
        go_ret
        exact ⟨rfl, H.below 2 rfl⟩
    · have g1 : ¬ (k : Int) < l.length := by omega
      go_wp2_with fail
      refine (held (H.sel 2 [1, 0])).mono ?_
      rintro e w ⟨rfl, H⟩
      go_wp2_with fail
      go_ret
      exact ⟨rfl, H.below 2 rfl⟩
end

theorem own : ownKnob Try.prog.godebug = none := by kernel_rfl

theorem lifted (os : Os) (started : os.Started) (H : Type) (enc : TypeId × Value → H) :
    ReturnsInHanded {} Try.checked os 4 .any (Rows.diskBigSpec.pre6 enc Try.prog Try.f4 Rows.diskBigRow.domain false) (Rows.diskBigSpec.post enc Try.prog Try.f4 false true false false) := by
  refine frame_true (C := Try.checked) started own (by kernel_rfl) Try.func4
    (ChangeSpec.witness6 (enc := enc) (C := Try.checked) false ⟨#[], #[.int .i64 0, .slice none 0 0], []⟩ 8 (by kernel_rfl) (by kernel_rfl) (by kernel_rfl) (by kernel_rfl)) rfl ?_ (by kernel_rfl) (by kernel_rfl) (by kernel_rfl) Try.underlying4 ?_
  · intro ds hds
    match ds, hds with
    | [_, _], _ => rfl
  · rintro W args ds p ⟨base, hval⟩ hA hwt
    have hp : Try.f4.params.toList = [3, 25] := by rw [Try.params4]
    rw [hp] at hA hwt
    obtain ⟨v0, v1, d0, d1, p0, p1, rfl, rfl, rfl, hd0, hd1⟩ := trodAll_two hA
    obtain ⟨n, rfl, rfl, rfl, hw⟩ := open_int Try.underlying3 (hval 0 _ _ (by rw [Try.params4]; rfl) rfl) hd0
    obtain ⟨sa, sl, sc, rfl⟩ := okWide_slice Try.underlying25 (hval 1 _ _ (by rw [Try.params4]; rfl) rfl)
    obtain ⟨fuel, hf⟩ := hd1
    simp only [DataW.weightsEach, List.all_append, Bool.and_eq_true] at hwt
    obtain ⟨l, v, hv, hst⟩ := steps_of_trod hf hwt.2.1
    simp only [Value.cells, List.cons.injEq, and_true] at hv
    subst hv
    exact walk n (int_range hw) hst

theorem over : Rows.diskBigRow.holds Try.pinned (OpenSpec.ofChange Rows.diskBigSpec) :=
  OpenClaim.holds_of_wide 4 Try.f4 rfl rfl rfl rfl rfl rfl rfl ⟨rfl, rfl, rfl, rfl, rfl⟩ rfl rfl rfl rfl rfl (by kernel_rfl) Try.func4 (by kernel_rfl)
    (of_decide_eq_true (by kernel_rfl)) (by unfold Func.isWrapper; first | (rw [if_pos (by decide +kernel)]; kernel_rfl) | (rw [if_neg (by decide +kernel)]; exact ⟨rfl, rfl⟩))
    (fun os started H enc _ => lifted os started H enc)

theorem proved : Rows.DiskBigSaid := over
#print axioms proved
end diskBig
end Go.Proofs.Ytbbkfneafonmiaa
