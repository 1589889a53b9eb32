/-
  play: a script on both disks.
-/
import Derived.Test.YtbbkfneafonmiaaLaw3
import Derived.Test.YtbbkfneafonmiaaSteps
import Derived.Test.YtbbkfneafonmiaaRef4
import Derived.OwnWalk
namespace Go.Proofs.Ytbbkfneafonmiaa
open Go.Hp Go.RowKit
set_option linter.unusedVariables false
set_option linter.unusedSimpArgs false
namespace Lw
open Dk Rf

theorem n_rarmed (R : RS) (x y : Int) : (rarmed R x y).n = R.n := by unfold rarmed; split <;> rfl

section
variable {W : World}

/-- What is told at a step: the step's own copy, the disks, the arguments. -/
abbrev stepL (W : World) (gs : Nat) (s : StepV) (d r : Nat) (R : RS) : List HProp :=
  [Blk gs (.cells #[.int .i64 s.kind, .int .i64 s.n, .int .i64 s.m, s.dv] 35 (0, 0)), RefAt r R, DiskAt d (conv R), Arg W]

set_option maxRecDepth 100000 in
set_option maxHeartbeats 4000000 in
theorem play {w : World} {d r : Nat} {R : RS} {v : Value} {l : List StepV} (hs : StepsAt W v l) (hb : Both R) (H : At W (DiskAt d (conv R) :: RefAt r R :: Arg W :: []) w) :
    Calls Try.prog 33 #[.pointer (some ⟨d, 0, none⟩), .pointer (some ⟨r, 0, none⟩), v] w fun e w' => (∃ d' r', e = .returned (.tuple #[.pointer (some ⟨d', 0, none⟩), .pointer (some ⟨r', 0, none⟩), .bool true])) ∧ At W (Arg W :: []) w' := by
  obtain ⟨ad, cap, rfl, hl1, hl2, hst⟩ := hs
  have hl3 : l.length ≤ 9223372036854775807 := by simp only [maxLen] at hl2; omega
  have Hst := Lib.hid hst
  have HB := Lib.hid hb
  clear hst hb
  go_enter Try.func33, Try.ntmps33
  go_wp2_with fail
  go_loopw [0, 1, 9] (fun dv rv i wr => ∃ k : Nat, k ≤ l.length ∧ i = .int .i64 k ∧ ∃ d r R, dv = .pointer (some ⟨d, 0, none⟩) ∧ rv = .pointer (some ⟨r, 0, none⟩) ∧ Hid (Both R) ∧ At W (DiskAt d (conv R) :: RefAt r R :: Arg W :: []) wr) (fun _ _ i _ => l.length - (intOf i).toNat)
  case atStart => exact ⟨0, Nat.zero_le _, rfl, d, r, R, rfl, rfl, HB, H⟩
  case round =>
    clear H HB R
    obtain ⟨k, hk, rfl, d, r, R, rfl, rfl, HB, H⟩ := hrel
    by_cases hlt : k < l.length
    · have g1 : (k : Int) < l.length := by omega
      obtain ⟨⟨sk, sn, sm, sv, sd⟩, hs⟩ : ∃ s, l[k]? = some s := ⟨l[k], by simp [hlt]⟩
      obtain ⟨b, rfl, so⟩ := Hst.out k _ hs
      obtain ⟨da, dc, hdv, hd1, hd2, hd3⟩ := so.d.len
      dsimp only at hdv
      subst hdv
      have hS := reads_arg so.d
      clear hd3
      have sow := so.at_ H 2 rfl
      have hcells : ∀ (j : Nat) (u : Value), [Value.int .i64 sk, .int .i64 sn, .int .i64 sm, .slice da sd.length dc][j]? = some u → wr.cell? ((b.add (k * 4)).add j) = some u := by
        intro j u hj
        match j, hj with
        | 0, hj => cases hj; exact sow.c0
        | 1, hj => cases hj; exact sow.c1
        | 2, hj => cases hj; exact sow.c2
        | 3, hj => cases hj; exact sow.c3
        | j + 4, hj => simp at hj
      have Hc := Lib.hid hcells
      have k1 := so.k64.1
      have k2 := so.k64.2
      have n1 := so.n64.1
      have n2 := so.n64.2
      have m1 := so.m64.1
      have m2 := so.m64.2
      have hdl := so.len
      have hdl2 : sd.length ≤ 140737488351232 := hdl
      dsimp only at k1 k2 n1 n2 m1 m2 hd1 hd2 hS
      clear hcells sow hdl
      go_wp2_with (first | (refine st_loadCells rfl _ _ rfl _ rfl ?_ [.int .i64 sk, .int .i64 sn, .int .i64 sm, .slice da sd.length dc] ?_ Hc.out ?_; (kernel_rfl); (kernel_rfl); (intro K hK; go_simp))          | (refine st_alloc rfl _ rfl (.agg (#[.int .i64 0, .int .i64 0, .int .i64 0, .slice none 0 0])) ?_ (#[.int .i64 0, .int .i64 0, .int .i64 0, .slice none 0 0]) rfl H ?_; (kernel_rfl); (clear H; intro gs w H K hK; go_simp)) | (refine st_put rfl _ _ _ rfl _ rfl _ rfl ?_ ?_ H 0 rfl ?_ ?_; (simp [Value.oneCell']); (kernel_rfl); (simp); (clear H; intro w H K hK; simp only [List.set_cons_zero, List.set_cons_succ, Act.eval, Value.cells, Array.getD_eq_getD_getElem?, List.getElem?_toArray, List.getElem?_cons_succ, List.getElem?_cons_zero, Option.getD_some] at H; go_simp)) | (refine st_load rfl _ _ rfl _ _ rfl ?_ H 0 rfl rfl ?_; (kernel_rfl); (intro K hK; go_simp)))
      replace H : At W (stepL W gs ⟨sk, sn, sm, .slice da sd.length dc, sd⟩ d r R) w := H.sel 4 [0, 2, 1, 3]
      refine (round H sk 7 k1 k2 (by omega) (by omega)).mono ?_
      rintro e w ⟨rfl, H⟩
      obtain ⟨p1, p2⟩ := rnd_range (v := sk) (n := 7) (by omega)
      generalize rnd sk 7 = p at *
      rcases (show p = 0 ∨ p = 1 ∨ p = 2 ∨ p = 3 ∨ p = 4 ∨ p = 5 ∨ p = 6 by omega) with rfl | rfl | rfl | rfl | rfl | rfl | rfl
      · go_wp2_with (first | (refine st_load rfl _ _ rfl _ _ rfl ?_ H 0 rfl rfl ?_; (kernel_rfl); (intro K hK; go_simp)))
        refine (Lw.read sn (HB.out.ok.len sn) (H.sel 3 [2, 0, 1])).mono ?_
        rintro e w ⟨v1, B1, rfl, hB1, H⟩
        rw [mayE_conv] at hB1 ⊢
        rw [readD_conv] at H
        replace H : At W (Blk gs (.cells #[.int .i64 sk, .int .i64 sn, .int .i64 sm, .slice da sd.length dc] 35 (0, 0)) :: B1 :: DiskAt d (conv (readR R sn)) :: RefAt r R :: Arg W :: []) w := H.sel 4 [2, 0, 1, 3]
        go_wp2_with (first | (refine st_load rfl _ _ rfl _ _ rfl ?_ H 0 rfl rfl ?_; (kernel_rfl); (intro K hK; go_simp)))
        refine (Lw.rread HB.out sn (H.sel 4 [3, 1, 2])).mono ?_
        rintro e w ⟨v2, B2, rfl, hB2, H⟩
        have H : At W (B2 :: RefAt r (readR R sn) :: B1 :: DiskAt d (conv (readR R sn)) :: Arg W :: []) w := H
        have HB2 : Hid (Both (readR R sn)) := Lib.hid (both_readR HB.out sn)
        generalize readR R sn = R2 at *
        obtain ⟨a1, c1, rfl, _, _, _⟩ := (hB1.at_ H 2 rfl).len
        have hsame : (conv R).sec sn = R.sec sn := rfl
        rw [hsame] at hB1 ⊢
        generalize refE R sn = E2 at *
        have hlen : E2 ≠ 0 → (got E2 (R.sec sn)).length = 0 := fun h => by rw [got, if_neg h]; rfl
        generalize got E2 (R.sec sn) = G at *
        by_cases hE : E2 = 0
        · subst hE
          clear hlen
          go_wp2_with fail
          refine (same H (hB1.at_ H 2 rfl) (hB2.at_ H 0 rfl)).mono ?_
          rintro e w ⟨rfl, H⟩
          rw [beq_self_eq_true]
          go_wp2_with fail
          go_roundw
          case rel => exact ⟨k + 1, by omega, by go_num, d, r, _, rfl, rfl, HB2, H.sel 5 [3, 1, 4]⟩
          case measure => simp [intOf]; omega
        · have hl0 := hlen hE
          rw [hl0] at hB1
          have hE2 : (E2 == 0) = false := by simpa using hE
          clear hlen
          go_wp2_with fail
          refine (same H (hB1.at_ H 2 rfl) (hB2.at_ H 0 rfl)).mono ?_
          rintro e w ⟨rfl, H⟩
          rw [beq_self_eq_true]
          go_wp2_with fail
          go_roundw
          case rel => exact ⟨k + 1, by omega, by go_num, d, r, _, rfl, rfl, HB2, H.sel 5 [3, 1, 4]⟩
          case measure => simp [intOf]; omega
      · go_wp2_with (first | (refine st_load rfl _ _ rfl _ _ rfl ?_ H 0 rfl rfl ?_; (kernel_rfl); (intro K hK; go_simp)))
        refine (lend hS (by omega) (H.sel 4 [3, 0, 1, 2])).mono ?_
        rintro e w ⟨g, rfl, H⟩
        have hG := reads_lend (g := g) (t := 5) (l := sd) rfl (by simp only [maxLen]; omega)
        replace H : At W (Blk gs (.cells #[.int .i64 sk, .int .i64 sn, .int .i64 sm, .slice da sd.length dc] 35 (0, 0)) :: Blk g (.cells (bv sd ++ List.replicate 67 (Value.int .u8 201)).toArray 5 (0, 0)) :: Arg W :: RefAt r R :: DiskAt d (conv R) :: []) w := H.sel 4 [2, 0, 1, 3]
        go_wp2_with (first | (refine st_load rfl _ _ rfl _ _ rfl ?_ H 0 rfl rfl ?_; (kernel_rfl); (intro K hK; go_simp)))
        refine (write hG (pwok_conv HB.out) sn (H.sel 5 [4, 1, 0, 2, 3])).mono ?_
        rintro e w ⟨rfl, H⟩
        rw [written_conv HB.out] at H ⊢
        dsimp only at H ⊢
        replace H : At W (Blk gs (.cells #[.int .i64 sk, .int .i64 sn, .int .i64 sm, .slice da sd.length dc] 35 (0, 0)) :: Blk g (.cells (bv sd ++ List.replicate 67 (Value.int .u8 201)).toArray 5 (0, 0)) :: Arg W :: RefAt r R :: DiskAt d (conv (rwritten R sn sd).1) :: []) w := H.sel 5 [2, 1, 3, 4, 0]
        generalize hR1 : (rwritten R sn sd).1 = R1 at *
        generalize hE1 : (rwritten R sn sd).2 = E1 at *
        have HB1 : Hid (Both R1) := Lib.hid (by rw [← hR1]; exact both_written HB.out _ _)
        have HR1 := Lib.hid hR1
        have HE1 := Lib.hid hE1
        clear hR1 hE1
        go_wp2_with (first | (refine st_load rfl _ _ rfl _ _ rfl ?_ H 0 rfl rfl ?_; (kernel_rfl); (intro K hK; go_simp)))
        refine (rwrite hS sn HB.out.ok (H.sel 5 [3, 2, 0, 1, 4])).mono ?_
        rintro e w ⟨rfl, H⟩
        rw [HR1.out] at H
        rw [HE1.out]
        replace H : At W (Blk gs (.cells #[.int .i64 sk, .int .i64 sn, .int .i64 sm, .slice da sd.length dc] 35 (0, 0)) :: Blk g (.cells (bv sd ++ List.replicate 67 (Value.int .u8 201)).toArray 5 (0, 0)) :: Arg W :: RefAt r R1 :: DiskAt d (conv R1) :: []) w := H.sel 5 [2, 3, 1, 0, 4]
        go_wp2_with (first | (refine st_load rfl _ _ rfl _ _ rfl ?_ H 0 rfl rfl ?_; (kernel_rfl); (intro K hK; go_simp)))
        refine (back hS (by omega) (H.sel 3 [1, 2])).mono ?_
        rintro e w ⟨rfl, H⟩
        have hcs : ∀ j : Nat, j < sd.length → ∃ x, (bv sd ++ List.replicate 67 (Value.int .u8 201))[j]? = some (Value.int .u8 x) := fun j hj => ⟨_, by rw [List.getElem?_append_left (by rw [length_bv]; exact hj)]; exact bv_get sd j hj⟩
        have hcl : (bv sd ++ List.replicate 67 (Value.int .u8 201)).length = sd.length + 67 := by rw [List.length_append, length_bv, List.length_replicate]
        generalize bv sd ++ List.replicate 67 (Value.int .u8 201) = cs at *
        have Hcs := Lib.hid hcs
        have Hcl := Lib.hid hcl
        clear hcs hcl
        go_wp2_with fail
        go_loopw [17] (fun i wr => ∃ j : Nat, j ≤ sd.length ∧ i = .int .i64 j ∧ ∃ cs : List Value, Hid (∀ j : Nat, j < sd.length → ∃ x, cs[j]? = some (Value.int .u8 x)) ∧ Hid (cs.length = sd.length + 67) ∧ At W (Blk g (.cells cs.toArray 5 (0, 0)) :: Arg W :: RefAt r R1 :: DiskAt d (conv R1) :: []) wr) (fun i _ => sd.length - (intOf i).toNat)
        case atStart => exact ⟨0, Nat.zero_le _, rfl, cs, Hcs, Hcl, H⟩
        case round =>
          clear H Hcs Hcl
          obtain ⟨j, hj, rfl, cs, Hcs, Hcl, H⟩ := hrel
          by_cases hjl : j < sd.length
          · have gj : (j : Int) < sd.length := by omega
            obtain ⟨x, hx⟩ := Hcs.out j hjl
            have hxa : cs.toArray[j]? = some (.int .u8 x) := by simpa using hx
            go_wp2_with (first | (refine st_load rfl _ _ rfl g j rfl ?_ H 0 rfl hxa ?_; (kernel_rfl); (intro K hK; go_simp)) | (refine st_store rfl _ _ _ rfl g j rfl _ rfl rfl ?_ H 0 rfl ?_ ?_; (kernel_rfl); (simp only [List.size_toArray]; rw [Hcl.out]; omega); (clear H; intro w H K hK; simp only [List.set_cons_zero, List.setIfInBounds_toArray] at H; go_simp)))
            go_roundw
            case rel =>
              refine ⟨j + 1, by omega, by go_num, _, Lib.hid ?_, Lib.hid ?_, H⟩
              · intro i hi
                by_cases hij : i = j
                · subst hij
                  exact ⟨_, List.getElem?_set_self (by rw [Hcl.out]; omega)⟩
                · obtain ⟨y, hy⟩ := Hcs.out i hi
                  exact ⟨y, by rw [List.getElem?_set_ne (fun e => hij e.symm)]; exact hy⟩
              · rw [List.length_set]; exact Hcl.out
            case measure => simp [intOf]; omega
          · have gj : ¬ (j : Int) < sd.length := by omega
            go_wp2_with fail
            go_roundw
            case rel => exact ⟨k + 1, by omega, by go_num, d, r, _, rfl, rfl, HB1, H.sel 4 [3, 2, 1]⟩
            case measure => simp [intOf]; omega
      · go_wp2_with (first | (refine st_load rfl _ _ rfl _ _ rfl ?_ H 0 rfl rfl ?_; (kernel_rfl); (intro K hK; go_simp)))
        refine (arm (H.sel 3 [2, 0, 1]) sn sm).mono ?_
        rintro e w ⟨rfl, H⟩
        rw [armed_conv] at H
        replace H : At W (Blk gs _ :: RefAt r R :: DiskAt d (conv (rarmed R sn sm)) :: Arg W :: []) w := H.sel 3 [1, 2, 0]
        go_wp2_with (first | (refine st_load rfl _ _ rfl _ _ rfl ?_ H 0 rfl rfl ?_; (kernel_rfl); (intro K hK; go_simp)))
        refine (rarm (H.sel 3 [1, 2, 0]) sn sm).mono ?_
        rintro e w ⟨rfl, H⟩
        go_wp2_with fail
        go_roundw
        case rel => exact ⟨k + 1, by omega, by go_num, d, r, _, rfl, rfl, Lib.hid (both_armed HB.out sn sm n2), H.sel 4 [1, 0, 3]⟩
        case measure => simp [intOf]; omega
      · go_wp2_with fail
        refine (Dk.start (H.sel 3 [2, 0, 1])).mono ?_
        rintro e w ⟨rfl, H⟩
        rw [started_conv] at H
        replace H : At W (RefAt r R :: DiskAt d (conv (started R)) :: Arg W :: []) w := H.sel 3 [2, 0]
        go_wp2_with fail
        refine (rstart H).mono ?_
        rintro e w ⟨rfl, H⟩
        go_wp2_with fail
        go_roundw
        case rel => exact ⟨k + 1, by omega, by go_num, d, r, _, rfl, rfl, Lib.hid (both_started HB.out), H.sel 2 [1, 0]⟩
        case measure => simp [intOf]; omega
      · have hn1 : (1 : Int) ≤ R.n := by have := HB.out.n1; omega
        have hn2 : (R.n : Int) ≤ 65536 := by have := HB.out.ok.n; omega
        have hX : ∀ v, Reads (OwnRow 5 1 v ((conv R).n.toNat * 512) (bv (img (conv R).sec (conv R).n.toNat))) v (img R.sec R.n) := fun v => reads_own_n (len_img HB.out.ok.len R.n)
        have hY : ∀ g, Reads (Blk g (.cells (bv (img R.sec R.n)).toArray 5 (0, 0))) (.slice (some ⟨g, 0, none⟩) (R.n * 512) (R.n * 512)) (img R.sec R.n) := fun g => reads_full (len_img HB.out.ok.len R.n) (by have := HB.out.ok.n; simp only [maxLen]; omega)
        go_wp2_with fail
        refine (image hn1 hn2 HB.out.ok.len (H.sel 4 [2, 1, 3])).mono ?_
        rintro e w ⟨x, rfl, H⟩
        go_wp2_with fail
        refine (rimage HB.out.ok (H.sel 3 [2, 0, 1])).mono ?_
        rintro e w ⟨y, rfl, H⟩
        go_wp2_with fail
        refine (same H ((hX x).at_ H 2 rfl) ((hY y).at_ H 0 rfl)).mono ?_
        rintro e w ⟨rfl, H⟩
        rw [beq_self_eq_true]
        go_wp2_with fail
        go_roundw
        case rel => exact ⟨k + 1, by omega, by go_num, d, r, _, rfl, rfl, HB, H.sel 5 [3, 1, 4]⟩
        case measure => simp [intOf]; omega
      · have hn1 : (1 : Int) ≤ R.n := by have := HB.out.n1; omega
        have hn2 : (R.n : Int) ≤ 65536 := by have := HB.out.ok.n; omega
        have hX : ∀ v, Reads (OwnRow 5 1 v ((conv R).n.toNat * 512) (bv (img (conv R).sec (conv R).n.toNat))) v (img R.sec R.n) := fun v => reads_own_n (len_img HB.out.ok.len R.n)
        have hY : ∀ g, Reads (Blk g (.cells (bv (img R.sec R.n)).toArray 5 (0, 0))) (.slice (some ⟨g, 0, none⟩) (R.n * 512) (R.n * 512)) (img R.sec R.n) := fun g => reads_full (len_img HB.out.ok.len R.n) (by have := HB.out.ok.n; simp only [maxLen]; omega)
        have hli := len_img HB.out.ok.len R.n
        have hN1 := HB.out.n1
        have hN2 := HB.out.ok.n
        go_wp2_with fail
        refine (image hn1 hn2 HB.out.ok.len (H.sel 4 [2, 1, 3])).mono ?_
        rintro e w ⟨x, rfl, H⟩
        go_wp2_with fail
        refine (load_yes (hX x) R.n hli hN1 hN2 H).mono ?_
        rintro e w ⟨d2, rfl, H⟩
        go_wp2_with fail
        refine (rimage HB.out.ok (H.sel 5 [3, 0, 4])).mono ?_
        rintro e w ⟨y, rfl, H⟩
        go_wp2_with fail
        refine (rload_yes (hY y) R.n hli hN1 hN2 H).mono ?_
        rintro e w ⟨r2, rfl, H⟩
        have HB3 := Lib.hid (both_cut (img R.sec R.n) R.n hli hN1 hN2)
        replace H : At W (DiskAt d2 (conv ⟨R.n, cut (img R.sec R.n) R.n, false, false, 0, 0, 0, 0⟩) :: RefAt r2 ⟨R.n, cut (img R.sec R.n) R.n, false, false, 0, 0, 0, 0⟩ :: Arg W :: []) w := H.sel 5 [3, 0, 4]
        go_wp2_with fail
        go_roundw
        case rel => exact ⟨k + 1, by omega, by go_num, d2, r2, _, rfl, rfl, HB3, H⟩
        case measure => simp [intOf]; omega
      · go_wp2_with fail
        refine (held (H.sel 3 [2, 1])).mono ?_
        rintro e w ⟨rfl, H⟩
        go_wp2_with fail
        go_roundw
        case rel => exact ⟨k + 1, by omega, by go_num, d, r, _, rfl, rfl, HB, H⟩
        case measure => simp [intOf]; omega
    · have g1 : ¬ (k : Int) < l.length := by omega
      have hn1 : (1 : Int) ≤ R.n := by have := HB.out.n1; omega
      have hn2 : (R.n : Int) ≤ 65536 := by have := HB.out.ok.n; omega
      have hX : ∀ v, Reads (OwnRow 5 1 v ((conv R).n.toNat * 512) (bv (img (conv R).sec (conv R).n.toNat))) v (img R.sec R.n) := fun v => reads_own_n (len_img HB.out.ok.len R.n)
      have hY : ∀ g, Reads (Blk g (.cells (bv (img R.sec R.n)).toArray 5 (0, 0))) (.slice (some ⟨g, 0, none⟩) (R.n * 512) (R.n * 512)) (img R.sec R.n) := fun g => reads_full (len_img HB.out.ok.len R.n) (by have := HB.out.ok.n; simp only [maxLen]; omega)
      go_wp2_with fail
      refine (held H).mono ?_
      rintro e w ⟨rfl, H⟩
      go_wp2_with fail
      refine (image hn1 hn2 HB.out.ok.len H).mono ?_
      rintro e w ⟨x, rfl, H⟩
      go_wp2_with fail
      refine (rimage HB.out.ok (H.sel 3 [2, 0, 1])).mono ?_
      rintro e w ⟨y, rfl, H⟩
      go_wp2_with fail
      refine (same H ((hX x).at_ H 2 rfl) ((hY y).at_ H 0 rfl)).mono ?_
      rintro e w ⟨rfl, H⟩
      rw [beq_self_eq_true]
      go_wp2_with fail
      go_ret3
      exact ⟨⟨d, r, rfl⟩, H.sel 5 [4]⟩
end
end Lw
end Go.Proofs.Ytbbkfneafonmiaa
