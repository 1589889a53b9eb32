/-
  DiskTorn.
-/
import Derived.Test.YtbbkfneafonmiaaLaw3
import Derived.Test.YtbbkfneafonmiaaReg4
import Derived.Test.YtbbkfneafonmiaaSteps
import Derived.ProofKit
namespace Go.Proofs.Ytbbkfneafonmiaa
open Go.Hp Go.RowKit Go.ChangeShapes Go.WideShapes
set_option linter.unusedVariables false
set_option linter.unusedSimpArgs false
namespace diskTorn

/-- Ahead of the literal, behind it, behind the first append, behind the second. -/
def jtwo (e : TypeId) (w0 : World) (L : List HProp) (n1 n2 : Nat) (r1 r2 : List Value) : List Value → World → Prop
  | [] => fun w => At w0 L w
  | [x] => fun w => At w0 (OwnRow e 1 x 0 [] :: L) w
  | [_, x] => fun w => At w0 (OwnRow e 1 x (0 + n1) ([] ++ r1) :: L) w
  | [_, _, x] => fun w => At w0 (OwnRow e 1 x (0 + n1 + n2) ([] ++ r1 ++ r2) :: L) w
  | _ => fun _ => False
theorem jtwo0 {e : TypeId} {w0 w : World} {L : List HProp} {n1 n2 : Nat} {r1 r2 : List Value} (H : At w0 L w) : jtwo e w0 L n1 n2 r1 r2 [] w.drew := H
open Dk Rf Lw
section
variable {W : World}

set_option maxRecDepth 100000 in
set_option maxHeartbeats 2000000 in
theorem walk {va vb vw vt vn : Value} {l m : List UInt8} (ha : BytesAt W va l ∧ l.length ≤ reachBytes) (hb : BytesAt W vb m ∧ m.length ≤ reachBytes)
    {c t n : Int} (hc : vw = .int .i64 c ∧ In64 c) (ht : vt = .int .i64 t ∧ In64 t) (hn : vn = .int .i64 n ∧ In64 n) :
    Calls Try.prog 5 #[va, vb, vw, vt, vn] W fun e w => e = .returned (.bool true) ∧ Below W.heap.size W w := by
  obtain ⟨rfl, c1, c2⟩ := hc
  obtain ⟨rfl, t1, t2⟩ := ht
  obtain ⟨rfl, r1, r2⟩ := hn
  have H := At.of W
  have hA := reads_arg ha.1
  have hB := reads_arg hb.1
  go_enter Try.func5, Try.ntmps5
  go_wp2_with fail
  refine (known H).mono ?_
  rintro e w ⟨rfl, H⟩
  go_wp2_with fail
  refine (new_yes H 4 (by omega) (by omega)).mono ?_
  rintro e w ⟨d, rfl, H⟩
  go_wp2_with fail
  refine (full hA 3 (H.pick 1 rfl)).mono ?_
  rintro e w ⟨ga, rfl, H⟩
  go_wp2_with fail
  refine (full hB 5 (H.pick 1 rfl)).mono ?_
  rintro e w ⟨gb, rfl, H⟩
  have hla := len_fullB l 3
  have hlb := len_fullB m 5
  replace H : At W (DiskAt d ⟨4, fun _ => zer, some none, 0, 0⟩ :: Blk ga (.cells (bv (fullB l 3)).toArray 5 (0, 0)) :: Blk gb (.cells (bv (fullB m 5)).toArray 5 (0, 0)) :: Arg W :: []) w := H.sel 4 [3, 2, 0, 1]
  generalize fullB l 3 = a at *
  generalize fullB m 5 = b at *
  clear hA hB ha hb
  have hA : Reads (Blk ga (.cells (bv a).toArray 5 (0, 0))) (.slice (some ⟨ga, 0, none⟩) 512 512) a := reads_full hla (by decide)
  have hB : Reads (Blk gb (.cells (bv b).toArray 5 (0, 0))) (.slice (some ⟨gb, 0, none⟩) 512 512) b := reads_full hlb (by decide)
  go_wp2_with fail
  go_loopw [15] (fun i wr => ∃ k : Nat, k ≤ 4 ∧ i = .int .i64 k ∧ ∃ s, Hid ((∀ m, (s m).length = 512) ∧ ∀ j : Int, 0 ≤ j → j < k → s j = a) ∧ At W (DiskAt d ⟨4, s, some none, 0, k⟩ :: Blk ga (.cells (bv a).toArray 5 (0, 0)) :: Blk gb (.cells (bv b).toArray 5 (0, 0)) :: Arg W :: []) wr) (fun i _ => 4 - (intOf i).toNat)
  case atStart => exact ⟨0, by omega, rfl, _, Lib.hid ⟨fun _ => len_zer, fun j h1 h2 => by omega⟩, H⟩
  case round =>
    clear H
    obtain ⟨k, hk, rfl, s, hs, H⟩ := hrel
    by_cases hlt : k < 4
    · have g1 : (k : Int) < 4 := by omega
      have hw := Lib.hid (written_steady (N := 4) (r := 0) (c := k) (c' := k + 1) (n := k) (s := s) (by omega) g1 hla (hs.out.1 _) (wrap64_in (by omega) (by omega)))
      go_wp2_with fail
      refine (write hA (D := ⟨4, s, some none, 0, k⟩) (by intro l t h; cases h) k H).mono ?_
      rintro e w ⟨rfl, H⟩
      rw [hw.out] at H ⊢
      dsimp only at H ⊢
      go_wp2_with fail
      go_roundw
      case rel =>
        refine ⟨k + 1, by omega, by go_num, _, Lib.hid ⟨upd_len hla hs.out.1, fun j j1 j2 => ?_⟩, H⟩
        unfold upd
        split
        · rfl
        · exact hs.out.2 j j1 (by omega)
      case measure => simp [intOf]; omega
    · have hk4 : k = 4 := by omega
      subst hk4
      go_wp2_with fail
      refine (round H n 4 r1 r2 (by omega) (by omega)).mono ?_
      rintro e w ⟨rfl, H⟩
      obtain ⟨p1, p2⟩ := rnd_range (v := n) (n := 4) (by omega)
      generalize rnd n 4 = p at *
      go_wp2_with fail
      refine (round H c 5 c1 c2 (by omega) (by omega)).mono ?_
      rintro e w ⟨rfl, H⟩
      obtain ⟨q1, q2⟩ := rnd_range (v := c) (n := 5) (by omega)
      generalize rnd c 5 = q at *
      obtain ⟨q, rfl⟩ := Int.eq_ofNat_of_zero_le q1
      go_wp2_with fail
      refine (arm H q t).mono ?_
      rintro e w ⟨rfl, H⟩
      have hx : armX q = q := by unfold armX; rw [if_neg (by omega)]
      have H : At W (DiskAt d ⟨4, s, some (some (armX q, armY t)), 0, (4 : Nat)⟩ :: Blk ga (.cells (bv a).toArray 5 (0, 0)) :: Blk gb (.cells (bv b).toArray 5 (0, 0)) :: Arg W :: []) w := H
      rw [hx] at H
      clear hx
      go_wp2_with fail
      go_loopw [18] (fun i wr => ∃ k : Nat, (k : Int) ≤ q ∧ i = .int .i64 k ∧ ∃ s, Hid ((∀ m, (s m).length = 512) ∧ ∀ j : Int, 0 ≤ j → j < 4 → s j = a) ∧ At W (DiskAt d ⟨4, s, some (some (q - k, armY t)), 0, 4 + k⟩ :: Blk ga (.cells (bv a).toArray 5 (0, 0)) :: Blk gb (.cells (bv b).toArray 5 (0, 0)) :: Arg W :: []) wr) (fun i _ => q - (intOf i).toNat)
      case atStart => exact ⟨0, by omega, rfl, s, Lib.hid ⟨hs.out.1, fun j h1 h2 => hs.out.2 j h1 h2⟩, by simpa using H⟩
      case round =>
        clear H hs
        obtain ⟨k, hk, rfl, s2, hs2, H⟩ := hrel
        have hT0 : 0 ≤ armY t := by unfold armY armX; split <;> split <;> omega
        have hT1 : armY t ≤ 512 := by unfold armY armX; split <;> split <;> omega
        by_cases hlt : (k : Int) < q
        · have hw := Lib.hid (written_left (N := 4) (r := 0) (c := 4 + k) (c' := 4 + (k + 1)) (n := p) (l := q - k) (t := armY t) (s := s2) p1 p2 hla (hs2.out.1 _) (by rw [wrap64_in (by omega) (by omega)]; omega) (by omega))
          go_wp2_with fail
          refine (write hA (D := ⟨4, s2, some (some (q - k, armY t)), 0, 4 + k⟩) (by intro l' t' h; cases h; exact ⟨by omega, by omega, hT0, hT1⟩) p H).mono ?_
          rintro e w ⟨rfl, H⟩
          rw [hw.out] at H ⊢
          dsimp only at H ⊢
          clear hw
          go_wp2_with fail
          refine (fallen H).mono ?_
          rintro e w ⟨rfl, H⟩
          dsimp only
          go_wp2_with fail
          go_roundw
          case rel =>
            refine ⟨k + 1, by omega, by go_num, upd s2 p a, Lib.hid ⟨upd_len hla hs2.out.1, fun j j1 j2 => ?_⟩, ?_⟩
            · unfold upd
              split
              · rfl
              · exact hs2.out.2 j j1 j2
            · have e1 : (q : Int) - ((k + 1 : Nat) : Int) = q - k - 1 := by omega
              have e2 : ((k + 1 : Nat) : Int) = k + 1 := by omega
              rw [e1, e2]
              exact H
          case measure => simp [intOf]; omega
        · have hkq : (k : Int) = q := by omega
          rw [hkq, Int.sub_self] at H
          by_cases ht0 : t < 0
          · have hT : Hid (armY t = ((0 : Nat) : Int)) := Lib.hid (by unfold armY armX; rw [if_pos ht0]; rfl)
            have hw := Lib.hid (written_torn (N := 4) (r := 0) (c := 4 + q) (c' := 5 + q) (n := p) (t := armY (t)) (s := s2) (b := b) p1 p2 hlb (by rw [wrap64_in (by omega) (by omega)]; omega))
            have hT2 : Hid ((armY (t)).toNat = 0) := Lib.hid (by rw [hT.out]; rfl)
            go_wp2_with fail
            refine (write hB (D := ⟨4, s2, some (some (0, armY (t))), 0, 4 + q⟩) (by intro l' t' h; cases h; exact ⟨Int.le_refl _, by decide, hT0, hT1⟩) p (H.sel 3 [0, 2, 1])).mono ?_
            rintro e w ⟨rfl, H⟩
            rw [hw.out, hT2.out] at H
            rw [hw.out]
            dsimp only at H ⊢
            have hlx : (b.take 0 ++ (s2 p).drop 0).length = 512 := by rw [List.length_append, List.length_take, List.length_drop, hs2.out.1, hlb]; omega
            have hsp : s2 p = a := hs2.out.2 p p1 p2
            rw [hsp] at H hlx
            have Hfin : Hid ((∀ m, (upd (upd s2 p (b.take 0 ++ a.drop 0)) (rnd (p + 1) 4) a m).length = 512) ∧ ∀ j : Int, 0 ≤ j → j < 4 → upd (upd s2 p (b.take 0 ++ a.drop 0)) (rnd (p + 1) 4) a j = if j = p then b.take 0 ++ a.drop 0 else a) := by
              refine Lib.hid ⟨upd_len hla (upd_len hlx hs2.out.1), fun j j1 j2 => ?_⟩
              unfold upd
              have hr : rnd (p + 1) 4 = (p + 1) % 4 := by unfold rnd; rw [if_neg (by decide)]
              rw [hr]
              by_cases hj : j = p
              · subst hj
                rw [if_neg (by omega), if_pos rfl, if_pos rfl]
              · rw [if_neg hj, if_neg hj]
                split
                · rfl
                · exact hs2.out.2 j j1 j2
            have hs3 := upd_len (n := p) hlx hs2.out.1
            have Hlx := Lib.hid hlx
            clear hsp hlx hw
            generalize (upd s2 p (b.take 0 ++ a.drop 0)) = s3 at *
            go_wp2_with fail
            refine (fallen H).mono ?_
            rintro e w ⟨rfl, H⟩
            dsimp only
            go_wp2_with fail
            refine (write_no hB p (by rw [mayE_fallen rfl]; decide) H).mono ?_
            rintro e w ⟨rfl, H⟩
            rw [mayE_fallen rfl]
            go_wp2_with fail
            refine (read_no H p (by rw [mayE_fallen rfl]; decide)).mono ?_
            rintro e w ⟨rfl, H⟩
            rw [mayE_fallen rfl]
            go_wp2_with fail
            refine (arm H 0 512).mono ?_
            rintro e w ⟨rfl, H⟩
            have H : At W (DiskAt d ⟨4, s3, none, 0, 5 + q⟩ :: Blk gb (.cells (bv b).toArray 5 (0, 0)) :: Blk ga (.cells (bv a).toArray 5 (0, 0)) :: Arg W :: []) w := H
            go_wp2_with fail
            refine (Dk.start H).mono ?_
            rintro e w ⟨rfl, H⟩
            have H : At W (DiskAt d ⟨4, s3, some none, 0, 5 + q⟩ :: Blk gb (.cells (bv b).toArray 5 (0, 0)) :: Blk ga (.cells (bv a).toArray 5 (0, 0)) :: Arg W :: []) w := H
            go_wp2_with fail
            refine (fallen H).mono ?_
            rintro e w ⟨rfl, H⟩
            dsimp only
            go_wp2_with fail
            refine (round H (p + 1) 4 (by omega) (by omega) (by omega) (by omega)).mono ?_
            rintro e w ⟨rfl, H⟩
            obtain ⟨z1, z2⟩ := rnd_range (v := p + 1) (n := 4) (by omega)
            generalize rnd (p + 1) 4 = z at *
            have hl3 : (s3 z).length = 512 := by
              have h := Hfin.out.1 z
              have h0 := hs3 z
              exact h0
            have hw := Lib.hid (written_steady (N := 4) (r := 0) (c := 5 + q) (c' := 6 + q) (n := z) (s := s3) (b := a) z1 z2 hla hl3 (by rw [wrap64_in (by omega) (by omega)]; omega))
            go_wp2_with fail
            refine (write hA (D := ⟨4, s3, some none, 0, 5 + q⟩) (by intro l' t' h; cases h) z (H.sel 3 [0, 2, 1])).mono ?_
            rintro e w ⟨rfl, H⟩
            rw [hw.out] at H ⊢
            dsimp only at H ⊢
            clear hw hl3 hs3
            generalize upd s3 z a = s4 at *
            replace H : At W (DiskAt d ⟨4, s4, some none, 0, 6 + q⟩ :: Blk ga (.cells (bv a).toArray 5 (0, 0)) :: Blk gb (.cells (bv b).toArray 5 (0, 0)) :: Arg W :: []) w := H
            go_wp2_with fail
            go_loopw [22] (fun i wr => ∃ k : Nat, k ≤ 4 ∧ i = .int .i64 k ∧ ∃ rd, At W (DiskAt d ⟨4, s4, some none, rd, 6 + q⟩ :: Blk ga (.cells (bv a).toArray 5 (0, 0)) :: Blk gb (.cells (bv b).toArray 5 (0, 0)) :: Arg W :: []) wr) (fun i _ => 4 - (intOf i).toNat)
            case atStart => exact ⟨0, by omega, rfl, 0, H⟩
            case round =>
              clear H
              obtain ⟨k3, hk3, rfl, rd, H⟩ := hrel
              by_cases hlt3 : k3 < 4
              · have g1 : (k3 : Int) < 4 := by omega
                have m0 : Hid (mayE ⟨4, s4, some none, rd, 6 + q⟩ k3 = 0) := Lib.hid (mayE_in rfl (by omega) g1)
                go_wp2_with fail
                refine (read_yes H k3 m0.out).mono ?_
                rintro e w ⟨cb, rfl, H⟩
                have H : At W (Blk cb (.cells (bv (s4 k3)).toArray 77 (0, 0)) :: DiskAt d ⟨4, s4, some none, wrap64 (rd + 1), 6 + q⟩ :: Blk ga (.cells (bv a).toArray 5 (0, 0)) :: Blk gb (.cells (bv b).toArray 5 (0, 0)) :: Arg W :: []) w := H
                have hC : Reads (Blk cb (.cells (bv (s4 k3)).toArray 77 (0, 0))) (.slice (some ⟨cb, 0, none⟩) 512 512) (s4 k3) := reads_full (Hfin.out.1 _) (by decide)
                have hval := Lib.hid (Hfin.out.2 k3 (by omega) g1)
                by_cases hkp : (k3 : Int) = p
                · have hbeq : ((k3 : Int) == p) = true := by simpa using hkp
                  go_wp2_with (first | (refine st_lit rfl _ _ _ rfl #[] 5 0 H ?_ ?_; (go_simp); (clear H; intro g1 w H K hK; replace H := own_mk (n := 0) (xs := []) (size := 1) H (Nat.le_refl _) (Nat.zero_le _) rfl rfl rfl; go_simp))      | (refine st_append rfl _ _ _ rfl 5 Try.underlying33 1 ?_ 1 ?_ (.int .u8 0) ?_ rfl _ _ _ rfl H _ _ _ (bv a) rfl ?_ ?_ (bv_one _) ?_ ?_ ?_; (kernel_rfl); (kernel_rfl); (kernel_rfl); (rw [length_bv, hla]); (intro _; exact ⟨_, rfl, cell_part (H.get 3 rfl) part_whole⟩); (decide); (decide); (clear H; intro v1 w H K hK; go_simp))      | (refine st_append rfl _ _ _ rfl 5 Try.underlying33 1 ?_ 1 ?_ (.int .u8 0) ?_ rfl _ _ _ rfl H _ _ _ (bv (b.take 0)) rfl ?_ ?_ (bv_one _) ?_ ?_ ?_; (kernel_rfl); (kernel_rfl); (kernel_rfl); (rw [length_bv, List.length_take, hlb]; omega); (intro _; exact ⟨_, rfl, cell_part (H.get 5 rfl) part_take⟩); (simp only [maxLen]; omega); (omega); (clear H; intro v2 w H K hK; go_simp))      | (refine st_append rfl _ _ _ rfl 5 Try.underlying33 1 ?_ 1 ?_ (.int .u8 0) ?_ rfl _ _ _ rfl H _ _ _ (bv (a.drop 0)) rfl ?_ ?_ (bv_one _) ?_ ?_ ?_; (kernel_rfl); (kernel_rfl); (kernel_rfl); (have e : (bv (a.drop (0))).length = 512 - 0 := (by rw [length_bv, List.length_drop, hla]); omega); (intro h0; first | (exact absurd h0 (by decide)) | (exact ⟨_, rfl, cell_part (H.get 4 rfl) part_drop⟩)); (simp only [maxLen]; omega); (omega); (clear H; intro v3 w H K hK; go_simp)))
                  refine wp_region_chain [0, 4, 8] (fun i => (#[1, 0, 0, 0, 2, 0, 0, 0, 3, 3] : Array Nat).getD i 0)          (fun xs i => (#[xs.getD 0 undef, .slice (some ⟨gb, 0, none⟩) 512 512, .int .i64 (0), .slice (some ⟨gb, 0, none⟩) 0 512, xs.getD 1 undef, .slice (some ⟨ga, 0, none⟩) 512 512, .int .i64 (0), .slice (some ⟨ga, 0, none⟩) 512 512, xs.getD 2 undef, xs.getD 2 undef] : Array Value).getD i undef)          (jtwo 5 W _ (0) (512 - 0) (bv (b.take (0))) (bv (a.drop (0)))) (by kernel_rfl) (by kernel_rfl) (by kernel_rfl) ?_ ?_ (jtwo0 H) ?_ ?_
                  · intro xs x j hj
                    match j, hj with
                    | 0, hj => exact getD_snoc hj
                    | 1, _ => rfl
                    | 2, _ => rfl
                    | 3, _ => rfl
                    | 4, hj => exact getD_snoc hj
                    | 5, _ => rfl
                    | 6, _ => rfl
                    | 7, _ => rfl
                    | 8, hj => exact getD_snoc hj
                    | 9, hj => exact getD_snoc hj
                    | n + 10, _ => rfl
                  · intro xs x m h1 h2
                    match xs, h1, h2 with
                    | [], _, h2 => cases h2; rfl
                    | [_], _, h2 => cases h2; rfl
                    | [_, _], _, h2 => cases h2; rfl
                  · refine ⟨chain_mk 0 rfl ?_, chain_pl rfl ?_, chain_pl rfl ?_, chain_pl rfl ?_, chain_mk 1 rfl ?_, chain_pl rfl ?_, chain_pl rfl ?_, chain_pl rfl ?_, chain_mk 2 rfl ?_, chain_pl rfl ?_, trivial⟩
                    all_goals first
                      | (intro xs h1 h2; refine (if_pos (by rfl)).mpr ?_; intro T' ds w K H hkn ho hK)
                      | (intro xs hx; rcases xs with _ | ⟨x0, _ | ⟨x1, _ | ⟨x2, xs⟩⟩⟩ <;> (try (exfalso; simp only [List.length_cons, List.length_nil] at hx; omega)); refine ⟨rfl, ?_⟩; intro T' ds w K H hkn ho hK)
                    all_goals
                      have o13 := ho 13 (by kernel_rfl)
                      have o14 := ho 14 (by kernel_rfl)
                      have o19 := ho 19 (by kernel_rfl)
                      clear ho
                      simp [know, dstAt, Region.binds] at hkn o13 o14 o19
                    all_goals first
                      | (go_simp; exact hK _ H)
                      | (refine op_value (v := .slice (some ⟨w.heap.size, 0, none⟩) 0 0) (w' := w.alloc (.cells #[] 5)) (by go_simp) ?_; exact hK _ _ (own_mk (At.alloc (show At W _ w from H) _) (Nat.le_refl _) (Nat.zero_le _) rfl rfl rfl))
                      | (replace H : At W (OwnRow 5 1 x0 0 [] :: _ :: _ :: _ :: Blk ga _ :: Blk gb _ :: _) w := H; refine op_append _ _ _ rfl 5 Try.underlying33 1 ?_ 1 ?_ (.int .u8 0) ?_ rfl x0 0 [] (by simp [Act.eval, hkn]) H (some ⟨gb, 0, none⟩) 0 512 (bv (b.take (0))) (by simp [Act.eval, hkn]) ?_ ?_ (bv_one _) ?_ ?_ ?_; (kernel_rfl); (kernel_rfl); (kernel_rfl); (rw [length_bv, List.length_take, hlb]; omega); (intro _; exact ⟨_, rfl, cell_part (H.get 5 rfl) part_take⟩); (simp only [maxLen]; omega); (omega); (intro x w H; exact hK _ _ H))
                      | (replace H : At W (OwnRow 5 1 x1 (0 + 0) ([] ++ bv (b.take (0))) :: _ :: _ :: _ :: Blk ga _ :: Blk gb _ :: _) w := H; refine op_append _ _ _ rfl 5 Try.underlying33 1 ?_ 1 ?_ (.int .u8 0) ?_ rfl x1 _ _ (by simp [Act.eval, hkn]) H (some ⟨ga, 0, none⟩) 512 512 (bv (a.drop (0))) (by simp [Act.eval, hkn]) ?_ ?_ (bv_one _) ?_ ?_ ?_; (kernel_rfl); (kernel_rfl); (kernel_rfl); (have e : (bv (a.drop (0))).length = 512 - 0 := (by rw [length_bv, List.length_drop, hla]); omega); (intro h0; first | (exact absurd h0 (by decide)) | (exact ⟨_, rfl, cell_part (H.get 4 rfl) part_drop⟩)); (simp only [maxLen]; omega); (omega); (intro x w H; exact hK _ _ H))
                      | skip
                  · intro xs w hx H
                    match xs, hx with
                    | [x0, x1, x2], _ =>
                      replace H : At W (OwnRow 5 1 x2 (0 + 0 + (512 - 0)) ([] ++ bv (b.take (0)) ++ bv (a.drop (0))) :: OwnRow 5 1 v1 (0 + 512) ([] ++ bv a) :: Blk cb (.cells (bv (s4 k3)).toArray 77 (0, 0)) :: DiskAt d ⟨4, s4, some none, wrap64 (rd + 1), 6 + q⟩ :: Blk ga (.cells (bv a).toArray 5 (0, 0)) :: Blk gb (.cells (bv b).toArray 5 (0, 0)) :: Arg W :: []) w := H
                      have hWant : Reads (OwnRow 5 1 x2 (0 + 0 + (512 - 0)) ([] ++ bv (b.take (0)) ++ bv (a.drop (0)))) x2 (b.take (0) ++ a.drop (0)) := by
                        have h := reads_own_n (v := x2) (l := b.take (0) ++ a.drop (0)) (t := 5) (n := 0 + 0 + (512 - 0)) (by rw [List.length_append, List.length_take, List.length_drop, hla, hlb]; omega)
                        rw [bv_append] at h
                        exact h
                      simp [putAll, Act.put]
                      go_wp2_with fail
                      refine (same H (hC.at_ H 2 rfl) (hWant.at_ H 0 rfl)).mono ?_
                      rintro e w ⟨rfl, H⟩
                      have hbe : (s4 k3 == b.take (0) ++ a.drop (0)) = true := by rw [hval.out, if_pos hkp]; exact beq_self_eq_true _
                      rw [hbe]
                      go_wp2_with fail
                      go_roundw
                      case rel => exact ⟨k3 + 1, by omega, by go_num, _, H.sel 6 [3, 4, 5]⟩
                      case measure => simp [intOf]; omega
                · have hbeq : ((k3 : Int) == p) = false := by simpa using hkp
                  go_wp2_with (first | (refine st_lit rfl _ _ _ rfl #[] 5 0 H ?_ ?_; (go_simp); (clear H; intro g1 w H K hK; replace H := own_mk (n := 0) (xs := []) (size := 1) H (Nat.le_refl _) (Nat.zero_le _) rfl rfl rfl; go_simp))      | (refine st_append rfl _ _ _ rfl 5 Try.underlying33 1 ?_ 1 ?_ (.int .u8 0) ?_ rfl _ _ _ rfl H _ _ _ (bv a) rfl ?_ ?_ (bv_one _) ?_ ?_ ?_; (kernel_rfl); (kernel_rfl); (kernel_rfl); (rw [length_bv, hla]); (intro _; exact ⟨_, rfl, cell_part (H.get 3 rfl) part_whole⟩); (decide); (decide); (clear H; intro v1 w H K hK; go_simp))      | (refine st_append rfl _ _ _ rfl 5 Try.underlying33 1 ?_ 1 ?_ (.int .u8 0) ?_ rfl _ _ _ rfl H _ _ _ (bv (b.take 0)) rfl ?_ ?_ (bv_one _) ?_ ?_ ?_; (kernel_rfl); (kernel_rfl); (kernel_rfl); (rw [length_bv, List.length_take, hlb]; omega); (intro _; exact ⟨_, rfl, cell_part (H.get 5 rfl) part_take⟩); (simp only [maxLen]; omega); (omega); (clear H; intro v2 w H K hK; go_simp))      | (refine st_append rfl _ _ _ rfl 5 Try.underlying33 1 ?_ 1 ?_ (.int .u8 0) ?_ rfl _ _ _ rfl H _ _ _ (bv (a.drop 0)) rfl ?_ ?_ (bv_one _) ?_ ?_ ?_; (kernel_rfl); (kernel_rfl); (kernel_rfl); (have e : (bv (a.drop (0))).length = 512 - 0 := (by rw [length_bv, List.length_drop, hla]); omega); (intro h0; first | (exact absurd h0 (by decide)) | (exact ⟨_, rfl, cell_part (H.get 4 rfl) part_drop⟩)); (simp only [maxLen]; omega); (omega); (clear H; intro v3 w H K hK; go_simp)))
                  have hWant : Reads (OwnRow 5 1 v1 (0 + 512) ([] ++ bv a)) v1 a := reads_own_n hla
                  refine (same H (hC.at_ H 1 rfl) (hWant.at_ H 0 rfl)).mono ?_
                  rintro e w ⟨rfl, H⟩
                  have hbe : (s4 k3 == a) = true := by rw [hval.out, if_neg hkp]; exact beq_self_eq_true _
                  rw [hbe]
                  go_wp2_with fail
                  go_roundw
                  case rel => exact ⟨k3 + 1, by omega, by go_num, _, H.sel 5 [2, 3, 4]⟩
                  case measure => simp [intOf]; omega
              · have hk4 : k3 = 4 := by omega
                subst hk4
                go_wp2_with fail
                go_ret
                exact ⟨rfl, H.below 3 rfl⟩
          by_cases ht1 : 512 < t
          · have hT : Hid (armY t = ((512 : Nat) : Int)) := Lib.hid (by unfold armY armX; rw [if_neg ht0, if_pos ht1]; rfl)
            have hw := Lib.hid (written_torn (N := 4) (r := 0) (c := 4 + q) (c' := 5 + q) (n := p) (t := armY (t)) (s := s2) (b := b) p1 p2 hlb (by rw [wrap64_in (by omega) (by omega)]; omega))
            have hT2 : Hid ((armY (t)).toNat = 512) := Lib.hid (by rw [hT.out]; rfl)
            go_wp2_with fail
            refine (write hB (D := ⟨4, s2, some (some (0, armY (t))), 0, 4 + q⟩) (by intro l' t' h; cases h; exact ⟨Int.le_refl _, by decide, hT0, hT1⟩) p (H.sel 3 [0, 2, 1])).mono ?_
            rintro e w ⟨rfl, H⟩
            rw [hw.out, hT2.out] at H
            rw [hw.out]
            dsimp only at H ⊢
            have hlx : (b.take 512 ++ (s2 p).drop 512).length = 512 := by rw [List.length_append, List.length_take, List.length_drop, hs2.out.1, hlb]; omega
            have hsp : s2 p = a := hs2.out.2 p p1 p2
            rw [hsp] at H hlx
            have Hfin : Hid ((∀ m, (upd (upd s2 p (b.take 512 ++ a.drop 512)) (rnd (p + 1) 4) a m).length = 512) ∧ ∀ j : Int, 0 ≤ j → j < 4 → upd (upd s2 p (b.take 512 ++ a.drop 512)) (rnd (p + 1) 4) a j = if j = p then b.take 512 ++ a.drop 512 else a) := by
              refine Lib.hid ⟨upd_len hla (upd_len hlx hs2.out.1), fun j j1 j2 => ?_⟩
              unfold upd
              have hr : rnd (p + 1) 4 = (p + 1) % 4 := by unfold rnd; rw [if_neg (by decide)]
              rw [hr]
              by_cases hj : j = p
              · subst hj
                rw [if_neg (by omega), if_pos rfl, if_pos rfl]
              · rw [if_neg hj, if_neg hj]
                split
                · rfl
                · exact hs2.out.2 j j1 j2
            have hs3 := upd_len (n := p) hlx hs2.out.1
            have Hlx := Lib.hid hlx
            clear hsp hlx hw
            generalize (upd s2 p (b.take 512 ++ a.drop 512)) = s3 at *
            go_wp2_with fail
            refine (fallen H).mono ?_
            rintro e w ⟨rfl, H⟩
            dsimp only
            go_wp2_with fail
            refine (write_no hB p (by rw [mayE_fallen rfl]; decide) H).mono ?_
            rintro e w ⟨rfl, H⟩
            rw [mayE_fallen rfl]
            go_wp2_with fail
            refine (read_no H p (by rw [mayE_fallen rfl]; decide)).mono ?_
            rintro e w ⟨rfl, H⟩
            rw [mayE_fallen rfl]
            go_wp2_with fail
            refine (arm H 0 512).mono ?_
            rintro e w ⟨rfl, H⟩
            have H : At W (DiskAt d ⟨4, s3, none, 0, 5 + q⟩ :: Blk gb (.cells (bv b).toArray 5 (0, 0)) :: Blk ga (.cells (bv a).toArray 5 (0, 0)) :: Arg W :: []) w := H
            go_wp2_with fail
            refine (Dk.start H).mono ?_
            rintro e w ⟨rfl, H⟩
            have H : At W (DiskAt d ⟨4, s3, some none, 0, 5 + q⟩ :: Blk gb (.cells (bv b).toArray 5 (0, 0)) :: Blk ga (.cells (bv a).toArray 5 (0, 0)) :: Arg W :: []) w := H
            go_wp2_with fail
            refine (fallen H).mono ?_
            rintro e w ⟨rfl, H⟩
            dsimp only
            go_wp2_with fail
            refine (round H (p + 1) 4 (by omega) (by omega) (by omega) (by omega)).mono ?_
            rintro e w ⟨rfl, H⟩
            obtain ⟨z1, z2⟩ := rnd_range (v := p + 1) (n := 4) (by omega)
            generalize rnd (p + 1) 4 = z at *
            have hl3 : (s3 z).length = 512 := by
              have h := Hfin.out.1 z
              have h0 := hs3 z
              exact h0
            have hw := Lib.hid (written_steady (N := 4) (r := 0) (c := 5 + q) (c' := 6 + q) (n := z) (s := s3) (b := a) z1 z2 hla hl3 (by rw [wrap64_in (by omega) (by omega)]; omega))
            go_wp2_with fail
            refine (write hA (D := ⟨4, s3, some none, 0, 5 + q⟩) (by intro l' t' h; cases h) z (H.sel 3 [0, 2, 1])).mono ?_
            rintro e w ⟨rfl, H⟩
            rw [hw.out] at H ⊢
            dsimp only at H ⊢
            clear hw hl3 hs3
            generalize upd s3 z a = s4 at *
            replace H : At W (DiskAt d ⟨4, s4, some none, 0, 6 + q⟩ :: Blk ga (.cells (bv a).toArray 5 (0, 0)) :: Blk gb (.cells (bv b).toArray 5 (0, 0)) :: Arg W :: []) w := H
            go_wp2_with fail
            go_loopw [22] (fun i wr => ∃ k : Nat, k ≤ 4 ∧ i = .int .i64 k ∧ ∃ rd, At W (DiskAt d ⟨4, s4, some none, rd, 6 + q⟩ :: Blk ga (.cells (bv a).toArray 5 (0, 0)) :: Blk gb (.cells (bv b).toArray 5 (0, 0)) :: Arg W :: []) wr) (fun i _ => 4 - (intOf i).toNat)
            case atStart => exact ⟨0, by omega, rfl, 0, H⟩
            case round =>
              clear H
              obtain ⟨k3, hk3, rfl, rd, H⟩ := hrel
              by_cases hlt3 : k3 < 4
              · have g1 : (k3 : Int) < 4 := by omega
                have m0 : Hid (mayE ⟨4, s4, some none, rd, 6 + q⟩ k3 = 0) := Lib.hid (mayE_in rfl (by omega) g1)
                go_wp2_with fail
                refine (read_yes H k3 m0.out).mono ?_
                rintro e w ⟨cb, rfl, H⟩
                have H : At W (Blk cb (.cells (bv (s4 k3)).toArray 77 (0, 0)) :: DiskAt d ⟨4, s4, some none, wrap64 (rd + 1), 6 + q⟩ :: Blk ga (.cells (bv a).toArray 5 (0, 0)) :: Blk gb (.cells (bv b).toArray 5 (0, 0)) :: Arg W :: []) w := H
                have hC : Reads (Blk cb (.cells (bv (s4 k3)).toArray 77 (0, 0))) (.slice (some ⟨cb, 0, none⟩) 512 512) (s4 k3) := reads_full (Hfin.out.1 _) (by decide)
                have hval := Lib.hid (Hfin.out.2 k3 (by omega) g1)
                by_cases hkp : (k3 : Int) = p
                · have hbeq : ((k3 : Int) == p) = true := by simpa using hkp
                  go_wp2_with (first | (refine st_lit rfl _ _ _ rfl #[] 5 0 H ?_ ?_; (go_simp); (clear H; intro g1 w H K hK; replace H := own_mk (n := 0) (xs := []) (size := 1) H (Nat.le_refl _) (Nat.zero_le _) rfl rfl rfl; go_simp))      | (refine st_append rfl _ _ _ rfl 5 Try.underlying33 1 ?_ 1 ?_ (.int .u8 0) ?_ rfl _ _ _ rfl H _ _ _ (bv a) rfl ?_ ?_ (bv_one _) ?_ ?_ ?_; (kernel_rfl); (kernel_rfl); (kernel_rfl); (rw [length_bv, hla]); (intro _; exact ⟨_, rfl, cell_part (H.get 3 rfl) part_whole⟩); (decide); (decide); (clear H; intro v1 w H K hK; go_simp))      | (refine st_append rfl _ _ _ rfl 5 Try.underlying33 1 ?_ 1 ?_ (.int .u8 0) ?_ rfl _ _ _ rfl H _ _ _ (bv (b.take 512)) rfl ?_ ?_ (bv_one _) ?_ ?_ ?_; (kernel_rfl); (kernel_rfl); (kernel_rfl); (rw [length_bv, List.length_take, hlb]; omega); (intro _; exact ⟨_, rfl, cell_part (H.get 5 rfl) part_take⟩); (simp only [maxLen]; omega); (omega); (clear H; intro v2 w H K hK; go_simp))      | (refine st_append rfl _ _ _ rfl 5 Try.underlying33 1 ?_ 1 ?_ (.int .u8 0) ?_ rfl _ _ _ rfl H _ _ _ (bv (a.drop 512)) rfl ?_ ?_ (bv_one _) ?_ ?_ ?_; (kernel_rfl); (kernel_rfl); (kernel_rfl); (have e : (bv (a.drop (512))).length = 512 - 512 := (by rw [length_bv, List.length_drop, hla]); omega); (intro h0; first | (exact absurd h0 (by decide)) | (exact ⟨_, rfl, cell_part (H.get 4 rfl) part_drop⟩)); (simp only [maxLen]; omega); (omega); (clear H; intro v3 w H K hK; go_simp)))
                  refine wp_region_chain [0, 4, 8] (fun i => (#[1, 0, 0, 0, 2, 0, 0, 0, 3, 3] : Array Nat).getD i 0)          (fun xs i => (#[xs.getD 0 undef, .slice (some ⟨gb, 0, none⟩) 512 512, .int .i64 (512), .slice (some ⟨gb, 0, none⟩) 512 512, xs.getD 1 undef, .slice (some ⟨ga, 0, none⟩) 512 512, .int .i64 (512), .slice (some ⟨ga, 0, none⟩) 0 0, xs.getD 2 undef, xs.getD 2 undef] : Array Value).getD i undef)          (jtwo 5 W _ (512) (512 - 512) (bv (b.take (512))) (bv (a.drop (512)))) (by kernel_rfl) (by kernel_rfl) (by kernel_rfl) ?_ ?_ (jtwo0 H) ?_ ?_
                  · intro xs x j hj
                    match j, hj with
                    | 0, hj => exact getD_snoc hj
                    | 1, _ => rfl
                    | 2, _ => rfl
                    | 3, _ => rfl
                    | 4, hj => exact getD_snoc hj
                    | 5, _ => rfl
                    | 6, _ => rfl
                    | 7, _ => rfl
                    | 8, hj => exact getD_snoc hj
                    | 9, hj => exact getD_snoc hj
                    | n + 10, _ => rfl
                  · intro xs x m h1 h2
                    match xs, h1, h2 with
                    | [], _, h2 => cases h2; rfl
                    | [_], _, h2 => cases h2; rfl
                    | [_, _], _, h2 => cases h2; rfl
                  · refine ⟨chain_mk 0 rfl ?_, chain_pl rfl ?_, chain_pl rfl ?_, chain_pl rfl ?_, chain_mk 1 rfl ?_, chain_pl rfl ?_, chain_pl rfl ?_, chain_pl rfl ?_, chain_mk 2 rfl ?_, chain_pl rfl ?_, trivial⟩
                    all_goals first
                      | (intro xs h1 h2; refine (if_pos (by rfl)).mpr ?_; intro T' ds w K H hkn ho hK)
                      | (intro xs hx; rcases xs with _ | ⟨x0, _ | ⟨x1, _ | ⟨x2, xs⟩⟩⟩ <;> (try (exfalso; simp only [List.length_cons, List.length_nil] at hx; omega)); refine ⟨rfl, ?_⟩; intro T' ds w K H hkn ho hK)
                    all_goals
                      have o13 := ho 13 (by kernel_rfl)
                      have o14 := ho 14 (by kernel_rfl)
                      have o19 := ho 19 (by kernel_rfl)
                      clear ho
                      simp [know, dstAt, Region.binds] at hkn o13 o14 o19
                    all_goals first
                      | (go_simp; exact hK _ H)
                      | (refine op_value (v := .slice (some ⟨w.heap.size, 0, none⟩) 0 0) (w' := w.alloc (.cells #[] 5)) (by go_simp) ?_; exact hK _ _ (own_mk (At.alloc (show At W _ w from H) _) (Nat.le_refl _) (Nat.zero_le _) rfl rfl rfl))
                      | (replace H : At W (OwnRow 5 1 x0 0 [] :: _ :: _ :: _ :: Blk ga _ :: Blk gb _ :: _) w := H; refine op_append _ _ _ rfl 5 Try.underlying33 1 ?_ 1 ?_ (.int .u8 0) ?_ rfl x0 0 [] (by simp [Act.eval, hkn]) H (some ⟨gb, 0, none⟩) 512 512 (bv (b.take (512))) (by simp [Act.eval, hkn]) ?_ ?_ (bv_one _) ?_ ?_ ?_; (kernel_rfl); (kernel_rfl); (kernel_rfl); (rw [length_bv, List.length_take, hlb]; omega); (intro _; exact ⟨_, rfl, cell_part (H.get 5 rfl) part_take⟩); (simp only [maxLen]; omega); (omega); (intro x w H; exact hK _ _ H))
                      | (replace H : At W (OwnRow 5 1 x1 (0 + 512) ([] ++ bv (b.take (512))) :: _ :: _ :: _ :: Blk ga _ :: Blk gb _ :: _) w := H; refine op_append _ _ _ rfl 5 Try.underlying33 1 ?_ 1 ?_ (.int .u8 0) ?_ rfl x1 _ _ (by simp [Act.eval, hkn]) H (some ⟨ga, 0, none⟩) 0 0 (bv (a.drop (512))) (by simp [Act.eval, hkn]) ?_ ?_ (bv_one _) ?_ ?_ ?_; (kernel_rfl); (kernel_rfl); (kernel_rfl); (have e : (bv (a.drop (512))).length = 512 - 512 := (by rw [length_bv, List.length_drop, hla]); omega); (intro h0; first | (exact absurd h0 (by decide)) | (exact ⟨_, rfl, cell_part (H.get 4 rfl) part_drop⟩)); (simp only [maxLen]; omega); (omega); (intro x w H; exact hK _ _ H))
                      | skip
                  · intro xs w hx H
                    match xs, hx with
                    | [x0, x1, x2], _ =>
                      replace H : At W (OwnRow 5 1 x2 (0 + 512 + (512 - 512)) ([] ++ bv (b.take (512)) ++ bv (a.drop (512))) :: OwnRow 5 1 v1 (0 + 512) ([] ++ bv a) :: Blk cb (.cells (bv (s4 k3)).toArray 77 (0, 0)) :: DiskAt d ⟨4, s4, some none, wrap64 (rd + 1), 6 + q⟩ :: Blk ga (.cells (bv a).toArray 5 (0, 0)) :: Blk gb (.cells (bv b).toArray 5 (0, 0)) :: Arg W :: []) w := H
                      have hWant : Reads (OwnRow 5 1 x2 (0 + 512 + (512 - 512)) ([] ++ bv (b.take (512)) ++ bv (a.drop (512)))) x2 (b.take (512) ++ a.drop (512)) := by
                        have h := reads_own_n (v := x2) (l := b.take (512) ++ a.drop (512)) (t := 5) (n := 0 + 512 + (512 - 512)) (by rw [List.length_append, List.length_take, List.length_drop, hla, hlb]; omega)
                        rw [bv_append] at h
                        exact h
                      simp [putAll, Act.put]
                      go_wp2_with fail
                      refine (same H (hC.at_ H 2 rfl) (hWant.at_ H 0 rfl)).mono ?_
                      rintro e w ⟨rfl, H⟩
                      have hbe : (s4 k3 == b.take (512) ++ a.drop (512)) = true := by rw [hval.out, if_pos hkp]; exact beq_self_eq_true _
                      rw [hbe]
                      go_wp2_with fail
                      go_roundw
                      case rel => exact ⟨k3 + 1, by omega, by go_num, _, H.sel 6 [3, 4, 5]⟩
                      case measure => simp [intOf]; omega
                · have hbeq : ((k3 : Int) == p) = false := by simpa using hkp
                  go_wp2_with (first | (refine st_lit rfl _ _ _ rfl #[] 5 0 H ?_ ?_; (go_simp); (clear H; intro g1 w H K hK; replace H := own_mk (n := 0) (xs := []) (size := 1) H (Nat.le_refl _) (Nat.zero_le _) rfl rfl rfl; go_simp))      | (refine st_append rfl _ _ _ rfl 5 Try.underlying33 1 ?_ 1 ?_ (.int .u8 0) ?_ rfl _ _ _ rfl H _ _ _ (bv a) rfl ?_ ?_ (bv_one _) ?_ ?_ ?_; (kernel_rfl); (kernel_rfl); (kernel_rfl); (rw [length_bv, hla]); (intro _; exact ⟨_, rfl, cell_part (H.get 3 rfl) part_whole⟩); (decide); (decide); (clear H; intro v1 w H K hK; go_simp))      | (refine st_append rfl _ _ _ rfl 5 Try.underlying33 1 ?_ 1 ?_ (.int .u8 0) ?_ rfl _ _ _ rfl H _ _ _ (bv (b.take 512)) rfl ?_ ?_ (bv_one _) ?_ ?_ ?_; (kernel_rfl); (kernel_rfl); (kernel_rfl); (rw [length_bv, List.length_take, hlb]; omega); (intro _; exact ⟨_, rfl, cell_part (H.get 5 rfl) part_take⟩); (simp only [maxLen]; omega); (omega); (clear H; intro v2 w H K hK; go_simp))      | (refine st_append rfl _ _ _ rfl 5 Try.underlying33 1 ?_ 1 ?_ (.int .u8 0) ?_ rfl _ _ _ rfl H _ _ _ (bv (a.drop 512)) rfl ?_ ?_ (bv_one _) ?_ ?_ ?_; (kernel_rfl); (kernel_rfl); (kernel_rfl); (have e : (bv (a.drop (512))).length = 512 - 512 := (by rw [length_bv, List.length_drop, hla]); omega); (intro h0; first | (exact absurd h0 (by decide)) | (exact ⟨_, rfl, cell_part (H.get 4 rfl) part_drop⟩)); (simp only [maxLen]; omega); (omega); (clear H; intro v3 w H K hK; go_simp)))
                  have hWant : Reads (OwnRow 5 1 v1 (0 + 512) ([] ++ bv a)) v1 a := reads_own_n hla
                  refine (same H (hC.at_ H 1 rfl) (hWant.at_ H 0 rfl)).mono ?_
                  rintro e w ⟨rfl, H⟩
                  have hbe : (s4 k3 == a) = true := by rw [hval.out, if_neg hkp]; exact beq_self_eq_true _
                  rw [hbe]
                  go_wp2_with fail
                  go_roundw
                  case rel => exact ⟨k3 + 1, by omega, by go_num, _, H.sel 5 [2, 3, 4]⟩
                  case measure => simp [intOf]; omega
              · have hk4 : k3 = 4 := by omega
                subst hk4
                go_wp2_with fail
                go_ret
                exact ⟨rfl, H.below 3 rfl⟩
          by_cases ht2 : t = 512
          · subst ht2
            have hT : Hid (armY 512 = ((512 : Nat) : Int)) := Lib.hid rfl
            have hw := Lib.hid (written_torn (N := 4) (r := 0) (c := 4 + q) (c' := 5 + q) (n := p) (t := armY (512)) (s := s2) (b := b) p1 p2 hlb (by rw [wrap64_in (by omega) (by omega)]; omega))
            have hT2 : Hid ((armY (512)).toNat = 512) := Lib.hid (by rw [hT.out]; rfl)
            go_wp2_with fail
            refine (write hB (D := ⟨4, s2, some (some (0, armY (512))), 0, 4 + q⟩) (by intro l' t' h; cases h; exact ⟨Int.le_refl _, by decide, hT0, hT1⟩) p (H.sel 3 [0, 2, 1])).mono ?_
            rintro e w ⟨rfl, H⟩
            rw [hw.out, hT2.out] at H
            rw [hw.out]
            dsimp only at H ⊢
            have hlx : (b.take 512 ++ (s2 p).drop 512).length = 512 := by rw [List.length_append, List.length_take, List.length_drop, hs2.out.1, hlb]; omega
            have hsp : s2 p = a := hs2.out.2 p p1 p2
            rw [hsp] at H hlx
            have Hfin : Hid ((∀ m, (upd (upd s2 p (b.take 512 ++ a.drop 512)) (rnd (p + 1) 4) a m).length = 512) ∧ ∀ j : Int, 0 ≤ j → j < 4 → upd (upd s2 p (b.take 512 ++ a.drop 512)) (rnd (p + 1) 4) a j = if j = p then b.take 512 ++ a.drop 512 else a) := by
              refine Lib.hid ⟨upd_len hla (upd_len hlx hs2.out.1), fun j j1 j2 => ?_⟩
              unfold upd
              have hr : rnd (p + 1) 4 = (p + 1) % 4 := by unfold rnd; rw [if_neg (by decide)]
              rw [hr]
              by_cases hj : j = p
              · subst hj
                rw [if_neg (by omega), if_pos rfl, if_pos rfl]
              · rw [if_neg hj, if_neg hj]
                split
                · rfl
                · exact hs2.out.2 j j1 j2
            have hs3 := upd_len (n := p) hlx hs2.out.1
            have Hlx := Lib.hid hlx
            clear hsp hlx hw
            generalize (upd s2 p (b.take 512 ++ a.drop 512)) = s3 at *
            go_wp2_with fail
            refine (fallen H).mono ?_
            rintro e w ⟨rfl, H⟩
            dsimp only
            go_wp2_with fail
            refine (write_no hB p (by rw [mayE_fallen rfl]; decide) H).mono ?_
            rintro e w ⟨rfl, H⟩
            rw [mayE_fallen rfl]
            go_wp2_with fail
            refine (read_no H p (by rw [mayE_fallen rfl]; decide)).mono ?_
            rintro e w ⟨rfl, H⟩
            rw [mayE_fallen rfl]
            go_wp2_with fail
            refine (arm H 0 512).mono ?_
            rintro e w ⟨rfl, H⟩
            have H : At W (DiskAt d ⟨4, s3, none, 0, 5 + q⟩ :: Blk gb (.cells (bv b).toArray 5 (0, 0)) :: Blk ga (.cells (bv a).toArray 5 (0, 0)) :: Arg W :: []) w := H
            go_wp2_with fail
            refine (Dk.start H).mono ?_
            rintro e w ⟨rfl, H⟩
            have H : At W (DiskAt d ⟨4, s3, some none, 0, 5 + q⟩ :: Blk gb (.cells (bv b).toArray 5 (0, 0)) :: Blk ga (.cells (bv a).toArray 5 (0, 0)) :: Arg W :: []) w := H
            go_wp2_with fail
            refine (fallen H).mono ?_
            rintro e w ⟨rfl, H⟩
            dsimp only
            go_wp2_with fail
            refine (round H (p + 1) 4 (by omega) (by omega) (by omega) (by omega)).mono ?_
            rintro e w ⟨rfl, H⟩
            obtain ⟨z1, z2⟩ := rnd_range (v := p + 1) (n := 4) (by omega)
            generalize rnd (p + 1) 4 = z at *
            have hl3 : (s3 z).length = 512 := by
              have h := Hfin.out.1 z
              have h0 := hs3 z
              exact h0
            have hw := Lib.hid (written_steady (N := 4) (r := 0) (c := 5 + q) (c' := 6 + q) (n := z) (s := s3) (b := a) z1 z2 hla hl3 (by rw [wrap64_in (by omega) (by omega)]; omega))
            go_wp2_with fail
            refine (write hA (D := ⟨4, s3, some none, 0, 5 + q⟩) (by intro l' t' h; cases h) z (H.sel 3 [0, 2, 1])).mono ?_
            rintro e w ⟨rfl, H⟩
            rw [hw.out] at H ⊢
            dsimp only at H ⊢
            clear hw hl3 hs3
            generalize upd s3 z a = s4 at *
            replace H : At W (DiskAt d ⟨4, s4, some none, 0, 6 + q⟩ :: Blk ga (.cells (bv a).toArray 5 (0, 0)) :: Blk gb (.cells (bv b).toArray 5 (0, 0)) :: Arg W :: []) w := H
            go_wp2_with fail
            go_loopw [22] (fun i wr => ∃ k : Nat, k ≤ 4 ∧ i = .int .i64 k ∧ ∃ rd, At W (DiskAt d ⟨4, s4, some none, rd, 6 + q⟩ :: Blk ga (.cells (bv a).toArray 5 (0, 0)) :: Blk gb (.cells (bv b).toArray 5 (0, 0)) :: Arg W :: []) wr) (fun i _ => 4 - (intOf i).toNat)
            case atStart => exact ⟨0, by omega, rfl, 0, H⟩
            case round =>
              clear H
              obtain ⟨k3, hk3, rfl, rd, H⟩ := hrel
              by_cases hlt3 : k3 < 4
              · have g1 : (k3 : Int) < 4 := by omega
                have m0 : Hid (mayE ⟨4, s4, some none, rd, 6 + q⟩ k3 = 0) := Lib.hid (mayE_in rfl (by omega) g1)
                go_wp2_with fail
                refine (read_yes H k3 m0.out).mono ?_
                rintro e w ⟨cb, rfl, H⟩
                have H : At W (Blk cb (.cells (bv (s4 k3)).toArray 77 (0, 0)) :: DiskAt d ⟨4, s4, some none, wrap64 (rd + 1), 6 + q⟩ :: Blk ga (.cells (bv a).toArray 5 (0, 0)) :: Blk gb (.cells (bv b).toArray 5 (0, 0)) :: Arg W :: []) w := H
                have hC : Reads (Blk cb (.cells (bv (s4 k3)).toArray 77 (0, 0))) (.slice (some ⟨cb, 0, none⟩) 512 512) (s4 k3) := reads_full (Hfin.out.1 _) (by decide)
                have hval := Lib.hid (Hfin.out.2 k3 (by omega) g1)
                by_cases hkp : (k3 : Int) = p
                · have hbeq : ((k3 : Int) == p) = true := by simpa using hkp
                  go_wp2_with (first | (refine st_lit rfl _ _ _ rfl #[] 5 0 H ?_ ?_; (go_simp); (clear H; intro g1 w H K hK; replace H := own_mk (n := 0) (xs := []) (size := 1) H (Nat.le_refl _) (Nat.zero_le _) rfl rfl rfl; go_simp))      | (refine st_append rfl _ _ _ rfl 5 Try.underlying33 1 ?_ 1 ?_ (.int .u8 0) ?_ rfl _ _ _ rfl H _ _ _ (bv a) rfl ?_ ?_ (bv_one _) ?_ ?_ ?_; (kernel_rfl); (kernel_rfl); (kernel_rfl); (rw [length_bv, hla]); (intro _; exact ⟨_, rfl, cell_part (H.get 3 rfl) part_whole⟩); (decide); (decide); (clear H; intro v1 w H K hK; go_simp))      | (refine st_append rfl _ _ _ rfl 5 Try.underlying33 1 ?_ 1 ?_ (.int .u8 0) ?_ rfl _ _ _ rfl H _ _ _ (bv (b.take 512)) rfl ?_ ?_ (bv_one _) ?_ ?_ ?_; (kernel_rfl); (kernel_rfl); (kernel_rfl); (rw [length_bv, List.length_take, hlb]; omega); (intro _; exact ⟨_, rfl, cell_part (H.get 5 rfl) part_take⟩); (simp only [maxLen]; omega); (omega); (clear H; intro v2 w H K hK; go_simp))      | (refine st_append rfl _ _ _ rfl 5 Try.underlying33 1 ?_ 1 ?_ (.int .u8 0) ?_ rfl _ _ _ rfl H _ _ _ (bv (a.drop 512)) rfl ?_ ?_ (bv_one _) ?_ ?_ ?_; (kernel_rfl); (kernel_rfl); (kernel_rfl); (have e : (bv (a.drop (512))).length = 512 - 512 := (by rw [length_bv, List.length_drop, hla]); omega); (intro h0; first | (exact absurd h0 (by decide)) | (exact ⟨_, rfl, cell_part (H.get 4 rfl) part_drop⟩)); (simp only [maxLen]; omega); (omega); (clear H; intro v3 w H K hK; go_simp)))
                  refine wp_region_chain [0, 4, 8] (fun i => (#[1, 0, 0, 0, 2, 0, 0, 0, 3, 3] : Array Nat).getD i 0)          (fun xs i => (#[xs.getD 0 undef, .slice (some ⟨gb, 0, none⟩) 512 512, .int .i64 (512), .slice (some ⟨gb, 0, none⟩) 512 512, xs.getD 1 undef, .slice (some ⟨ga, 0, none⟩) 512 512, .int .i64 (512), .slice (some ⟨ga, 0, none⟩) 0 0, xs.getD 2 undef, xs.getD 2 undef] : Array Value).getD i undef)          (jtwo 5 W _ (512) (512 - 512) (bv (b.take (512))) (bv (a.drop (512)))) (by kernel_rfl) (by kernel_rfl) (by kernel_rfl) ?_ ?_ (jtwo0 H) ?_ ?_
                  · intro xs x j hj
                    match j, hj with
                    | 0, hj => exact getD_snoc hj
                    | 1, _ => rfl
                    | 2, _ => rfl
                    | 3, _ => rfl
                    | 4, hj => exact getD_snoc hj
                    | 5, _ => rfl
                    | 6, _ => rfl
                    | 7, _ => rfl
                    | 8, hj => exact getD_snoc hj
                    | 9, hj => exact getD_snoc hj
                    | n + 10, _ => rfl
                  · intro xs x m h1 h2
                    match xs, h1, h2 with
                    | [], _, h2 => cases h2; rfl
                    | [_], _, h2 => cases h2; rfl
                    | [_, _], _, h2 => cases h2; rfl
                  · refine ⟨chain_mk 0 rfl ?_, chain_pl rfl ?_, chain_pl rfl ?_, chain_pl rfl ?_, chain_mk 1 rfl ?_, chain_pl rfl ?_, chain_pl rfl ?_, chain_pl rfl ?_, chain_mk 2 rfl ?_, chain_pl rfl ?_, trivial⟩
                    all_goals first
                      | (intro xs h1 h2; refine (if_pos (by rfl)).mpr ?_; intro T' ds w K H hkn ho hK)
                      | (intro xs hx; rcases xs with _ | ⟨x0, _ | ⟨x1, _ | ⟨x2, xs⟩⟩⟩ <;> (try (exfalso; simp only [List.length_cons, List.length_nil] at hx; omega)); refine ⟨rfl, ?_⟩; intro T' ds w K H hkn ho hK)
                    all_goals
                      have o13 := ho 13 (by kernel_rfl)
                      have o14 := ho 14 (by kernel_rfl)
                      have o19 := ho 19 (by kernel_rfl)
                      clear ho
                      simp [know, dstAt, Region.binds] at hkn o13 o14 o19
                    all_goals first
                      | (go_simp; exact hK _ H)
                      | (refine op_value (v := .slice (some ⟨w.heap.size, 0, none⟩) 0 0) (w' := w.alloc (.cells #[] 5)) (by go_simp) ?_; exact hK _ _ (own_mk (At.alloc (show At W _ w from H) _) (Nat.le_refl _) (Nat.zero_le _) rfl rfl rfl))
                      | (replace H : At W (OwnRow 5 1 x0 0 [] :: _ :: _ :: _ :: Blk ga _ :: Blk gb _ :: _) w := H; refine op_append _ _ _ rfl 5 Try.underlying33 1 ?_ 1 ?_ (.int .u8 0) ?_ rfl x0 0 [] (by simp [Act.eval, hkn]) H (some ⟨gb, 0, none⟩) 512 512 (bv (b.take (512))) (by simp [Act.eval, hkn]) ?_ ?_ (bv_one _) ?_ ?_ ?_; (kernel_rfl); (kernel_rfl); (kernel_rfl); (rw [length_bv, List.length_take, hlb]; omega); (intro _; exact ⟨_, rfl, cell_part (H.get 5 rfl) part_take⟩); (simp only [maxLen]; omega); (omega); (intro x w H; exact hK _ _ H))
                      | (replace H : At W (OwnRow 5 1 x1 (0 + 512) ([] ++ bv (b.take (512))) :: _ :: _ :: _ :: Blk ga _ :: Blk gb _ :: _) w := H; refine op_append _ _ _ rfl 5 Try.underlying33 1 ?_ 1 ?_ (.int .u8 0) ?_ rfl x1 _ _ (by simp [Act.eval, hkn]) H (some ⟨ga, 0, none⟩) 0 0 (bv (a.drop (512))) (by simp [Act.eval, hkn]) ?_ ?_ (bv_one _) ?_ ?_ ?_; (kernel_rfl); (kernel_rfl); (kernel_rfl); (have e : (bv (a.drop (512))).length = 512 - 512 := (by rw [length_bv, List.length_drop, hla]); omega); (intro h0; first | (exact absurd h0 (by decide)) | (exact ⟨_, rfl, cell_part (H.get 4 rfl) part_drop⟩)); (simp only [maxLen]; omega); (omega); (intro x w H; exact hK _ _ H))
                      | skip
                  · intro xs w hx H
                    match xs, hx with
                    | [x0, x1, x2], _ =>
                      replace H : At W (OwnRow 5 1 x2 (0 + 512 + (512 - 512)) ([] ++ bv (b.take (512)) ++ bv (a.drop (512))) :: OwnRow 5 1 v1 (0 + 512) ([] ++ bv a) :: Blk cb (.cells (bv (s4 k3)).toArray 77 (0, 0)) :: DiskAt d ⟨4, s4, some none, wrap64 (rd + 1), 6 + q⟩ :: Blk ga (.cells (bv a).toArray 5 (0, 0)) :: Blk gb (.cells (bv b).toArray 5 (0, 0)) :: Arg W :: []) w := H
                      have hWant : Reads (OwnRow 5 1 x2 (0 + 512 + (512 - 512)) ([] ++ bv (b.take (512)) ++ bv (a.drop (512)))) x2 (b.take (512) ++ a.drop (512)) := by
                        have h := reads_own_n (v := x2) (l := b.take (512) ++ a.drop (512)) (t := 5) (n := 0 + 512 + (512 - 512)) (by rw [List.length_append, List.length_take, List.length_drop, hla, hlb]; omega)
                        rw [bv_append] at h
                        exact h
                      simp [putAll, Act.put]
                      go_wp2_with fail
                      refine (same H (hC.at_ H 2 rfl) (hWant.at_ H 0 rfl)).mono ?_
                      rintro e w ⟨rfl, H⟩
                      have hbe : (s4 k3 == b.take (512) ++ a.drop (512)) = true := by rw [hval.out, if_pos hkp]; exact beq_self_eq_true _
                      rw [hbe]
                      go_wp2_with fail
                      go_roundw
                      case rel => exact ⟨k3 + 1, by omega, by go_num, _, H.sel 6 [3, 4, 5]⟩
                      case measure => simp [intOf]; omega
                · have hbeq : ((k3 : Int) == p) = false := by simpa using hkp
                  go_wp2_with (first | (refine st_lit rfl _ _ _ rfl #[] 5 0 H ?_ ?_; (go_simp); (clear H; intro g1 w H K hK; replace H := own_mk (n := 0) (xs := []) (size := 1) H (Nat.le_refl _) (Nat.zero_le _) rfl rfl rfl; go_simp))      | (refine st_append rfl _ _ _ rfl 5 Try.underlying33 1 ?_ 1 ?_ (.int .u8 0) ?_ rfl _ _ _ rfl H _ _ _ (bv a) rfl ?_ ?_ (bv_one _) ?_ ?_ ?_; (kernel_rfl); (kernel_rfl); (kernel_rfl); (rw [length_bv, hla]); (intro _; exact ⟨_, rfl, cell_part (H.get 3 rfl) part_whole⟩); (decide); (decide); (clear H; intro v1 w H K hK; go_simp))      | (refine st_append rfl _ _ _ rfl 5 Try.underlying33 1 ?_ 1 ?_ (.int .u8 0) ?_ rfl _ _ _ rfl H _ _ _ (bv (b.take 512)) rfl ?_ ?_ (bv_one _) ?_ ?_ ?_; (kernel_rfl); (kernel_rfl); (kernel_rfl); (rw [length_bv, List.length_take, hlb]; omega); (intro _; exact ⟨_, rfl, cell_part (H.get 5 rfl) part_take⟩); (simp only [maxLen]; omega); (omega); (clear H; intro v2 w H K hK; go_simp))      | (refine st_append rfl _ _ _ rfl 5 Try.underlying33 1 ?_ 1 ?_ (.int .u8 0) ?_ rfl _ _ _ rfl H _ _ _ (bv (a.drop 512)) rfl ?_ ?_ (bv_one _) ?_ ?_ ?_; (kernel_rfl); (kernel_rfl); (kernel_rfl); (have e : (bv (a.drop (512))).length = 512 - 512 := (by rw [length_bv, List.length_drop, hla]); omega); (intro h0; first | (exact absurd h0 (by decide)) | (exact ⟨_, rfl, cell_part (H.get 4 rfl) part_drop⟩)); (simp only [maxLen]; omega); (omega); (clear H; intro v3 w H K hK; go_simp)))
                  have hWant : Reads (OwnRow 5 1 v1 (0 + 512) ([] ++ bv a)) v1 a := reads_own_n hla
                  refine (same H (hC.at_ H 1 rfl) (hWant.at_ H 0 rfl)).mono ?_
                  rintro e w ⟨rfl, H⟩
                  have hbe : (s4 k3 == a) = true := by rw [hval.out, if_neg hkp]; exact beq_self_eq_true _
                  rw [hbe]
                  go_wp2_with fail
                  go_roundw
                  case rel => exact ⟨k3 + 1, by omega, by go_num, _, H.sel 5 [2, 3, 4]⟩
                  case measure => simp [intOf]; omega
              · have hk4 : k3 = 4 := by omega
                subst hk4
                go_wp2_with fail
                go_ret
                exact ⟨rfl, H.below 3 rfl⟩
          obtain ⟨T, rfl⟩ := Int.eq_ofNat_of_zero_le (show 0 ≤ t by omega)
          have hT : Hid (armY (T : Int) = ((T : Nat) : Int)) := Lib.hid (by unfold armY armX; rw [if_neg ht0, if_neg ht1])
          have hTl : T < 512 := by omega
          have hTl2 : ¬ (512 = T) := by omega
          have hTl3 : ((T : Nat) : Int).toNat = T := by omega
          clear ht0 ht1 ht2
          have hw := Lib.hid (written_torn (N := 4) (r := 0) (c := 4 + q) (c' := 5 + q) (n := p) (t := armY (T)) (s := s2) (b := b) p1 p2 hlb (by rw [wrap64_in (by omega) (by omega)]; omega))
          have hT2 : Hid ((armY (T)).toNat = T) := Lib.hid (by rw [hT.out]; rfl)
          go_wp2_with fail
          refine (write hB (D := ⟨4, s2, some (some (0, armY (T))), 0, 4 + q⟩) (by intro l' t' h; cases h; exact ⟨Int.le_refl _, by decide, hT0, hT1⟩) p (H.sel 3 [0, 2, 1])).mono ?_
          rintro e w ⟨rfl, H⟩
          rw [hw.out, hT2.out] at H
          rw [hw.out]
          dsimp only at H ⊢
          have hlx : (b.take T ++ (s2 p).drop T).length = 512 := by rw [List.length_append, List.length_take, List.length_drop, hs2.out.1, hlb]; omega
          have hsp : s2 p = a := hs2.out.2 p p1 p2
          rw [hsp] at H hlx
          have Hfin : Hid ((∀ m, (upd (upd s2 p (b.take T ++ a.drop T)) (rnd (p + 1) 4) a m).length = 512) ∧ ∀ j : Int, 0 ≤ j → j < 4 → upd (upd s2 p (b.take T ++ a.drop T)) (rnd (p + 1) 4) a j = if j = p then b.take T ++ a.drop T else a) := by
            refine Lib.hid ⟨upd_len hla (upd_len hlx hs2.out.1), fun j j1 j2 => ?_⟩
            unfold upd
            have hr : rnd (p + 1) 4 = (p + 1) % 4 := by unfold rnd; rw [if_neg (by decide)]
            rw [hr]
            by_cases hj : j = p
            · subst hj
              rw [if_neg (by omega), if_pos rfl, if_pos rfl]
            · rw [if_neg hj, if_neg hj]
              split
              · rfl
              · exact hs2.out.2 j j1 j2
          have hs3 := upd_len (n := p) hlx hs2.out.1
          have Hlx := Lib.hid hlx
          clear hsp hlx hw
          generalize (upd s2 p (b.take T ++ a.drop T)) = s3 at *
          go_wp2_with fail
          refine (fallen H).mono ?_
          rintro e w ⟨rfl, H⟩
          dsimp only
          go_wp2_with fail
          refine (write_no hB p (by rw [mayE_fallen rfl]; decide) H).mono ?_
          rintro e w ⟨rfl, H⟩
          rw [mayE_fallen rfl]
          go_wp2_with fail
          refine (read_no H p (by rw [mayE_fallen rfl]; decide)).mono ?_
          rintro e w ⟨rfl, H⟩
          rw [mayE_fallen rfl]
          go_wp2_with fail
          refine (arm H 0 512).mono ?_
          rintro e w ⟨rfl, H⟩
          have H : At W (DiskAt d ⟨4, s3, none, 0, 5 + q⟩ :: Blk gb (.cells (bv b).toArray 5 (0, 0)) :: Blk ga (.cells (bv a).toArray 5 (0, 0)) :: Arg W :: []) w := H
          go_wp2_with fail
          refine (Dk.start H).mono ?_
          rintro e w ⟨rfl, H⟩
          have H : At W (DiskAt d ⟨4, s3, some none, 0, 5 + q⟩ :: Blk gb (.cells (bv b).toArray 5 (0, 0)) :: Blk ga (.cells (bv a).toArray 5 (0, 0)) :: Arg W :: []) w := H
          go_wp2_with fail
          refine (fallen H).mono ?_
          rintro e w ⟨rfl, H⟩
          dsimp only
          go_wp2_with fail
          refine (round H (p + 1) 4 (by omega) (by omega) (by omega) (by omega)).mono ?_
          rintro e w ⟨rfl, H⟩
          obtain ⟨z1, z2⟩ := rnd_range (v := p + 1) (n := 4) (by omega)
          generalize rnd (p + 1) 4 = z at *
          have hl3 : (s3 z).length = 512 := by
            have h := Hfin.out.1 z
            have h0 := hs3 z
            exact h0
          have hw := Lib.hid (written_steady (N := 4) (r := 0) (c := 5 + q) (c' := 6 + q) (n := z) (s := s3) (b := a) z1 z2 hla hl3 (by rw [wrap64_in (by omega) (by omega)]; omega))
          go_wp2_with fail
          refine (write hA (D := ⟨4, s3, some none, 0, 5 + q⟩) (by intro l' t' h; cases h) z (H.sel 3 [0, 2, 1])).mono ?_
          rintro e w ⟨rfl, H⟩
          rw [hw.out] at H ⊢
          dsimp only at H ⊢
          clear hw hl3 hs3
          generalize upd s3 z a = s4 at *
          replace H : At W (DiskAt d ⟨4, s4, some none, 0, 6 + q⟩ :: Blk ga (.cells (bv a).toArray 5 (0, 0)) :: Blk gb (.cells (bv b).toArray 5 (0, 0)) :: Arg W :: []) w := H
          go_wp2_with fail
          go_loopw [22] (fun i wr => ∃ k : Nat, k ≤ 4 ∧ i = .int .i64 k ∧ ∃ rd, At W (DiskAt d ⟨4, s4, some none, rd, 6 + q⟩ :: Blk ga (.cells (bv a).toArray 5 (0, 0)) :: Blk gb (.cells (bv b).toArray 5 (0, 0)) :: Arg W :: []) wr) (fun i _ => 4 - (intOf i).toNat)
          case atStart => exact ⟨0, by omega, rfl, 0, H⟩
          case round =>
            clear H
            obtain ⟨k3, hk3, rfl, rd, H⟩ := hrel
            by_cases hlt3 : k3 < 4
            · have g1 : (k3 : Int) < 4 := by omega
              have m0 : Hid (mayE ⟨4, s4, some none, rd, 6 + q⟩ k3 = 0) := Lib.hid (mayE_in rfl (by omega) g1)
              go_wp2_with fail
              refine (read_yes H k3 m0.out).mono ?_
              rintro e w ⟨cb, rfl, H⟩
              have H : At W (Blk cb (.cells (bv (s4 k3)).toArray 77 (0, 0)) :: DiskAt d ⟨4, s4, some none, wrap64 (rd + 1), 6 + q⟩ :: Blk ga (.cells (bv a).toArray 5 (0, 0)) :: Blk gb (.cells (bv b).toArray 5 (0, 0)) :: Arg W :: []) w := H
              have hC : Reads (Blk cb (.cells (bv (s4 k3)).toArray 77 (0, 0))) (.slice (some ⟨cb, 0, none⟩) 512 512) (s4 k3) := reads_full (Hfin.out.1 _) (by decide)
              have hval := Lib.hid (Hfin.out.2 k3 (by omega) g1)
              by_cases hkp : (k3 : Int) = p
              · have hbeq : ((k3 : Int) == p) = true := by simpa using hkp
                go_wp2_with (first | (refine st_lit rfl _ _ _ rfl #[] 5 0 H ?_ ?_; (go_simp); (clear H; intro g1 w H K hK; replace H := own_mk (n := 0) (xs := []) (size := 1) H (Nat.le_refl _) (Nat.zero_le _) rfl rfl rfl; go_simp))      | (refine st_append rfl _ _ _ rfl 5 Try.underlying33 1 ?_ 1 ?_ (.int .u8 0) ?_ rfl _ _ _ rfl H _ _ _ (bv a) rfl ?_ ?_ (bv_one _) ?_ ?_ ?_; (kernel_rfl); (kernel_rfl); (kernel_rfl); (rw [length_bv, hla]); (intro _; exact ⟨_, rfl, cell_part (H.get 3 rfl) part_whole⟩); (decide); (decide); (clear H; intro v1 w H K hK; go_simp))      | (refine st_append rfl _ _ _ rfl 5 Try.underlying33 1 ?_ 1 ?_ (.int .u8 0) ?_ rfl _ _ _ rfl H _ _ _ (bv (b.take T)) rfl ?_ ?_ (bv_one _) ?_ ?_ ?_; (kernel_rfl); (kernel_rfl); (kernel_rfl); (rw [length_bv, List.length_take, hlb]; omega); (intro _; exact ⟨_, rfl, cell_part (H.get 5 rfl) part_take⟩); (simp only [maxLen]; omega); (omega); (clear H; intro v2 w H K hK; go_simp))      | (refine st_append rfl _ _ _ rfl 5 Try.underlying33 1 ?_ 1 ?_ (.int .u8 0) ?_ rfl _ _ _ rfl H _ _ _ (bv (a.drop T)) rfl ?_ ?_ (bv_one _) ?_ ?_ ?_; (kernel_rfl); (kernel_rfl); (kernel_rfl); (have e : (bv (a.drop (T))).length = 512 - T := (by rw [length_bv, List.length_drop, hla]); omega); (intro h0; first | (exact absurd h0 (by decide)) | (exact ⟨_, rfl, cell_part (H.get 4 rfl) part_drop⟩)); (simp only [maxLen]; omega); (omega); (clear H; intro v3 w H K hK; go_simp)))
                refine wp_region_chain [0, 4, 8] (fun i => (#[1, 0, 0, 0, 2, 0, 0, 0, 3, 3] : Array Nat).getD i 0)          (fun xs i => (#[xs.getD 0 undef, .slice (some ⟨gb, 0, none⟩) 512 512, .int .i64 (T), .slice (some ⟨gb, 0, none⟩) T 512, xs.getD 1 undef, .slice (some ⟨ga, 0, none⟩) 512 512, .int .i64 (T), .slice (some ⟨ga, T, none⟩) (512 - T) (512 - T), xs.getD 2 undef, xs.getD 2 undef] : Array Value).getD i undef)          (jtwo 5 W _ (T) (512 - T) (bv (b.take (T))) (bv (a.drop (T)))) (by kernel_rfl) (by kernel_rfl) (by kernel_rfl) ?_ ?_ (jtwo0 H) ?_ ?_
                · intro xs x j hj
                  match j, hj with
                  | 0, hj => exact getD_snoc hj
                  | 1, _ => rfl
                  | 2, _ => rfl
                  | 3, _ => rfl
                  | 4, hj => exact getD_snoc hj
                  | 5, _ => rfl
                  | 6, _ => rfl
                  | 7, _ => rfl
                  | 8, hj => exact getD_snoc hj
                  | 9, hj => exact getD_snoc hj
                  | n + 10, _ => rfl
                · intro xs x m h1 h2
                  match xs, h1, h2 with
                  | [], _, h2 => cases h2; rfl
                  | [_], _, h2 => cases h2; rfl
                  | [_, _], _, h2 => cases h2; rfl
                · refine ⟨chain_mk 0 rfl ?_, chain_pl rfl ?_, chain_pl rfl ?_, chain_pl rfl ?_, chain_mk 1 rfl ?_, chain_pl rfl ?_, chain_pl rfl ?_, chain_pl rfl ?_, chain_mk 2 rfl ?_, chain_pl rfl ?_, trivial⟩
                  all_goals first
                    | (intro xs h1 h2; refine (if_pos (by rfl)).mpr ?_; intro T' ds w K H hkn ho hK)
                    | (intro xs hx; rcases xs with _ | ⟨x0, _ | ⟨x1, _ | ⟨x2, xs⟩⟩⟩ <;> (try (exfalso; simp only [List.length_cons, List.length_nil] at hx; omega)); refine ⟨rfl, ?_⟩; intro T' ds w K H hkn ho hK)
                  all_goals
                    have o13 := ho 13 (by kernel_rfl)
                    have o14 := ho 14 (by kernel_rfl)
                    have o19 := ho 19 (by kernel_rfl)
                    clear ho
                    simp [know, dstAt, Region.binds] at hkn o13 o14 o19
                  all_goals first
                    | (go_simp; exact hK _ H)
                    | (refine op_value (v := .slice (some ⟨w.heap.size, 0, none⟩) 0 0) (w' := w.alloc (.cells #[] 5)) (by go_simp) ?_; exact hK _ _ (own_mk (At.alloc (show At W _ w from H) _) (Nat.le_refl _) (Nat.zero_le _) rfl rfl rfl))
                    | (replace H : At W (OwnRow 5 1 x0 0 [] :: _ :: _ :: _ :: Blk ga _ :: Blk gb _ :: _) w := H; refine op_append _ _ _ rfl 5 Try.underlying33 1 ?_ 1 ?_ (.int .u8 0) ?_ rfl x0 0 [] (by simp [Act.eval, hkn]) H (some ⟨gb, 0, none⟩) T 512 (bv (b.take (T))) (by simp [Act.eval, hkn]) ?_ ?_ (bv_one _) ?_ ?_ ?_; (kernel_rfl); (kernel_rfl); (kernel_rfl); (rw [length_bv, List.length_take, hlb]; omega); (intro _; exact ⟨_, rfl, cell_part (H.get 5 rfl) part_take⟩); (simp only [maxLen]; omega); (omega); (intro x w H; exact hK _ _ H))
                    | (replace H : At W (OwnRow 5 1 x1 (0 + T) ([] ++ bv (b.take (T))) :: _ :: _ :: _ :: Blk ga _ :: Blk gb _ :: _) w := H; refine op_append _ _ _ rfl 5 Try.underlying33 1 ?_ 1 ?_ (.int .u8 0) ?_ rfl x1 _ _ (by simp [Act.eval, hkn]) H (some ⟨ga, T, none⟩) (512 - T) (512 - T) (bv (a.drop (T))) (by simp [Act.eval, hkn]) ?_ ?_ (bv_one _) ?_ ?_ ?_; (kernel_rfl); (kernel_rfl); (kernel_rfl); (have e : (bv (a.drop (T))).length = 512 - T := (by rw [length_bv, List.length_drop, hla]); omega); (intro h0; first | (exact absurd h0 (by decide)) | (exact ⟨_, rfl, cell_part (H.get 4 rfl) part_drop⟩)); (simp only [maxLen]; omega); (omega); (intro x w H; exact hK _ _ H))
                    | skip
                · intro xs w hx H
                  match xs, hx with
                  | [x0, x1, x2], _ =>
                    replace H : At W (OwnRow 5 1 x2 (0 + T + (512 - T)) ([] ++ bv (b.take (T)) ++ bv (a.drop (T))) :: OwnRow 5 1 v1 (0 + 512) ([] ++ bv a) :: Blk cb (.cells (bv (s4 k3)).toArray 77 (0, 0)) :: DiskAt d ⟨4, s4, some none, wrap64 (rd + 1), 6 + q⟩ :: Blk ga (.cells (bv a).toArray 5 (0, 0)) :: Blk gb (.cells (bv b).toArray 5 (0, 0)) :: Arg W :: []) w := H
                    have hWant : Reads (OwnRow 5 1 x2 (0 + T + (512 - T)) ([] ++ bv (b.take (T)) ++ bv (a.drop (T)))) x2 (b.take (T) ++ a.drop (T)) := by
                      have h := reads_own_n (v := x2) (l := b.take (T) ++ a.drop (T)) (t := 5) (n := 0 + T + (512 - T)) (by rw [List.length_append, List.length_take, List.length_drop, hla, hlb]; omega)
                      rw [bv_append] at h
                      exact h
                    simp [putAll, Act.put]
                    go_wp2_with fail
                    refine (same H (hC.at_ H 2 rfl) (hWant.at_ H 0 rfl)).mono ?_
                    rintro e w ⟨rfl, H⟩
                    have hbe : (s4 k3 == b.take (T) ++ a.drop (T)) = true := by rw [hval.out, if_pos hkp]; exact beq_self_eq_true _
                    rw [hbe]
                    go_wp2_with fail
                    go_roundw
                    case rel => exact ⟨k3 + 1, by omega, by go_num, _, H.sel 6 [3, 4, 5]⟩
                    case measure => simp [intOf]; omega
              · have hbeq : ((k3 : Int) == p) = false := by simpa using hkp
                go_wp2_with (first | (refine st_lit rfl _ _ _ rfl #[] 5 0 H ?_ ?_; (go_simp); (clear H; intro g1 w H K hK; replace H := own_mk (n := 0) (xs := []) (size := 1) H (Nat.le_refl _) (Nat.zero_le _) rfl rfl rfl; go_simp))      | (refine st_append rfl _ _ _ rfl 5 Try.underlying33 1 ?_ 1 ?_ (.int .u8 0) ?_ rfl _ _ _ rfl H _ _ _ (bv a) rfl ?_ ?_ (bv_one _) ?_ ?_ ?_; (kernel_rfl); (kernel_rfl); (kernel_rfl); (rw [length_bv, hla]); (intro _; exact ⟨_, rfl, cell_part (H.get 3 rfl) part_whole⟩); (decide); (decide); (clear H; intro v1 w H K hK; go_simp))      | (refine st_append rfl _ _ _ rfl 5 Try.underlying33 1 ?_ 1 ?_ (.int .u8 0) ?_ rfl _ _ _ rfl H _ _ _ (bv (b.take T)) rfl ?_ ?_ (bv_one _) ?_ ?_ ?_; (kernel_rfl); (kernel_rfl); (kernel_rfl); (rw [length_bv, List.length_take, hlb]; omega); (intro _; exact ⟨_, rfl, cell_part (H.get 5 rfl) part_take⟩); (simp only [maxLen]; omega); (omega); (clear H; intro v2 w H K hK; go_simp))      | (refine st_append rfl _ _ _ rfl 5 Try.underlying33 1 ?_ 1 ?_ (.int .u8 0) ?_ rfl _ _ _ rfl H _ _ _ (bv (a.drop T)) rfl ?_ ?_ (bv_one _) ?_ ?_ ?_; (kernel_rfl); (kernel_rfl); (kernel_rfl); (have e : (bv (a.drop (T))).length = 512 - T := (by rw [length_bv, List.length_drop, hla]); omega); (intro h0; first | (exact absurd h0 (by decide)) | (exact ⟨_, rfl, cell_part (H.get 4 rfl) part_drop⟩)); (simp only [maxLen]; omega); (omega); (clear H; intro v3 w H K hK; go_simp)))
                have hWant : Reads (OwnRow 5 1 v1 (0 + 512) ([] ++ bv a)) v1 a := reads_own_n hla
                refine (same H (hC.at_ H 1 rfl) (hWant.at_ H 0 rfl)).mono ?_
                rintro e w ⟨rfl, H⟩
                have hbe : (s4 k3 == a) = true := by rw [hval.out, if_neg hkp]; exact beq_self_eq_true _
                rw [hbe]
                go_wp2_with fail
                go_roundw
                case rel => exact ⟨k3 + 1, by omega, by go_num, _, H.sel 5 [2, 3, 4]⟩
                case measure => simp [intOf]; omega
            · have hk4 : k3 = 4 := by omega
              subst hk4
              go_wp2_with fail
              go_ret
              exact ⟨rfl, H.below 3 rfl⟩
end

theorem own : ownKnob Try.prog.godebug = none := by kernel_rfl

theorem lifted (os : Os) (started : os.Started) (H : Type) (enc : TypeId × Value → H) :
    ReturnsInHanded {} Try.checked os 5 .any (Rows.diskTornSpec.pre6 enc Try.prog Try.f5 Rows.diskTornRow.domain false) (Rows.diskTornSpec.post enc Try.prog Try.f5 false true false false) := by
  refine frame_true (C := Try.checked) started own (by kernel_rfl) Try.func5
    (ChangeSpec.witness6 (enc := enc) (C := Try.checked) false ⟨#[], #[.slice none 0 0, .slice none 0 0, .int .i64 0, .int .i64 0, .int .i64 0], []⟩ 8 (by kernel_rfl) (by kernel_rfl) (by kernel_rfl) (by kernel_rfl)) rfl ?_ (by kernel_rfl) (by kernel_rfl) (by kernel_rfl) Try.underlying4 ?_
  · intro ds hds
    match ds, hds with
    | [_, _, _, _, _], _ => rfl
  · rintro W args ds p ⟨base, hval⟩ hA hwt
    have hp : Try.f5.params.toList = [33, 33, 3, 3, 3] := by rw [Try.params5]
    rw [hp] at hA hwt
    obtain ⟨v0, r0, d0, e0, p0, q0, ha, rfl, rfl, h0, hA⟩ := trodAll_cons hA
    obtain ⟨v1, r1, d1, e1, p1, q1, rfl, rfl, rfl, h1, hA⟩ := trodAll_cons hA
    obtain ⟨v2, r2, d2, e2, p2, q2, rfl, rfl, rfl, h2, hA⟩ := trodAll_cons hA
    obtain ⟨v3, r3, d3, e3, p3, q3, rfl, rfl, rfl, h3, hA⟩ := trodAll_cons hA
    obtain ⟨v4, r4, d4, e4, p4, q4, rfl, rfl, rfl, h4, hA⟩ := trodAll_cons hA
    obtain ⟨rfl, rfl, rfl⟩ := trodAll_nil hA
    have ha2 : args = #[v0, v1, v2, v3, v4] := by cases args; simp_all
    subst ha2
    simp only [DataW.weightsEach, List.all_append, Bool.and_eq_true] at hwt
    obtain ⟨a0, b0⟩ := Lw.arg_bytes (hval 0 _ _ (by rw [Try.params5]; rfl) rfl) h0 hwt.1
    obtain ⟨a1, b1⟩ := Lw.arg_bytes (hval 1 _ _ (by rw [Try.params5]; rfl) rfl) h1 hwt.2.1
    obtain ⟨a2, b2⟩ := Lw.arg_int (hval 2 _ _ (by rw [Try.params5]; rfl) rfl) h2 hwt.2.2.1
    obtain ⟨a3, b3⟩ := Lw.arg_int (hval 3 _ _ (by rw [Try.params5]; rfl) rfl) h3 hwt.2.2.2.1
    obtain ⟨a4, b4⟩ := Lw.arg_int (hval 4 _ _ (by rw [Try.params5]; rfl) rfl) h4 hwt.2.2.2.2.1
    exact walk b0 b1 b2 b3 b4

theorem over : Rows.diskTornRow.holds Try.pinned (OpenSpec.ofChange Rows.diskTornSpec) :=
  OpenClaim.holds_of_wide 5 Try.f5 rfl rfl rfl rfl rfl rfl rfl ⟨rfl, rfl, rfl, rfl, rfl⟩ rfl rfl rfl rfl rfl (by kernel_rfl) Try.func5 (by kernel_rfl)
    (of_decide_eq_true (by kernel_rfl)) (by unfold Func.isWrapper; first | (rw [if_pos (by decide +kernel)]; kernel_rfl) | (rw [if_neg (by decide +kernel)]; exact ⟨rfl, rfl⟩))
    (fun os started H enc _ => lifted os started H enc)

theorem proved : Rows.DiskTornSaid := over
#print axioms proved
end diskTorn
end Go.Proofs.Ytbbkfneafonmiaa
