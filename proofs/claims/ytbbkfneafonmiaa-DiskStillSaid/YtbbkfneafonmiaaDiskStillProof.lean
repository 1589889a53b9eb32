/-
  DiskStill.
-/
import Derived.Test.YtbbkfneafonmiaaLaw3
import Derived.Test.YtbbkfneafonmiaaSteps
import Derived.ProofKit
namespace Go.Proofs.Ytbbkfneafonmiaa
open Go.Hp Go.RowKit Go.ChangeShapes Go.WideShapes
set_option linter.unusedVariables false
set_option linter.unusedSimpArgs false
namespace diskStill
open Dk Rf Lw
section
variable {W : World}

set_option maxRecDepth 100000 in
set_option maxHeartbeats 2000000 in
theorem walk {va vn vs : Value} {l : List UInt8} (hd : BytesAt W va l ∧ l.length ≤ reachBytes) {n m : Int} (hn : vn = .int .i64 n ∧ In64 n) (hm : vs = .int .i64 m ∧ In64 m) :
    Calls Try.prog 6 #[va, vn, vs] W fun e w => e = .returned (.bool true) ∧ Below W.heap.size W w := by
  obtain ⟨rfl, r1, r2⟩ := hn
  obtain ⟨rfl, r3, r4⟩ := hm
  have H := At.of W
  have hB := reads_arg hd.1
  go_enter Try.func6, Try.ntmps6
  go_wp2_with fail
  refine (known H).mono ?_
  rintro e w ⟨rfl, H⟩
  go_wp2_with fail
  refine (new_yes H 3 (by omega) (by omega)).mono ?_
  rintro e w ⟨d, rfl, H⟩
  go_wp2_with fail
  refine (full hB 7 (H.pick 1 rfl)).mono ?_
  rintro e w ⟨g, rfl, H⟩
  have H : At W (Blk g (.cells (bv (fullB l 7)).toArray 5 (0, 0)) :: Arg W :: DiskAt d ⟨3, fun _ => zer, some none, 0, 0⟩ :: []) w := H
  go_wp2_with fail
  refine (round H n 3 r1 r2 (by omega) (by omega)).mono ?_
  rintro e w ⟨rfl, H⟩
  have hlb := len_fullB l 7
  obtain ⟨p1, p2⟩ := rnd_range (v := n) (n := 3) (by omega)
  generalize fullB l 7 = bb at *
  generalize rnd n 3 = p at *
  go_wp2_with fail
  have hB : Reads (Blk g (.cells (bv bb).toArray 5 (0, 0))) (.slice (some ⟨g, 0, none⟩) 512 512) bb := reads_full hlb (by decide)
  have hw := written_steady (N := 3) (r := 0) (c := 0) (c' := 1) (s := fun _ => zer) p1 p2 hlb len_zer (by exact wrap64_in (x := 0 + 1) (by decide) (by decide))
  refine (write hB (D := ⟨3, fun _ => zer, some none, 0, 0⟩) (by intro l t h; cases h) p (H.sel 3 [2, 0, 1])).mono ?_
  rintro e w ⟨rfl, H⟩
  rw [hw] at H ⊢
  have H : At W (DiskAt d ⟨3, upd (fun _ => zer) p bb, some none, 0, 1⟩ :: Blk g (.cells (bv bb).toArray 5 (0, 0)) :: Arg W :: []) w := H
  have hs1 := upd_len (n := p) hlb (fun _ => len_zer)
  clear hw
  generalize upd (fun _ => zer) p bb = s1 at *
  dsimp only
  go_wp2_with fail
  refine (arm H 1 0).mono ?_
  rintro e w ⟨rfl, H⟩
  have H : At W (DiskAt d ⟨3, s1, some (some (1, 0)), 0, 1⟩ :: Blk g (.cells (bv bb).toArray 5 (0, 0)) :: Arg W :: []) w := H
  go_wp2_with fail
  refine (image (by show (1 : Int) ≤ 3; decide) (by show (3 : Int) ≤ 65536; decide) hs1 H).mono ?_
  rintro e w ⟨x, rfl, H⟩
  have H : At W (OwnRow 5 1 x 1536 (bv (img s1 3)) :: DiskAt d ⟨3, s1, some (some (1, 0)), 0, 1⟩ :: Blk g (.cells (bv bb).toArray 5 (0, 0)) :: Arg W :: []) w := H
  have m1 : mayE ⟨3, s1, some (some (1, 0)), 0, 1⟩ 3 = 31 := mayE_out rfl (.inr (Int.le_refl _))
  have m2 : mayE ⟨3, s1, some (some (1, 0)), 0, 1⟩ (-1) = 31 := mayE_out rfl (.inl (by decide))
  have m3 : mayE ⟨3, s1, some (some (1, 0)), 0, 1⟩ 0 = 0 := mayE_in rfl (by decide) (by show (0 : Int) < 3; decide)
  have Hm3 := Lib.hid m3
  go_wp2_with fail
  refine (write_no hB 3 (by rw [m1]; decide) (H.sel 3 [1, 2, 0])).mono ?_
  rintro e w ⟨rfl, H⟩
  rw [m1]
  go_wp2_with fail
  refine (write_no hB (-1) (by rw [m2]; decide) H).mono ?_
  rintro e w ⟨rfl, H⟩
  rw [m2]
  clear m1 m2 m3
  have H : At W (DiskAt d ⟨3, s1, some (some (1, 0)), 0, 1⟩ :: Blk g (.cells (bv bb).toArray 5 (0, 0)) :: OwnRow 5 1 x 1536 (bv (img s1 3)) :: Arg W :: []) w := H
  go_wp2_with fail
  refine (round H m 512 r3 r4 (by omega) (by omega)).mono ?_
  rintro e w ⟨rfl, H⟩
  obtain ⟨q1, q2⟩ := rnd_range (v := m) (n := 512) (by omega)
  generalize rnd m 512 = q at *
  obtain ⟨k, rfl⟩ := Int.eq_ofNat_of_zero_le q1
  have hk : k < 512 := by omega
  have hkt : (k : Int).toNat = k := by omega
  clear q1
  go_wp2_with fail
  refine (write_len (reads_take hlb (by omega) (by decide)) 0 Hm3.out (by rw [List.length_take]; omega) (H.sel 2 [0, 1])).mono ?_
  rintro e w ⟨rfl, H⟩
  have H : At W (Blk g (.cells (bv bb).toArray 5 (0, 0)) :: DiskAt d ⟨3, s1, some (some (1, 0)), 0, 1⟩ :: OwnRow 5 1 x 1536 (bv (img s1 3)) :: Arg W :: []) w := H.sel 4 [1, 0, 2, 3]
  go_wp2_with (first | (refine st_lit rfl _ _ _ rfl #[] 5 0 H ?_ ?_; (go_simp); (clear H; intro g1 w H K hK;        replace H : At W (OwnRow 5 1 (.slice (some ⟨g1, 0, none⟩) 0 0) 0 [] :: Blk g (.cells (bv bb).toArray 5 (0, 0)) :: DiskAt d ⟨3, s1, some (some (1, 0)), 0, 1⟩ :: OwnRow 5 1 x 1536 (bv (img s1 3)) :: Arg W :: []) w := (own_mk H (Nat.le_refl _) (Nat.zero_le _) rfl rfl rfl); go_simp))      | (refine st_lit rfl _ _ _ rfl #[.int .u8 1] 5 1 H ?_ ?_; (go_simp); (clear H; intro g2 w H K hK;        replace H : At W (OwnRow 5 1 v1 (0 + 512) ([] ++ bv bb) :: Blk g2 (.cells #[.int .u8 1] 5 (0, 0)) :: Blk g (.cells (bv bb).toArray 5 (0, 0)) :: DiskAt d ⟨3, s1, some (some (1, 0)), 0, 1⟩ :: OwnRow 5 1 x 1536 (bv (img s1 3)) :: Arg W :: []) w := H.sel 2 [1, 0]; go_simp))      | (refine st_append rfl _ _ _ rfl 5 Try.underlying33 1 ?_ 1 ?_ (.int .u8 0) ?_ rfl _ 0 [] rfl H (some ⟨g, 0, none⟩) 512 512 (bv bb) rfl ?_ ?_ (bv_one _) ?_ ?_ ?_; (kernel_rfl); (kernel_rfl); (kernel_rfl); (rw [length_bv, hlb]);          (intro _; refine ⟨_, rfl, fun j u hj => ?_⟩; rw [Addr.add_lit, Nat.zero_add, cell_of_row _ _ _ _ _ _ (H.get 1 rfl)]; simpa using hj); (decide); (decide); (clear H; intro v1 w H K hK; go_simp))      | (refine st_append rfl _ _ _ rfl 5 Try.underlying33 1 ?_ 1 ?_ (.int .u8 0) ?_ rfl v1 (0 + 512) ([] ++ bv bb) rfl H (some ⟨g2, 0, none⟩) 1 1 [.int .u8 1] rfl rfl ?_ ?_ ?_ ?_ ?_; (kernel_rfl); (kernel_rfl); (kernel_rfl);          (intro _; refine ⟨_, rfl, fun j u hj => ?_⟩; rw [Addr.add_lit, Nat.zero_add, cell_of_row _ _ _ _ _ _ (H.get 1 rfl)]; simpa using hj); (intro u hu; simp at hu; subst hu; rfl); (decide); (decide); (clear H; intro v2 w H K hK; go_simp)))
  have hR : Reads (OwnRow 5 1 v2 (0 + 512 + 1) ([] ++ bv bb ++ [.int .u8 1])) v2 (bb ++ [1]) := by
    have h := reads_own (v := v2) (l := bb ++ [1]) (e := 5)
    rw [bv_append, List.length_append, hlb] at h
    exact h
  refine (write_len hR 0 Hm3.out (by rw [List.length_append, hlb]; decide) (H.sel 4 [3, 0, 2])).mono ?_
  rintro e w ⟨rfl, H⟩
  have H : At W (DiskAt d ⟨3, s1, some (some (1, 0)), 0, 1⟩ :: OwnRow 5 1 v2 (0 + 512 + 1) ([] ++ bv bb ++ [.int .u8 1]) :: Blk g (.cells (bv bb).toArray 5 (0, 0)) :: OwnRow 5 1 x 1536 (bv (img s1 3)) :: Arg W :: []) w := H
  replace H : At W (DiskAt d ⟨3, s1, some (some (1, 0)), 0, 1⟩ :: Blk g (.cells (bv bb).toArray 5 (0, 0)) :: OwnRow 5 1 x 1536 (bv (img s1 3)) :: Arg W :: []) w := H.sel 2 [0]
  clear hR
  go_wp2_with fail
  have m1 : mayE ⟨3, s1, some (some (1, 0)), 0, 1⟩ 3 = 31 := mayE_out rfl (.inr (Int.le_refl _))
  refine (read_no H 3 (by rw [m1]; decide)).mono ?_
  rintro e w ⟨rfl, H⟩
  rw [m1]
  clear m1
  go_wp2_with fail
  refine (sectors H).mono ?_
  rintro e w ⟨rfl, H⟩
  dsimp only
  go_wp2_with fail
  refine (fallen H).mono ?_
  rintro e w ⟨rfl, H⟩
  dsimp only
  go_wp2_with fail
  refine (counts H).mono ?_
  rintro e w ⟨rfl, H⟩
  dsimp only
  go_wp2_with fail
  refine (image (by show (1 : Int) ≤ 3; decide) (by show (3 : Int) ≤ 65536; decide) hs1 H).mono ?_
  rintro e w ⟨y, rfl, H⟩
  have hli : (img s1 3).length = 1536 := len_img hs1 3
  have H : At W (OwnRow 5 1 y 1536 (bv (img s1 3)) :: DiskAt d ⟨3, s1, some (some (1, 0)), 0, 1⟩ :: Blk g (.cells (bv bb).toArray 5 (0, 0)) :: OwnRow 5 1 x 1536 (bv (img s1 3)) :: Arg W :: []) w := H
  have hX : ∀ v, Reads (OwnRow 5 1 v 1536 (bv (img s1 3))) v (img s1 3) := by
    intro v
    have h := reads_own (v := v) (l := img s1 3) (e := 5)
    rwa [hli] at h
  go_wp2_with fail
  refine (same H ((hX x).at_ H 3 rfl) ((hX y).at_ H 0 rfl)).mono ?_
  rintro e w ⟨rfl, H⟩
  have hbe : (img s1 3 == img s1 3) = true := beq_self_eq_true _
  replace H : At W (DiskAt d ⟨3, s1, some (some (1, 0)), 0, 1⟩ :: Blk g (.cells (bv bb).toArray 5 (0, 0)) :: Arg W :: []) w := H.sel 5 [1, 2, 4]
  clear hX
  go_wp2_with fail
  have hw := written_left (N := 3) (r := 0) (c := 1) (c' := 2) (n := 0) (l := 1) (t := 0) (by decide) (by decide) hlb (hs1 0) (by exact wrap64_in (x := 1 + 1) (by decide) (by decide)) (by decide)
  refine (write hB (D := ⟨3, s1, some (some (1, 0)), 0, 1⟩) (by intro l t h; cases h; decide) 0 H).mono ?_
  rintro e w ⟨rfl, H⟩
  rw [hw] at H ⊢
  have H : At W (DiskAt d ⟨3, upd s1 0 bb, some (some (0, 0)), 0, 2⟩ :: Blk g (.cells (bv bb).toArray 5 (0, 0)) :: Arg W :: []) w := H
  clear hw
  dsimp only
  go_wp2_with fail
  have hw := written_torn (N := 3) (r := 0) (c := 2) (c' := 3) (n := 1) (t := 0) (s := upd s1 0 bb) (by decide) (by decide) hlb (by exact wrap64_in (x := 2 + 1) (by decide) (by decide))
  refine (write hB (D := ⟨3, upd s1 0 bb, some (some (0, 0)), 0, 2⟩) (by intro l t h; cases h; decide) 1 H).mono ?_
  rintro e w ⟨rfl, H⟩
  rw [hw] at H ⊢
  generalize (upd (upd s1 0 bb) 1 _) = s2 at *
  have H : At W (DiskAt d ⟨3, s2, none, 0, 3⟩ :: Blk g (.cells (bv bb).toArray 5 (0, 0)) :: Arg W :: []) w := H
  clear hw
  dsimp only
  go_wp2_with fail
  refine (fallen H).mono ?_
  rintro e w ⟨rfl, H⟩
  dsimp only
  go_wp2_with fail
  refine (counts H).mono ?_
  rintro e w ⟨rfl, H⟩
  dsimp only
  go_wp2_with fail
  go_ret
  exact ⟨rfl, H.below 2 rfl⟩
end

theorem own : ownKnob Try.prog.godebug = none := by kernel_rfl

theorem lifted (os : Os) (started : os.Started) (H : Type) (enc : TypeId × Value → H) :
    ReturnsInHanded {} Try.checked os 6 .any (Rows.diskStillSpec.pre6 enc Try.prog Try.f6 Rows.diskStillRow.domain false) (Rows.diskStillSpec.post enc Try.prog Try.f6 false true false false) := by
  refine frame_true (C := Try.checked) started own (by kernel_rfl) Try.func6
    (ChangeSpec.witness6 (enc := enc) (C := Try.checked) false ⟨#[], #[.slice none 0 0, .int .i64 0, .int .i64 0], []⟩ 8 (by kernel_rfl) (by kernel_rfl) (by kernel_rfl) (by kernel_rfl)) rfl ?_ (by kernel_rfl) (by kernel_rfl) (by kernel_rfl) Try.underlying4 ?_
  · intro ds hds
    match ds, hds with
    | [_, _, _], _ => rfl
  · rintro W args ds p ⟨base, hval⟩ hA hwt
    have hp : Try.f6.params.toList = [33, 3, 3] := by rw [Try.params6]
    rw [hp] at hA hwt
    obtain ⟨v0, r0, d0, e0, p0, q0, ha, rfl, rfl, h0, hA⟩ := trodAll_cons hA
    obtain ⟨v1, r1, d1, e1, p1, q1, rfl, rfl, rfl, h1, hA⟩ := trodAll_cons hA
    obtain ⟨v2, r2, d2, e2, p2, q2, rfl, rfl, rfl, h2, hA⟩ := trodAll_cons hA
    obtain ⟨rfl, rfl, rfl⟩ := trodAll_nil hA
    have ha2 : args = #[v0, v1, v2] := by cases args; simp_all
    subst ha2
    simp only [DataW.weightsEach, List.all_append, Bool.and_eq_true] at hwt
    obtain ⟨a0, b0⟩ := Lw.arg_bytes (hval 0 _ _ (by rw [Try.params6]; rfl) rfl) h0 hwt.1
    obtain ⟨a1, b1⟩ := Lw.arg_int (hval 1 _ _ (by rw [Try.params6]; rfl) rfl) h1 hwt.2.1
    obtain ⟨a2, b2⟩ := Lw.arg_int (hval 2 _ _ (by rw [Try.params6]; rfl) rfl) h2 hwt.2.2.1
    exact walk b0 b1 b2

theorem over : Rows.diskStillRow.holds Try.pinned (OpenSpec.ofChange Rows.diskStillSpec) :=
  OpenClaim.holds_of_wide 6 Try.f6 rfl rfl rfl rfl rfl rfl rfl ⟨rfl, rfl, rfl, rfl, rfl⟩ rfl rfl rfl rfl rfl (by kernel_rfl) Try.func6 (by kernel_rfl)
    (of_decide_eq_true (by kernel_rfl)) (by unfold Func.isWrapper; first | (rw [if_pos (by decide +kernel)]; kernel_rfl) | (rw [if_neg (by decide +kernel)]; exact ⟨rfl, rfl⟩))
    (fun os started H enc _ => lifted os started H enc)

theorem proved : Rows.DiskStillSaid := over
#print axioms proved
end diskStill
end Go.Proofs.Ytbbkfneafonmiaa
