/-
  DiskNew.
-/
import Derived.Test.YtbbkfneafonmiaaLaw3
import Derived.Test.YtbbkfneafonmiaaReg3
import Derived.Test.YtbbkfneafonmiaaSteps
import Derived.ProofKit
namespace Go.Proofs.Ytbbkfneafonmiaa
open Go.Hp Go.RowKit Go.ChangeShapes Go.WideShapes
set_option linter.unusedVariables false
set_option linter.unusedSimpArgs false
namespace diskNew
open Dk Rf Lw
section
variable {W : World}

theorem img_cut (l : List UInt8) (N : Nat) (h : l.length = N * 512) : img (cut l N) N = l := by
  have key : ∀ k, k ≤ N → img (cut l N) k = l.take (k * 512) := by
    intro k
    induction k with
    | zero => intro _; simp [img]
    | succ k ih =>
      intro hk
      rw [img, ih (by omega)]
      have e : cut l N k = (l.drop (k * 512)).take 512 := by
        unfold cut
        rw [if_pos (by omega), Int.toNat_natCast]
      rw [e, Nat.succ_mul, List.take_add]
  rw [key N (Nat.le_refl _), ← h, List.take_length]

set_option maxRecDepth 100000 in
set_option maxHeartbeats 2000000 in
theorem walk {va vn : Value} {n : Int} (hn : vn = .int .i64 n ∧ In64 n)  {l : List UInt8} (hd : BytesAt W va l ∧ l.length ≤ reachBytes) :
    Calls Try.prog 8 #[vn, va] W fun e w => e = .returned (.bool true) ∧ Below W.heap.size W w := by
  obtain ⟨rfl, r1, r2⟩ := hn
  have H := At.of W
  have hB := reads_arg hd.1
  have hlen := hd.2
  have hlen2 : l.length ≤ 140737488351232 := by have : reachBytes = 140737488351232 := rfl; omega
  clear hd hlen
  go_enter Try.func8, Try.ntmps8
  go_wp2_with fail
  refine (known H).mono ?_
  rintro e w ⟨rfl, H⟩
  by_cases h1 : n < 1
  · go_wp2_with fail
    refine (new_no H n (.inl h1)).mono ?_
    rintro e w ⟨rfl, H⟩
    go_wp2_with fail
    refine (lend hB (by omega) H).mono ?_
    rintro e w ⟨g, rfl, H⟩
    have hG := reads_lend (g := g) (t := 5) (l := l) rfl (by simp only [maxLen]; omega)
    by_cases hv : l.length % 512 ≠ 0 ∨ l.length = 0 ∨ 65536 * 512 < l.length
    · have Hv := Lib.hid hv
      clear hv
      go_wp2_with fail
      refine (load_no hG Hv.out H).mono ?_
      rintro e w ⟨rfl, H⟩
      go_wp2_with fail
      refine (rload_no hB Hv.out (H.pick 1 rfl)).mono ?_
      rintro e w ⟨rfl, H⟩
      go_wp2_with fail
      refine (back hB (by omega) (H.pick 1 rfl)).mono ?_
      rintro e w ⟨rfl, H⟩
      go_wp2_with fail
      go_ret
      exact ⟨rfl, H.below 1 rfl⟩
    · obtain ⟨M, hM, hM1, hM2⟩ : ∃ M, l.length = M * 512 ∧ 1 ≤ M ∧ M ≤ 65536 := ⟨l.length / 512, by omega, by omega, by omega⟩
      have HM := Lib.hid hM
      clear hM hv
      go_wp2_with fail
      refine (load_yes hG M HM.out hM1 hM2 H).mono ?_
      rintro e w ⟨d2, rfl, H⟩
      go_wp2_with fail
      refine (rload_yes hB M HM.out hM1 hM2 (H.pick 2 rfl)).mono ?_
      rintro e w ⟨r2, rfl, H⟩
      go_wp2_with fail
      refine (back hB (by omega) (H.sel 4 [3, 1, 2, 0])).mono ?_
      rintro e w ⟨rfl, H⟩
      go_wp2_with fail
      have HB := both_cut l M HM.out hM1 hM2
      refine (held (R := ⟨M, cut l M, false, false, 0, 0, 0, 0⟩) (H.sel 4 [2, 3, 0, 1])).mono ?_
      rintro e w ⟨rfl, H⟩
      have hn1 : (1 : Int) ≤ M := by omega
      have hn2 : (M : Int) ≤ 65536 := by omega
      go_wp2_with fail
      refine (image hn1 hn2 HB.ok.len H).mono ?_
      rintro e w ⟨x, rfl, H⟩
      have hI := img_cut l M HM.out
      have Ht : Hid ((M : Int).toNat = M) := Int.toNat_natCast M
      have H : At W (OwnRow 5 1 x ((M : Int).toNat * 512) (bv (img (cut l M) (M : Int).toNat)) :: _) w := H
      rw [Ht.out, hI] at H
      have hX : Reads (OwnRow 5 1 x (M * 512) (bv l)) x l := reads_own_n HM.out
      go_wp2_with fail
      refine (same H (hX.at_ H 0 rfl) (hB.at_ H 4 rfl)).mono ?_
      rintro e w ⟨rfl, H⟩
      have hbe : (l == l) = true := beq_self_eq_true _
      go_wp2_with fail
      go_ret
      exact ⟨rfl, H.below 4 rfl⟩
  by_cases h2 : 65536 < n
  · go_wp2_with fail
    refine (new_no H n (.inr h2)).mono ?_
    rintro e w ⟨rfl, H⟩
    go_wp2_with fail
    refine (lend hB (by omega) H).mono ?_
    rintro e w ⟨g, rfl, H⟩
    have hG := reads_lend (g := g) (t := 5) (l := l) rfl (by simp only [maxLen]; omega)
    by_cases hv : l.length % 512 ≠ 0 ∨ l.length = 0 ∨ 65536 * 512 < l.length
    · have Hv := Lib.hid hv
      clear hv
      go_wp2_with fail
      refine (load_no hG Hv.out H).mono ?_
      rintro e w ⟨rfl, H⟩
      go_wp2_with fail
      refine (rload_no hB Hv.out (H.pick 1 rfl)).mono ?_
      rintro e w ⟨rfl, H⟩
      go_wp2_with fail
      refine (back hB (by omega) (H.pick 1 rfl)).mono ?_
      rintro e w ⟨rfl, H⟩
      go_wp2_with fail
      go_ret
      exact ⟨rfl, H.below 1 rfl⟩
    · obtain ⟨M, hM, hM1, hM2⟩ : ∃ M, l.length = M * 512 ∧ 1 ≤ M ∧ M ≤ 65536 := ⟨l.length / 512, by omega, by omega, by omega⟩
      have HM := Lib.hid hM
      clear hM hv
      go_wp2_with fail
      refine (load_yes hG M HM.out hM1 hM2 H).mono ?_
      rintro e w ⟨d2, rfl, H⟩
      go_wp2_with fail
      refine (rload_yes hB M HM.out hM1 hM2 (H.pick 2 rfl)).mono ?_
      rintro e w ⟨r2, rfl, H⟩
      go_wp2_with fail
      refine (back hB (by omega) (H.sel 4 [3, 1, 2, 0])).mono ?_
      rintro e w ⟨rfl, H⟩
      go_wp2_with fail
      have HB := both_cut l M HM.out hM1 hM2
      refine (held (R := ⟨M, cut l M, false, false, 0, 0, 0, 0⟩) (H.sel 4 [2, 3, 0, 1])).mono ?_
      rintro e w ⟨rfl, H⟩
      have hn1 : (1 : Int) ≤ M := by omega
      have hn2 : (M : Int) ≤ 65536 := by omega
      go_wp2_with fail
      refine (image hn1 hn2 HB.ok.len H).mono ?_
      rintro e w ⟨x, rfl, H⟩
      have hI := img_cut l M HM.out
      have Ht : Hid ((M : Int).toNat = M) := Int.toNat_natCast M
      have H : At W (OwnRow 5 1 x ((M : Int).toNat * 512) (bv (img (cut l M) (M : Int).toNat)) :: _) w := H
      rw [Ht.out, hI] at H
      have hX : Reads (OwnRow 5 1 x (M * 512) (bv l)) x l := reads_own_n HM.out
      go_wp2_with fail
      refine (same H (hX.at_ H 0 rfl) (hB.at_ H 4 rfl)).mono ?_
      rintro e w ⟨rfl, H⟩
      have hbe : (l == l) = true := beq_self_eq_true _
      go_wp2_with fail
      go_ret
      exact ⟨rfl, H.below 4 rfl⟩
  obtain ⟨N, rfl⟩ := Int.eq_ofNat_of_zero_le (show 0 ≤ n by omega)
  have h1' : (1 : Int) ≤ N := by omega
  have h2' : (N : Int) ≤ 65536 := by omega
  clear h1 h2
  go_wp2_with fail
  refine (new_yes H N h1' h2').mono ?_
  rintro e w ⟨d, rfl, H⟩
  go_wp2_with fail
  refine (rnew_yes H N h1' h2').mono ?_
  rintro e w ⟨r, rfl, H⟩
  obtain ⟨ad, cap, rfl, hc1, hc2, h3⟩ := (hB.at_ H 2 rfl).len
  clear h3
  go_wp2_with fail
  refine (round H l.length N (by omega) (by omega) h1' (by omega)).mono ?_
  rintro e w ⟨rfl, H⟩
  obtain ⟨p1, p2⟩ := rnd_range (v := l.length) (n := N) h1'
  generalize rnd l.length N = p at *
  go_wp2_with fail
  have m0 : mayE ⟨N, fun _ => zer, some none, 0, 0⟩ p = 0 := mayE_in rfl p1 p2
  refine (read_yes (H.pick 1 rfl) p m0).mono ?_
  rintro e w ⟨b, rfl, H⟩
  have H : At W (Blk b (.cells (bv zer).toArray _ (0, 0)) :: DiskAt d ⟨N, fun _ => zer, some none, wrap64 (0 + 1), 0⟩ :: RefAt r ⟨N, fun _ => zer, false, false, 0, 0, 0, 0⟩ :: Arg W :: []) w := H
  rw [wrap1] at H
  obtain ⟨sg, vals, he, H2⟩ := open_ref (H.pick 2 rfl)
  replace H : At W (Blk b (.cells (bv zer).toArray _ (0, 0)) :: DiskAt d ⟨N, fun _ => zer, some none, 1, 0⟩ :: Blk r _ :: Blk sg _ :: Elems vals _ :: Arg W :: []) w := H2.sel 6 [3, 4, 0, 1, 2, 5]
  clear H2
  go_wp2_with fail
  refine wp_region_stage 4 (fun i => decide (5 ≤ i)) (fun i => (#[.int .i64 0, .bool false, .bool false, .slice (some ⟨b, 0, none⟩) 512 512, .slice (some ⟨w.heap.size, 0, none⟩) 512 512, .bool true, .bool false, .bool false, .bool false,      .pointer (some ⟨d, 0, none⟩), .bool false, .bool false, .bool false, .pointer (some ⟨d, 0, none⟩), .int .i64 N, .pointer (some ⟨r, 0, none⟩), .pointer (some ⟨r, 0, none⟩), .pointer (some ⟨r, 0, none⟩), .slice (some ⟨sg, 0, none⟩) N N, .int .i64 N, .bool false, .bool false, .bool false,      .pointer (some ⟨d, 0, none⟩), .agg #[.int .i64 1, .int .i64 0], .agg #[.int .i64 1, .int .i64 0], .bool false, .bool false] : Array Value).getD i undef)      (jmade w.heap.size (Blk w.heap.size (.cells (bv zer).toArray 5 (0, 0))) W _) (by kernel_rfl) (by kernel_rfl) (by simp) (by kernel_rfl) (jmade0 H) ?_ ?_
  · generalize w.heap.size = S at *
    have hS := reads_full (g := S) (t := 5) len_zer (by decide)
    have hb0 := reads_full (g := b) (t := 77) len_zer (by decide)
    clear H
    refine ⟨?_, ?_, ?_, ?_, ⟨rfl, ?_⟩, ?_, ?_, ?_, ?_, ?_, ?_, ?_, ?_, ?_, ?_, ?_, ?_, ?_, ?_, ?_, ?_, ?_, ?_, ?_, ?_, ?_, ?_, ?_, trivial⟩
    all_goals first
      | (refine (if_neg (by decide)).mpr ((if_pos (by rfl)).mpr ?_); refine (if_pos (by rfl)).mpr ?_; intro T ds w K H hk ho hK; replace H : At W (Blk S _ :: Blk b _ :: DiskAt d _ :: Blk r _ :: Blk sg _ :: Elems vals _ :: Arg W :: []) w := H)
      | (refine (if_neg (by decide)).mpr ((if_neg (by decide)).mpr ?_); intro bo; cases bo <;> (refine (if_pos (by rfl)).mpr ?_; intro T ds w K H hk ho hK))
      | (refine (if_pos (by rfl)).mpr ?_; intro T ds w K H hk ho hK)
    all_goals
      have o5 := ho 5 (by kernel_rfl)
      have o7 := ho 7 (by kernel_rfl)
      have o9 := ho 9 (by kernel_rfl)
      have o10 := ho 10 (by kernel_rfl)
      clear ho
      simp [know, dstAt, Region.binds] at hk o5 o7 o9 o10
    all_goals first
      | (go_simp; exact hK _ H)
      | (refine op_make _ _ _ rfl _ _ 512 512 rfl rfl 5 Try.underlying33 1 ?_ 1 ?_ (.int .u8 0) ?_ ?_ ?_ ?_ ?_ ?_; (kernel_rfl); (kernel_rfl); (kernel_rfl); (decide); (decide); (decide); (decide); (rw [H.1, made_zer]; refine hK _ ?_; have h := H.2.alloc (.cells (bv zer).toArray 5 (0, 0)); rw [H.1] at h; exact h))
      | (refine op_load _ _ rfl r 0 (by simp [Act.eval, hk]) (by kernel_rfl) H 3 rfl rfl ?_; exact hK _ H)
      | (go_simp; refine (same H (hb0.at_ H 1 rfl) (hS.at_ H 0 rfl)).mono ?_; rintro e w ⟨rfl, H⟩; rw [beq_self_eq_true]; exact hK _ H)
      | (go_simp; refine (sectors (H.sel 7 [2, 0, 1, 3, 4, 5, 6])).mono ?_; rintro e w ⟨rfl, H⟩; exact hK _ (H.sel 7 [1, 2, 0, 3, 4, 5, 6]))
      | (go_simp; refine (fallen (H.sel 7 [2, 0, 1, 3, 4, 5, 6])).mono ?_; rintro e w ⟨rfl, H⟩; exact hK _ (H.sel 7 [1, 2, 0, 3, 4, 5, 6]))
      | (go_simp; refine (counts (H.sel 7 [2, 0, 1, 3, 4, 5, 6])).mono ?_; rintro e w ⟨rfl, H⟩; exact hK _ (H.sel 7 [1, 2, 0, 3, 4, 5, 6]))
      | skip
  · clear H
    intro w H
    simp [putAll, Act.put]
    replace H : At W (Arg W :: []) w := H.sel 7 [6]
    go_wp2_with fail
    refine (lend hB (by omega) H).mono ?_
    rintro e w ⟨g, rfl, H⟩
    have hG := reads_lend (g := g) (t := 5) (l := l) rfl (by simp only [maxLen]; omega)
    by_cases hv : l.length % 512 ≠ 0 ∨ l.length = 0 ∨ 65536 * 512 < l.length
    · have Hv := Lib.hid hv
      clear hv
      go_wp2_with fail
      refine (load_no hG Hv.out H).mono ?_
      rintro e w ⟨rfl, H⟩
      go_wp2_with fail
      refine (rload_no hB Hv.out (H.pick 1 rfl)).mono ?_
      rintro e w ⟨rfl, H⟩
      go_wp2_with fail
      refine (back hB (by omega) (H.pick 1 rfl)).mono ?_
      rintro e w ⟨rfl, H⟩
      go_wp2_with fail
      go_ret
      exact ⟨rfl, H.below 1 rfl⟩
    · obtain ⟨M, hM, hM1, hM2⟩ : ∃ M, l.length = M * 512 ∧ 1 ≤ M ∧ M ≤ 65536 := ⟨l.length / 512, by omega, by omega, by omega⟩
      have HM := Lib.hid hM
      clear hM hv
      go_wp2_with fail
      refine (load_yes hG M HM.out hM1 hM2 H).mono ?_
      rintro e w ⟨d2, rfl, H⟩
      go_wp2_with fail
      refine (rload_yes hB M HM.out hM1 hM2 (H.pick 2 rfl)).mono ?_
      rintro e w ⟨r2, rfl, H⟩
      go_wp2_with fail
      refine (back hB (by omega) (H.sel 4 [3, 1, 2, 0])).mono ?_
      rintro e w ⟨rfl, H⟩
      go_wp2_with fail
      have HB := both_cut l M HM.out hM1 hM2
      refine (held (R := ⟨M, cut l M, false, false, 0, 0, 0, 0⟩) (H.sel 4 [2, 3, 0, 1])).mono ?_
      rintro e w ⟨rfl, H⟩
      have hn1 : (1 : Int) ≤ M := by omega
      have hn2 : (M : Int) ≤ 65536 := by omega
      go_wp2_with fail
      refine (image hn1 hn2 HB.ok.len H).mono ?_
      rintro e w ⟨x, rfl, H⟩
      have hI := img_cut l M HM.out
      have Ht : Hid ((M : Int).toNat = M) := Int.toNat_natCast M
      have H : At W (OwnRow 5 1 x ((M : Int).toNat * 512) (bv (img (cut l M) (M : Int).toNat)) :: _) w := H
      rw [Ht.out, hI] at H
      have hX : Reads (OwnRow 5 1 x (M * 512) (bv l)) x l := reads_own_n HM.out
      go_wp2_with fail
      refine (same H (hX.at_ H 0 rfl) (hB.at_ H 4 rfl)).mono ?_
      rintro e w ⟨rfl, H⟩
      have hbe : (l == l) = true := beq_self_eq_true _
      go_wp2_with fail
      go_ret
      exact ⟨rfl, H.below 4 rfl⟩
end

theorem own : ownKnob Try.prog.godebug = none := by kernel_rfl

theorem lifted (os : Os) (started : os.Started) (H : Type) (enc : TypeId × Value → H) :
    ReturnsInHanded {} Try.checked os 8 .any (Rows.diskNewSpec.pre6 enc Try.prog Try.f8 Rows.diskNewRow.domain false) (Rows.diskNewSpec.post enc Try.prog Try.f8 false true false false) := by
  refine frame_true (C := Try.checked) started own (by kernel_rfl) Try.func8
    (ChangeSpec.witness6 (enc := enc) (C := Try.checked) false ⟨#[], #[.int .i64 0, .slice none 0 0], []⟩ 8 (by kernel_rfl) (by kernel_rfl) (by kernel_rfl) (by kernel_rfl)) rfl ?_ (by kernel_rfl) (by kernel_rfl) (by kernel_rfl) Try.underlying4 ?_
  · intro ds hds
    match ds, hds with
    | [_, _], _ => rfl
  · rintro W args ds p ⟨base, hval⟩ hA hwt
    have hp : Try.f8.params.toList = [3, 33] := by rw [Try.params8]
    rw [hp] at hA hwt
    obtain ⟨v0, r0, d0, e0, p0, q0, ha, rfl, rfl, h0, hA⟩ := trodAll_cons hA
    obtain ⟨v1, r1, d1, e1, p1, q1, rfl, rfl, rfl, h1, hA⟩ := trodAll_cons hA
    obtain ⟨rfl, rfl, rfl⟩ := trodAll_nil hA
    have ha2 : args = #[v0, v1] := by cases args; simp_all
    subst ha2
    simp only [DataW.weightsEach, List.all_append, Bool.and_eq_true] at hwt
    obtain ⟨a0, b0⟩ := Lw.arg_int (hval 0 _ _ (by rw [Try.params8]; rfl) rfl) h0 hwt.1
    obtain ⟨a1, b1⟩ := Lw.arg_bytes (hval 1 _ _ (by rw [Try.params8]; rfl) rfl) h1 hwt.2.1
    exact walk b0 b1

theorem over : Rows.diskNewRow.holds Try.pinned (OpenSpec.ofChange Rows.diskNewSpec) :=
  OpenClaim.holds_of_wide 8 Try.f8 rfl rfl rfl rfl rfl rfl rfl ⟨rfl, rfl, rfl, rfl, rfl⟩ rfl rfl rfl rfl rfl (by kernel_rfl) Try.func8 (by kernel_rfl)
    (of_decide_eq_true (by kernel_rfl)) (by unfold Func.isWrapper; first | (rw [if_pos (by decide +kernel)]; kernel_rfl) | (rw [if_neg (by decide +kernel)]; exact ⟨rfl, rfl⟩))
    (fun os started H enc _ => lifted os started H enc)

theorem proved : Rows.DiskNewSaid := over
#print axioms proved
end diskNew
end Go.Proofs.Ytbbkfneafonmiaa
