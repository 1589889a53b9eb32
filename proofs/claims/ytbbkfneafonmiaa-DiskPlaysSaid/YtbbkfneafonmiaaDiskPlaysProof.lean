/-
  DiskPlays.
-/
import Derived.Test.YtbbkfneafonmiaaPlay
import Derived.ProofKit
namespace Go.Proofs.Ytbbkfneafonmiaa
open Go.Hp Go.RowKit Go.ChangeShapes Go.WideShapes
set_option linter.unusedVariables false
set_option linter.unusedSimpArgs false
namespace diskPlays
open Dk Rf Lw
section
variable {W : World}

set_option maxRecDepth 100000 in
set_option maxHeartbeats 2000000 in
theorem walk {vn vs : Value} {n : Int} (hn : vn = .int .i64 n ∧ In64 n) {l : List StepV} (hs : StepsAt W vs l) :
    Calls Try.prog 10 #[vn, vs] W fun e w => e = .returned (.bool true) ∧ Below W.heap.size W w := by
  obtain ⟨rfl, r1, r2⟩ := hn
  have H := At.of W
  go_enter Try.func10, Try.ntmps10
  go_wp2_with fail
  refine (known H).mono ?_
  rintro e w ⟨rfl, H⟩
  go_wp2_with fail
  refine (round H n 64 r1 r2 (by omega) (by omega)).mono ?_
  rintro e w ⟨rfl, H⟩
  obtain ⟨p1, p2⟩ := rnd_range (v := n) (n := 64) (by omega)
  generalize rnd n 64 = p at *
  obtain ⟨N, hN⟩ := Int.eq_ofNat_of_zero_le (show 0 ≤ p + 1 by omega)
  have h1 : (1 : Int) ≤ N := by omega
  have h2 : (N : Int) ≤ 65536 := by omega
  go_wp2_with fail
  clear hN
  refine (new_yes H N h1 h2).mono ?_
  rintro e w ⟨d, rfl, H⟩
  go_wp2_with fail
  refine (rnew_yes H N h1 h2).mono ?_
  rintro e w ⟨r, rfl, H⟩
  replace H : At W (DiskAt d (conv ⟨N, fun _ => zer, false, false, 0, 0, 0, 0⟩) :: RefAt r ⟨N, fun _ => zer, false, false, 0, 0, 0, 0⟩ :: Arg W :: []) w := H.sel 2 [1, 0]
  go_wp2_with fail
  refine (play hs (both_new N (by omega) (by omega)) H).mono ?_
  rintro e w ⟨⟨d2, r2, rfl⟩, H⟩
  go_wp2_with fail
  go_ret
  exact ⟨rfl, H.below 0 rfl⟩
end

theorem own : ownKnob Try.prog.godebug = none := by kernel_rfl

theorem lifted (os : Os) (started : os.Started) (H : Type) (enc : TypeId × Value → H) :
    ReturnsInHanded {} Try.checked os 10 .any (Rows.diskPlaysSpec.pre6 enc Try.prog Try.f10 Rows.diskPlaysRow.domain false) (Rows.diskPlaysSpec.post enc Try.prog Try.f10 false true false false) := by
  refine frame_true (C := Try.checked) started own (by kernel_rfl) Try.func10
    (ChangeSpec.witness6 (enc := enc) (C := Try.checked) false ⟨#[], #[.int .i64 0, .slice none 0 0], []⟩ 8 (by kernel_rfl) (by kernel_rfl) (by kernel_rfl) (by kernel_rfl)) rfl ?_ (by kernel_rfl) (by kernel_rfl) (by kernel_rfl) Try.underlying4 ?_
  · intro ds hds
    match ds, hds with
    | [_, _], _ => rfl
  · rintro W args ds p ⟨base, hval⟩ hA hwt
    have hp : Try.f10.params.toList = [3, 25] := by rw [Try.params10]
    rw [hp] at hA hwt
    obtain ⟨v0, r0, d0, e0, p0, q0, ha, rfl, rfl, h0, hA⟩ := trodAll_cons hA
    obtain ⟨v1, r1, d1, e1, p1, q1, rfl, rfl, rfl, h1, hA⟩ := trodAll_cons hA
    obtain ⟨rfl, rfl, rfl⟩ := trodAll_nil hA
    have ha2 : args = #[v0, v1] := by cases args; simp_all
    subst ha2
    simp only [DataW.weightsEach, List.all_append, Bool.and_eq_true] at hwt
    obtain ⟨a0, b0⟩ := Lw.arg_int (hval 0 _ _ (by rw [Try.params10]; rfl) rfl) h0 hwt.1
    obtain ⟨a1, b1⟩ := Lw.arg_Steps (hval 1 _ _ (by rw [Try.params10]; rfl) rfl) h1 hwt.2.1
    exact walk b0 b1

theorem over : Rows.diskPlaysRow.holds Try.pinned (OpenSpec.ofChange Rows.diskPlaysSpec) :=
  OpenClaim.holds_of_wide 10 Try.f10 rfl rfl rfl rfl rfl rfl rfl ⟨rfl, rfl, rfl, rfl, rfl⟩ rfl rfl rfl rfl rfl (by kernel_rfl) Try.func10 (by kernel_rfl)
    (of_decide_eq_true (by kernel_rfl)) (by unfold Func.isWrapper; first | (rw [if_pos (by decide +kernel)]; kernel_rfl) | (rw [if_neg (by decide +kernel)]; exact ⟨rfl, rfl⟩))
    (fun os started H enc _ => lifted os started H enc)

theorem proved : Rows.DiskPlaysSaid := over
#print axioms proved
end diskPlays
end Go.Proofs.Ytbbkfneafonmiaa
