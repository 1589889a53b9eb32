/-
  The statements' own functions: a bucket's lists written over.
-/
import Derived.Test.YtjobojgmadjmfaaMdLendM
namespace Go.Proofs.Ytjobojgmadjmfaa
open Go.Hp Go.RowKit
set_option linter.unusedVariables false
set_option linter.unusedSimpArgs false
set_option maxRecDepth 100000
set_option maxHeartbeats 2000000
namespace Md
theorem results_none {P : Program} {fn : Func} (h : fn.results = #[]) {tmps : Array Value} {w : World} : (results fn tmps).run P w = .ok (.tuple #[]) w := by simp [results, h]

section
variable {w0 w : World} {L : List HProp}

theorem spoilK {u : Int} {n k2 ge gl : Nat} {ce cl : List Value} (hce : ce.length = (n + 67) * 4) (hcl : cl.length = (k2 + 67) * 7) (be : n ≤ 140737488355328) (bl : k2 ≤ 140737488355328) (H : At w0 (Blk ge (.cells ce.toArray 101 (0, 0)) :: Blk gl (.cells cl.toArray 104 (0, 0)) :: L) w) :
    Calls Try.prog 39 #[.agg #[.int .i64 u, .slice (some ⟨ge, 0, none⟩) n (n + 67), .slice (some ⟨gl, 0, none⟩) k2 (k2 + 67)]] w (fun e w' => e = .returned (.tuple #[]) ∧ At w0 L w') := by
  have HF := H
  clear H
  go_enter Try.func39, Try.ntmps39
  go_wp2_with (first | ((with_reducible refine k_box (T := 36) ?_); refine st_box rfl _ _ rfl _ rfl HF ?_; (clear HF; intro g1 w HF K hK; simp only [Value.cells, Act.eval, Value.cells, Array.getD_eq_getD_getElem?, List.getElem?_toArray, List.getElem?_cons_succ, List.getElem?_cons_zero, Option.getD_some] at HF; go_simp)))
  go_loopw [2] (fun i wr => ∃ (k : Nat) (c : List Value), k ≤ n ∧ i = .int .i64 k ∧ c.length = (n + 67) * 4 ∧ At w0 (Blk g1 (.cells #[.int .i64 u, .slice (some ⟨ge, 0, none⟩) n (n + 67), .slice (some ⟨gl, 0, none⟩) k2 (k2 + 67)] 36 (0, 0)) :: Blk ge (.cells c.toArray 101 (0, 0)) :: Blk gl (.cells cl.toArray 104 (0, 0)) :: L) wr) (fun i _ => n - (intOf i).toNat)
  case atStart => exact ⟨0, _, Nat.zero_le _, rfl, hce, HF⟩
  case round =>
    clear HF
    obtain ⟨k, c, hk, rfl, hc, HF⟩ := hrel
    by_cases hlt : k < n
    · have g1x : (k : Int) < n := by omega
      have Hc := Lib.hid hc
      clear hc
      go_wp2_with (first | ((with_reducible refine k_load ?_); refine st_load rfl _ _ rfl _ _ rfl ?_ HF 0 rfl rfl ?_; (kernel_rfl); (intro K hK; go_simp)) | ((with_reducible refine k_store (T := 101) ?_); refine st_stores rfl _ _ _ rfl _ _ rfl #[.string ⟨#[115, 112, 111, 105, 108, 116]⟩, .int .i64 0, .int .i64 0, .int .i64 0] rfl ?_ s101 HF 1 rfl ?_ ?_; (simp [Value.oneCell']); (have := Hc.out; simp; omega); (clear HF; intro w HF K hK; simp only [List.set_cons_zero, List.set_cons_succ] at HF; go_simp)))
      go_roundw
      case rel => exact ⟨k + 1, _, by omega, rfl, (by have := Hc.out; simp; omega), HF⟩
      case measure => simp [intOf]; omega
    · have g1x : ¬ (k : Int) < n := by omega
      go_wp2_with (first | ((with_reducible refine k_load ?_); refine st_load rfl _ _ rfl _ _ rfl ?_ HF 0 rfl rfl ?_; (kernel_rfl); (intro K hK; go_simp)))
      replace HF := (HF.sel 3 [0, 2])
      go_loopw [3] (fun i wr => ∃ (k : Nat) (c : List Value), k ≤ k2 ∧ i = .int .i64 k ∧ c.length = (k2 + 67) * 7 ∧ At w0 (Blk g1 (.cells #[.int .i64 u, .slice (some ⟨ge, 0, none⟩) n (n + 67), .slice (some ⟨gl, 0, none⟩) k2 (k2 + 67)] 36 (0, 0)) :: Blk gl (.cells c.toArray 104 (0, 0)) :: L) wr) (fun i _ => k2 - (intOf i).toNat)
      case atStart => exact ⟨0, _, Nat.zero_le _, rfl, hcl, HF⟩
      case round =>
        clear HF
        obtain ⟨k, c, hk, rfl, hc, HF⟩ := hrel
        by_cases hlt : k < k2
        · have g1x : (k : Int) < k2 := by omega
          have Hc := Lib.hid hc
          clear hc
          go_wp2_with (first | ((with_reducible refine k_load ?_); refine st_load rfl _ _ rfl _ _ rfl ?_ HF 0 rfl rfl ?_; (kernel_rfl); (intro K hK; go_simp)) | ((with_reducible refine k_store (T := 104) ?_); refine st_stores rfl _ _ _ rfl _ _ rfl #[.int .i64 0, .int .i64 (-1), .int .i64 0, .int .i64 0, .int .i64 0, .int .i64 0, .int .i64 0] rfl ?_ s104 HF 1 rfl ?_ ?_; (simp [Value.oneCell']); (have := Hc.out; simp; omega); (clear HF; intro w HF K hK; simp only [List.set_cons_zero, List.set_cons_succ] at HF; go_simp)))
          go_roundw
          case rel => exact ⟨k + 1, _, by omega, rfl, (by have := Hc.out; simp; omega), HF⟩
          case measure => simp [intOf]; omega
        · have g1x : ¬ (k : Int) < k2 := by omega
          go_wp2_with (first | ((with_reducible refine k_load ?_); refine st_load rfl _ _ rfl _ _ rfl ?_ HF 0 rfl rfl ?_; (kernel_rfl); (intro K hK; go_simp)))
          exact ⟨rfl, .tuple #[], results_none rfl, rfl, HF.drop.drop⟩
end
end Md
end Go.Proofs.Ytjobojgmadjmfaa
