/-
  Two records: the same, or not.
-/
import Derived.Test.YtjobojgmadjmfaaMdRTop
namespace Go.Proofs.Ytjobojgmadjmfaa
open Go.Hp Go.RowKit
set_option linter.unusedVariables false
set_option linter.unusedSimpArgs false
set_option maxRecDepth 100000
set_option maxHeartbeats 1000000
namespace Md

theorem pa_cases {c : List Value} (h : Fits paK c) : ∃ a b d e : Int, c = [.int .i64 a, .int .i64 b, .int .i64 d, .int .i64 e] := by
  match c, h with
  | [_, _, _, _], ⟨⟨a, rfl⟩, ⟨b, rfl⟩, ⟨c, rfl⟩, ⟨d, rfl⟩, _⟩ => exact ⟨a, b, c, d, rfl⟩

theorem z27 : zeroT Try.prog 27 = some (.agg #[.int .i64 0, .int .i64 0]) := by kernel_rfl

/-- Two records are the same, or not. -/
theorem run_two {t : TypeId} {ks : List Ck} (f : flatT Try.prog 9 t = some ks) (a : aggT Try.prog t = true) {xs ys : List Value} (hx : Fits ks xs) (hy : Fits ks ys) :
    ∃ r : Bool, (r = true ↔ xs = ys) ∧ (∀ w, (binOp .eql t (.agg xs.toArray) (.agg ys.toArray)).run Try.prog w = .ok (.bool r) w) ∧ (∀ w, (binOp .neq t (.agg xs.toArray) (.agg ys.toArray)).run Try.prog w = .ok (.bool (!r)) w) := by
  classical
  refine ⟨decide (xs = ys), by simp, fun w => ?_, fun w => ?_⟩
  · obtain ⟨r, h1, h2⟩ := run_eq_two (w := w) 9 (by decide) f a hx hy
    have e : r = decide (xs = ys) := by rw [Bool.eq_iff_iff, h2]; simp
    rw [run_eql_struct, h1, e]
    rfl
  · obtain ⟨r, h1, h2⟩ := run_eq_two (w := w) 9 (by decide) f a hx hy
    have e : r = decide (xs = ys) := by rw [Bool.eq_iff_iff, h2]; simp
    rw [run_neq_struct, h1, e]
    rfl

theorem zI_fits : Fits instK zI := ⟨⟨_, rfl⟩, ⟨_, rfl⟩, ⟨_, rfl⟩, ⟨_, rfl⟩, ⟨_, rfl⟩, ⟨_, rfl⟩, ⟨_, rfl⟩, ⟨_, rfl⟩, ⟨_, rfl⟩, ⟨_, rfl⟩, ⟨_, rfl⟩, ⟨_, rfl⟩, ⟨_, rfl⟩, ⟨_, rfl⟩, trivial⟩

theorem run_ne {t : TypeId} {ks : List Ck} (f : flatT Try.prog 9 t = some ks) (a : aggT Try.prog t = true) {xs ys : List Value} (hx : Fits ks xs) (hy : Fits ks ys) :
    ∃ r n : Bool, (r = true ↔ xs = ys) ∧ n = (!r) ∧ (∀ w, (binOp .eql t (.agg xs.toArray) (.agg ys.toArray)).run Try.prog w = .ok (.bool r) w) ∧ (∀ w, (binOp .neq t (.agg xs.toArray) (.agg ys.toArray)).run Try.prog w = .ok (.bool n) w) := by
  obtain ⟨r, h1, h2, h3⟩ := run_two f a hx hy
  exact ⟨r, !r, h1, rfl, h2, h3⟩

theorem run_neq_self {t : TypeId} {ks : List Ck} (f : flatT Try.prog 9 t = some ks) (a : aggT Try.prog t = true) {xs : List Value} (hx : Fits ks xs) (w : World) : (binOp .neq t (.agg xs.toArray) (.agg xs.toArray)).run Try.prog w = .ok (.bool false) w := by
  obtain ⟨r, h1, _, h2⟩ := run_two f a hx hx
  rw [h2 w, h1.2 rfl]
  rfl

end Md
end Go.Proofs.Ytjobojgmadjmfaa
