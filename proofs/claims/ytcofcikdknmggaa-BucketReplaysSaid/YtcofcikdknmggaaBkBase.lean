/-
  How names and clients are compared.
-/
import Derived.Test.YtcofcikdknmggaaBkSpec
import Derived.IntWalk
import Derived.Lib.Bytealg
import Derived.Lib.Strings
import Derived.Lib.Walk
namespace Go.Proofs.Ytcofcikdknmggaa
open Go.Hp Go.RowKit
set_option linter.unusedVariables false
set_option linter.unusedSimpArgs false
set_option maxRecDepth 100000
namespace Bk
section
variable {w0 w : World} {L : List HProp}

theorem cmpB (a b : ByteArray) (w : World) :
    Calls Try.prog 61 #[.string a, .string b] w fun e w' => e = .returned (.int .i64 (Lib.compareBytes a.data.toList b.data.toList)) ∧ w' = w := by
  go_enter Try.func61, Try.ntmps61
  go_wp2
  rw [run_callFunc_extern Try.func66 (by kernel_rfl) (by kernel_rfl) (by kernel_rfl) (e := Extern.BytealgCompare.compare) (by kernel_rfl), Lib.run_compareString]
  simp only [Result.andThen]
  rw [Oper.upon_value]
  go_wp2
  go_ret
  exact ⟨rfl, rfl⟩

theorem cmpS (H : At w0 L w) (a b : ByteArray) : Calls Try.prog 51 #[.string a, .string b] w (Ret w0 (.int .i64 (Lib.compareBytes a.data.toList b.data.toList)) L) := by
  go_enter Try.func51, Try.ntmps51
  go_wp2_with fail
  refine (cmpB a b w).mono ?_
  rintro e w ⟨rfl, rfl⟩
  go_wp2_with fail
  go_ret
  exact ⟨rfl, H⟩
end
end Bk
end Go.Proofs.Ytcofcikdknmggaa
