/-
  What buckets speak of, as plain data: entries, lasts, commands, answers; facts of their types.
-/
import Derived.Test.YtcofcikdknmggaaRows
import Derived.Test.YtcofcikdknmggaaEng
import Derived.Outline
namespace Go.Proofs.Ytcofcikdknmggaa
open Go.Hp Go.RowKit
set_option linter.unusedVariables false
set_option linter.unusedSimpArgs false
namespace Bk

theorem a39 : aggT Try.prog 39 = true := by kernel_rfl
theorem s39 : sizeT Try.prog 39 = some 4 := by kernel_rfl
theorem a53 : aggT Try.prog 53 = true := by kernel_rfl
theorem s53 : sizeT Try.prog 53 = some 7 := by kernel_rfl
theorem a25 : aggT Try.prog 25 = true := by kernel_rfl
theorem s25 : sizeT Try.prog 25 = some 3 := by kernel_rfl
theorem a29 : aggT Try.prog 29 = true := by kernel_rfl
theorem s29 : sizeT Try.prog 29 = some 9 := by kernel_rfl
theorem a41 : aggT Try.prog 41 = true := by kernel_rfl
theorem s41 : sizeT Try.prog 41 = some 6 := by kernel_rfl
theorem a27 : aggT Try.prog 27 = true := by kernel_rfl
theorem s27 : sizeT Try.prog 27 = some 2 := by kernel_rfl

def entK : List Ck := [.str, .int .i64, .int .i64, .int .i64]
def lastK : List Ck := [.int .i64, .int .i64, .int .i64, .int .i64, .int .i64, .int .i64, .int .i64]
def cmdK : List Ck := [.int .i64, .int .i64, .int .i64, .str, .int .i64, .int .i64, .int .i64, .int .i64, .int .i64]
def fileK : List Ck := [.int .i64, .int .i64]
theorem fEntry : flatT Try.prog 9 39 = some entK := by kernel_rfl
theorem fLast : flatT Try.prog 9 53 = some lastK := by kernel_rfl
theorem fCmd : flatT Try.prog 9 29 = some cmdK := by kernel_rfl
theorem fFile : flatT Try.prog 9 27 = some fileK := by kernel_rfl
end Bk
end Go.Proofs.Ytcofcikdknmggaa
