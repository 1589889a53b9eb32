/-
  No cell of these rows narrows 'for every input' (looked for: loops, veiled, ifaces, maps, wideKeys, modest, calm, conditions, laid).
  DERIVED. THE GIVEN ROWS OF THIS SEAT. 5 by the template 'for every input the law returns true; each argument reads behind the call as it read before'; 0 by the template 'total and deterministic' (their statements: YtcofcikdknmggaaTotals.lean).
  GIVEN WITH THE SEED: the statements are not yours to turn. If you find one false, say at which input.
  Laid BY PROGRAM, IN A SANDBOX (cutbox-rows.mjs): the forced cells as the released guide's own fill.sh prints them over the translation a7c36905b283ebb0… (all of the seat's roots in one cut). By AI agents, Wed Nov 11 2026. No macro, syntax, notation, axiom, sorry.
-/
import Derived.Test.YtcofcikdknmggaaChecked
import GoSem.Claim
import GoSem.ClaimJoined
import GoSem.ClaimMapViews
import Derived.JoinedTies
import Derived.KernelRfl
namespace Go.Proofs.Ytcofcikdknmggaa
/- THE CELL 'sum', in the pinned program and in every row, IS THE sha256 OF THE DUMP (.gsa) THAT YtcofcikdknmggaaProg.lean LOADS. Nothing in Lean hashes anything: it is a label: what it is worth is what the hold of that sum in a sandbox is worth. -/
noncomputable def Try.pinned : Pinned := { name := "ytcofcikdknmggaa", sum := "a7c36905b283ebb09db74fe0ca80a24b7f3e07e823d4f778ff9edf7cfef9c652", checked := Try.checked }
namespace Rows
def none {H : Type} : Left H := { results := [], args := [] }

/-- 'cairnlaw10.BucketApplies': WHATEVER THE INPUT: true; the input reads as it did. -/
def bucketAppliesSpec : ChangeSpec := { name := "bucketApplies", fn := fun _ => fun
  | [d1, d2, d3] => { results := [.lit (.bool true)], args := [d1, d2, d3] }
  | _ => none }
def bucketAppliesRow : OpenClaim := { program := "ytcofcikdknmggaa", sum := "a7c36905b283ebb09db74fe0ca80a24b7f3e07e823d4f778ff9edf7cfef9c652", func := "cairn/cairnlaw10.BucketApplies", spec := "bucketApplies", inPlace := ["internal/bytealg.abigen_runtime_cmpstring", "slices.overlaps[cairn/api.Entry]", "slices.overlaps[cairn/api.Last]"], unfollowed := true, recurses := true, apart := false }
def BucketAppliesSaid : Prop := bucketAppliesRow.holds Try.pinned (OpenSpec.ofChange bucketAppliesSpec)

/-- ITS FALSE NEIGHBOUR: 'it returns false'. Refute it at one input. -/
def bucketAppliesWrong : ChangeSpec := { name := "bucketApplies", fn := fun _ => fun
  | [d1, d2, d3] => { results := [.lit (.bool false)], args := [d1, d2, d3] }
  | _ => none }
def BucketAppliesWrongFalsely : Prop := bucketAppliesRow.holds Try.pinned (OpenSpec.ofChange bucketAppliesWrong)

/-- 'cairnlaw10.BucketRight': WHATEVER THE INPUT: true; the input reads as it did. -/
def bucketRightSpec : ChangeSpec := { name := "bucketRight", fn := fun _ => fun
  | [d1, d2, d3] => { results := [.lit (.bool true)], args := [d1, d2, d3] }
  | _ => none }
def bucketRightRow : OpenClaim := { program := "ytcofcikdknmggaa", sum := "a7c36905b283ebb09db74fe0ca80a24b7f3e07e823d4f778ff9edf7cfef9c652", func := "cairn/cairnlaw10.BucketRight", spec := "bucketRight", inPlace := ["internal/bytealg.abigen_runtime_cmpstring", "slices.overlaps[cairn/api.Entry]", "slices.overlaps[cairn/api.Last]"], unfollowed := true, recurses := true, apart := false }
def BucketRightSaid : Prop := bucketRightRow.holds Try.pinned (OpenSpec.ofChange bucketRightSpec)

/-- ITS FALSE NEIGHBOUR: 'it returns false'. Refute it at one input. -/
def bucketRightWrong : ChangeSpec := { name := "bucketRight", fn := fun _ => fun
  | [d1, d2, d3] => { results := [.lit (.bool false)], args := [d1, d2, d3] }
  | _ => none }
def BucketRightWrongFalsely : Prop := bucketRightRow.holds Try.pinned (OpenSpec.ofChange bucketRightWrong)

/-- 'cairnlaw10.BucketAsks': WHATEVER THE INPUT: true; the input reads as it did. -/
def bucketAsksSpec : ChangeSpec := { name := "bucketAsks", fn := fun _ => fun
  | [d1, d2, d3] => { results := [.lit (.bool true)], args := [d1, d2, d3] }
  | _ => none }
def bucketAsksRow : OpenClaim := { program := "ytcofcikdknmggaa", sum := "a7c36905b283ebb09db74fe0ca80a24b7f3e07e823d4f778ff9edf7cfef9c652", func := "cairn/cairnlaw10.BucketAsks", spec := "bucketAsks", inPlace := ["internal/bytealg.abigen_runtime_cmpstring", "slices.overlaps[cairn/api.Entry]", "slices.overlaps[cairn/api.Last]"], unfollowed := true, recurses := true, apart := false }
def BucketAsksSaid : Prop := bucketAsksRow.holds Try.pinned (OpenSpec.ofChange bucketAsksSpec)

/-- ITS FALSE NEIGHBOUR: 'it returns false'. Refute it at one input. -/
def bucketAsksWrong : ChangeSpec := { name := "bucketAsks", fn := fun _ => fun
  | [d1, d2, d3] => { results := [.lit (.bool false)], args := [d1, d2, d3] }
  | _ => none }
def BucketAsksWrongFalsely : Prop := bucketAsksRow.holds Try.pinned (OpenSpec.ofChange bucketAsksWrong)

/-- 'cairnlaw10.BucketAlone': WHATEVER THE INPUT: true; the input reads as it did. -/
def bucketAloneSpec : ChangeSpec := { name := "bucketAlone", fn := fun _ => fun
  | [d1, d2, d3] => { results := [.lit (.bool true)], args := [d1, d2, d3] }
  | _ => none }
def bucketAloneRow : OpenClaim := { program := "ytcofcikdknmggaa", sum := "a7c36905b283ebb09db74fe0ca80a24b7f3e07e823d4f778ff9edf7cfef9c652", func := "cairn/cairnlaw10.BucketAlone", spec := "bucketAlone", inPlace := ["internal/bytealg.abigen_runtime_cmpstring", "slices.overlaps[cairn/api.Entry]", "slices.overlaps[cairn/api.Last]"], unfollowed := true, recurses := true, apart := false }
def BucketAloneSaid : Prop := bucketAloneRow.holds Try.pinned (OpenSpec.ofChange bucketAloneSpec)

/-- ITS FALSE NEIGHBOUR: 'it returns false'. Refute it at one input. -/
def bucketAloneWrong : ChangeSpec := { name := "bucketAlone", fn := fun _ => fun
  | [d1, d2, d3] => { results := [.lit (.bool false)], args := [d1, d2, d3] }
  | _ => none }
def BucketAloneWrongFalsely : Prop := bucketAloneRow.holds Try.pinned (OpenSpec.ofChange bucketAloneWrong)

/-- 'cairnlaw10.BucketReplays': WHATEVER THE INPUT: true; the input reads as it did. -/
def bucketReplaysSpec : ChangeSpec := { name := "bucketReplays", fn := fun _ => fun
  | [d1, d2, d3, d4] => { results := [.lit (.bool true)], args := [d1, d2, d3, d4] }
  | _ => none }
def bucketReplaysRow : OpenClaim := { program := "ytcofcikdknmggaa", sum := "a7c36905b283ebb09db74fe0ca80a24b7f3e07e823d4f778ff9edf7cfef9c652", func := "cairn/cairnlaw10.BucketReplays", spec := "bucketReplays", inPlace := ["internal/bytealg.abigen_runtime_cmpstring", "slices.overlaps[cairn/api.Entry]", "slices.overlaps[cairn/api.Last]"], unfollowed := true, recurses := true, apart := false }
def BucketReplaysSaid : Prop := bucketReplaysRow.holds Try.pinned (OpenSpec.ofChange bucketReplaysSpec)

/-- ITS FALSE NEIGHBOUR: 'it returns false'. Refute it at one input. -/
def bucketReplaysWrong : ChangeSpec := { name := "bucketReplays", fn := fun _ => fun
  | [d1, d2, d3, d4] => { results := [.lit (.bool false)], args := [d1, d2, d3, d4] }
  | _ => none }
def BucketReplaysWrongFalsely : Prop := bucketReplaysRow.holds Try.pinned (OpenSpec.ofChange bucketReplaysWrong)

/- THE SECOND FORM. 'bulk': how many values and letters a reading holds, each counted each time it is reached (what is shared counts as often as it is met; a slice's spare places count too). A statement '..UptoSaid' is the law's where the arguments, and the package variables that the reading takes, are together of bulk at most 1048576: NARROWER than '..Said'. Prove '..Said' where nothing that the law and all that it calls make is longer than what came in: it says more and counts as full. Else prove '..UptoSaid'. A law counts once. -/
mutual
def uptoBulk {H : Type} : DataW H → Nat
  | .lit (.string bytes) => bytes.length + 1
  | .lit _ => 1
  | .nil => 1
  | .ptr d => uptoBulk d + 1
  | .slice elems spare => uptoBulkAll elems + uptoBulkAll spare + 1
  | .agg parts => uptoBulkAll parts + 1
  | .iface _ d => uptoBulk d + 1
  | .map entries => uptoBulkEntries entries + 1
  | .held _ => 1
def uptoBulkAll {H : Type} : List (DataW H) → Nat
  | [] => 0
  | d :: r => uptoBulk d + uptoBulkAll r
def uptoBulkEntries {H : Type} : List (Lit × DataW H) → Nat
  | [] => 0
  | x :: r => uptoBulkEntry x + uptoBulkEntries r
def uptoBulkEntry {H : Type} : Lit × DataW H → Nat
  | (.string bytes, d) => bytes.length + uptoBulk d + 1
  | (_, d) => uptoBulk d + 1
 end
def uptoSmall : (H : Type) → List (DataW H) → Bool := fun _ ds => decide (uptoBulkAll ds ≤ 1048576)
def OpenSpec.upto (s : _root_.Go.ChangeSpec) : _root_.Go.OpenSpec := { _root_.Go.OpenSpec.ofChange s with cond := some uptoSmall }

/-- 'cairnlaw10.BucketApplies', WHERE WHAT IT READS IS OF BULK AT MOST 1048576: true; the input reads as it did. -/
def bucketAppliesUptoRow : OpenClaim := { program := "ytcofcikdknmggaa", sum := "a7c36905b283ebb09db74fe0ca80a24b7f3e07e823d4f778ff9edf7cfef9c652", func := "cairn/cairnlaw10.BucketApplies", spec := "bucketApplies", inPlace := ["internal/bytealg.abigen_runtime_cmpstring", "slices.overlaps[cairn/api.Entry]", "slices.overlaps[cairn/api.Last]"], unfollowed := true, recurses := true, apart := false, narrowed := true }
def BucketAppliesUptoSaid : Prop := bucketAppliesUptoRow.holds Try.pinned (OpenSpec.upto bucketAppliesSpec)

/-- 'cairnlaw10.BucketRight', WHERE WHAT IT READS IS OF BULK AT MOST 1048576: true; the input reads as it did. -/
def bucketRightUptoRow : OpenClaim := { program := "ytcofcikdknmggaa", sum := "a7c36905b283ebb09db74fe0ca80a24b7f3e07e823d4f778ff9edf7cfef9c652", func := "cairn/cairnlaw10.BucketRight", spec := "bucketRight", inPlace := ["internal/bytealg.abigen_runtime_cmpstring", "slices.overlaps[cairn/api.Entry]", "slices.overlaps[cairn/api.Last]"], unfollowed := true, recurses := true, apart := false, narrowed := true }
def BucketRightUptoSaid : Prop := bucketRightUptoRow.holds Try.pinned (OpenSpec.upto bucketRightSpec)

/-- 'cairnlaw10.BucketAsks', WHERE WHAT IT READS IS OF BULK AT MOST 1048576: true; the input reads as it did. -/
def bucketAsksUptoRow : OpenClaim := { program := "ytcofcikdknmggaa", sum := "a7c36905b283ebb09db74fe0ca80a24b7f3e07e823d4f778ff9edf7cfef9c652", func := "cairn/cairnlaw10.BucketAsks", spec := "bucketAsks", inPlace := ["internal/bytealg.abigen_runtime_cmpstring", "slices.overlaps[cairn/api.Entry]", "slices.overlaps[cairn/api.Last]"], unfollowed := true, recurses := true, apart := false, narrowed := true }
def BucketAsksUptoSaid : Prop := bucketAsksUptoRow.holds Try.pinned (OpenSpec.upto bucketAsksSpec)

/-- 'cairnlaw10.BucketAlone', WHERE WHAT IT READS IS OF BULK AT MOST 1048576: true; the input reads as it did. -/
def bucketAloneUptoRow : OpenClaim := { program := "ytcofcikdknmggaa", sum := "a7c36905b283ebb09db74fe0ca80a24b7f3e07e823d4f778ff9edf7cfef9c652", func := "cairn/cairnlaw10.BucketAlone", spec := "bucketAlone", inPlace := ["internal/bytealg.abigen_runtime_cmpstring", "slices.overlaps[cairn/api.Entry]", "slices.overlaps[cairn/api.Last]"], unfollowed := true, recurses := true, apart := false, narrowed := true }
def BucketAloneUptoSaid : Prop := bucketAloneUptoRow.holds Try.pinned (OpenSpec.upto bucketAloneSpec)

/-- 'cairnlaw10.BucketReplays', WHERE WHAT IT READS IS OF BULK AT MOST 1048576: true; the input reads as it did. -/
def bucketReplaysUptoRow : OpenClaim := { program := "ytcofcikdknmggaa", sum := "a7c36905b283ebb09db74fe0ca80a24b7f3e07e823d4f778ff9edf7cfef9c652", func := "cairn/cairnlaw10.BucketReplays", spec := "bucketReplays", inPlace := ["internal/bytealg.abigen_runtime_cmpstring", "slices.overlaps[cairn/api.Entry]", "slices.overlaps[cairn/api.Last]"], unfollowed := true, recurses := true, apart := false, narrowed := true }
def BucketReplaysUptoSaid : Prop := bucketReplaysUptoRow.holds Try.pinned (OpenSpec.upto bucketReplaysSpec)

end Rows
end Go.Proofs.Ytcofcikdknmggaa
