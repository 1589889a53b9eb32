/-
  No cell of these rows narrows 'for every input' (looked for: loops, veiled, ifaces, maps, wideKeys, modest, calm, conditions, laid).
  DERIVED. THE GIVEN ROWS OF THIS SEAT. 5 by the template 'for every input the law returns true; each argument reads behind the call as it read before'; 0 by the template 'total and deterministic' (their statements: YtjobojgmadjmfaaTotals.lean).
  GIVEN WITH THE SEED: the statements are not yours to turn. If you find one false, say at which input.
  Laid BY PROGRAM, IN A SANDBOX (cutbox-rows.mjs): the forced cells as the released guide's own fill.sh prints them over the translation d7c707c8a4b18eac… (all of the seat's roots in one cut). By AI agents, Wed Nov 11 2026. No macro, syntax, notation, axiom, sorry.
-/
import Derived.Test.YtjobojgmadjmfaaChecked
import GoSem.Claim
import GoSem.ClaimJoined
import GoSem.ClaimMapViews
import Derived.JoinedTies
import Derived.KernelRfl
namespace Go.Proofs.Ytjobojgmadjmfaa
/- THE CELL 'sum', in the pinned program and in every row, IS THE sha256 OF THE DUMP (.gsa) THAT YtjobojgmadjmfaaProg.lean LOADS. Nothing in Lean hashes anything: it is a label: what it is worth is what the hold of that sum in a sandbox is worth. -/
noncomputable def Try.pinned : Pinned := { name := "ytjobojgmadjmfaa", sum := "d7c707c8a4b18eacbb507f41212ec920902f12b1dc4d142457346df937140ad0", checked := Try.checked }
namespace Rows
def none {H : Type} : Left H := { results := [], args := [] }

/-- 'cairnlaw12.MendHaves': WHATEVER THE INPUT: true; the input reads as it did. -/
def mendHavesSpec : ChangeSpec := { name := "mendHaves", fn := fun _ => fun
  | [d1, d2] => { results := [.lit (.bool true)], args := [d1, d2] }
  | _ => none }
def mendHavesRow : OpenClaim := { program := "ytjobojgmadjmfaa", sum := "d7c707c8a4b18eacbb507f41212ec920902f12b1dc4d142457346df937140ad0", func := "cairn/cairnlaw12.MendHaves", spec := "mendHaves", unfollowed := true, recurses := true, apart := false }
def MendHavesSaid : Prop := mendHavesRow.holds Try.pinned (OpenSpec.ofChange mendHavesSpec)

/-- ITS FALSE NEIGHBOUR: 'it returns false'. Refute it at one input. -/
def mendHavesWrong : ChangeSpec := { name := "mendHaves", fn := fun _ => fun
  | [d1, d2] => { results := [.lit (.bool false)], args := [d1, d2] }
  | _ => none }
def MendHavesWrongFalsely : Prop := mendHavesRow.holds Try.pinned (OpenSpec.ofChange mendHavesWrong)

/-- 'cairnlaw12.MendTakes': WHATEVER THE INPUT: true; the input reads as it did. -/
def mendTakesSpec : ChangeSpec := { name := "mendTakes", fn := fun _ => fun
  | [d1, d2] => { results := [.lit (.bool true)], args := [d1, d2] }
  | _ => none }
def mendTakesRow : OpenClaim := { program := "ytjobojgmadjmfaa", sum := "d7c707c8a4b18eacbb507f41212ec920902f12b1dc4d142457346df937140ad0", func := "cairn/cairnlaw12.MendTakes", spec := "mendTakes", unfollowed := true, recurses := true, apart := false }
def MendTakesSaid : Prop := mendTakesRow.holds Try.pinned (OpenSpec.ofChange mendTakesSpec)

/-- ITS FALSE NEIGHBOUR: 'it returns false'. Refute it at one input. -/
def mendTakesWrong : ChangeSpec := { name := "mendTakes", fn := fun _ => fun
  | [d1, d2] => { results := [.lit (.bool false)], args := [d1, d2] }
  | _ => none }
def MendTakesWrongFalsely : Prop := mendTakesRow.holds Try.pinned (OpenSpec.ofChange mendTakesWrong)

/-- 'cairnlaw12.MendRow': WHATEVER THE INPUT: true; the input reads as it did. -/
def mendRowSpec : ChangeSpec := { name := "mendRow", fn := fun _ => fun
  | [d1, d2, d3] => { results := [.lit (.bool true)], args := [d1, d2, d3] }
  | _ => none }
def mendRowRow : OpenClaim := { program := "ytjobojgmadjmfaa", sum := "d7c707c8a4b18eacbb507f41212ec920902f12b1dc4d142457346df937140ad0", func := "cairn/cairnlaw12.MendRow", spec := "mendRow", unfollowed := true, recurses := true, apart := false }
def MendRowSaid : Prop := mendRowRow.holds Try.pinned (OpenSpec.ofChange mendRowSpec)

/-- ITS FALSE NEIGHBOUR: 'it returns false'. Refute it at one input. -/
def mendRowWrong : ChangeSpec := { name := "mendRow", fn := fun _ => fun
  | [d1, d2, d3] => { results := [.lit (.bool false)], args := [d1, d2, d3] }
  | _ => none }
def MendRowWrongFalsely : Prop := mendRowRow.holds Try.pinned (OpenSpec.ofChange mendRowWrong)

/-- 'cairnlaw12.MendEnds': WHATEVER THE INPUT: true; the input reads as it did. -/
def mendEndsSpec : ChangeSpec := { name := "mendEnds", fn := fun _ => fun
  | [d1, d2, d3, d4, d5, d6] => { results := [.lit (.bool true)], args := [d1, d2, d3, d4, d5, d6] }
  | _ => none }
def mendEndsRow : OpenClaim := { program := "ytjobojgmadjmfaa", sum := "d7c707c8a4b18eacbb507f41212ec920902f12b1dc4d142457346df937140ad0", func := "cairn/cairnlaw12.MendEnds", spec := "mendEnds", unfollowed := true, recurses := true, apart := false }
def MendEndsSaid : Prop := mendEndsRow.holds Try.pinned (OpenSpec.ofChange mendEndsSpec)

/-- ITS FALSE NEIGHBOUR: 'it returns false'. Refute it at one input. -/
def mendEndsWrong : ChangeSpec := { name := "mendEnds", fn := fun _ => fun
  | [d1, d2, d3, d4, d5, d6] => { results := [.lit (.bool false)], args := [d1, d2, d3, d4, d5, d6] }
  | _ => none }
def MendEndsWrongFalsely : Prop := mendEndsRow.holds Try.pinned (OpenSpec.ofChange mendEndsWrong)

/-- 'cairnlaw12.MendAll': WHATEVER THE INPUT: true; the input reads as it did. -/
def mendAllSpec : ChangeSpec := { name := "mendAll", fn := fun _ => fun
  | [d1, d2, d3] => { results := [.lit (.bool true)], args := [d1, d2, d3] }
  | _ => none }
def mendAllRow : OpenClaim := { program := "ytjobojgmadjmfaa", sum := "d7c707c8a4b18eacbb507f41212ec920902f12b1dc4d142457346df937140ad0", func := "cairn/cairnlaw12.MendAll", spec := "mendAll", unfollowed := true, recurses := true, apart := false }
def MendAllSaid : Prop := mendAllRow.holds Try.pinned (OpenSpec.ofChange mendAllSpec)

/-- ITS FALSE NEIGHBOUR: 'it returns false'. Refute it at one input. -/
def mendAllWrong : ChangeSpec := { name := "mendAll", fn := fun _ => fun
  | [d1, d2, d3] => { results := [.lit (.bool false)], args := [d1, d2, d3] }
  | _ => none }
def MendAllWrongFalsely : Prop := mendAllRow.holds Try.pinned (OpenSpec.ofChange mendAllWrong)

/- THE SECOND FORM. 'bulk': how many values and letters a reading holds, each counted each time it is reached (what is shared counts as often as it is met; a slice's spare places count too). A statement '..UptoSaid' is the law's where the arguments, and the package variables that the reading takes, are together of bulk at most 1048576: NARROWER than '..Said'. Prove '..Said' where nothing that the law and all that it calls make is longer than what came in: it says more and counts as full. Else prove '..UptoSaid'. A law counts once. -/
mutual
def uptoBulk {H : Type} : DataW H → Nat
  | .lit (.string bytes) => bytes.length + 1
  | .lit _ => 1
  | .nil => 1
  | .ptr d => uptoBulk d + 1
  | .slice elems spare => uptoBulkAll elems + uptoBulkAll spare + 1
  | .agg parts => uptoBulkAll parts + 1
  | .iface _ d => uptoBulk d + 1
  | .map entries => uptoBulkEntries entries + 1
  | .held _ => 1
def uptoBulkAll {H : Type} : List (DataW H) → Nat
  | [] => 0
  | d :: r => uptoBulk d + uptoBulkAll r
def uptoBulkEntries {H : Type} : List (Lit × DataW H) → Nat
  | [] => 0
  | x :: r => uptoBulkEntry x + uptoBulkEntries r
def uptoBulkEntry {H : Type} : Lit × DataW H → Nat
  | (.string bytes, d) => bytes.length + uptoBulk d + 1
  | (_, d) => uptoBulk d + 1
 end
def uptoSmall : (H : Type) → List (DataW H) → Bool := fun _ ds => decide (uptoBulkAll ds ≤ 1048576)
def OpenSpec.upto (s : _root_.Go.ChangeSpec) : _root_.Go.OpenSpec := { _root_.Go.OpenSpec.ofChange s with cond := some uptoSmall }

/-- 'cairnlaw12.MendHaves', WHERE WHAT IT READS IS OF BULK AT MOST 1048576: true; the input reads as it did. -/
def mendHavesUptoRow : OpenClaim := { program := "ytjobojgmadjmfaa", sum := "d7c707c8a4b18eacbb507f41212ec920902f12b1dc4d142457346df937140ad0", func := "cairn/cairnlaw12.MendHaves", spec := "mendHaves", unfollowed := true, recurses := true, apart := false, narrowed := true }
def MendHavesUptoSaid : Prop := mendHavesUptoRow.holds Try.pinned (OpenSpec.upto mendHavesSpec)

/-- 'cairnlaw12.MendTakes', WHERE WHAT IT READS IS OF BULK AT MOST 1048576: true; the input reads as it did. -/
def mendTakesUptoRow : OpenClaim := { program := "ytjobojgmadjmfaa", sum := "d7c707c8a4b18eacbb507f41212ec920902f12b1dc4d142457346df937140ad0", func := "cairn/cairnlaw12.MendTakes", spec := "mendTakes", unfollowed := true, recurses := true, apart := false, narrowed := true }
def MendTakesUptoSaid : Prop := mendTakesUptoRow.holds Try.pinned (OpenSpec.upto mendTakesSpec)

/-- 'cairnlaw12.MendRow', WHERE WHAT IT READS IS OF BULK AT MOST 1048576: true; the input reads as it did. -/
def mendRowUptoRow : OpenClaim := { program := "ytjobojgmadjmfaa", sum := "d7c707c8a4b18eacbb507f41212ec920902f12b1dc4d142457346df937140ad0", func := "cairn/cairnlaw12.MendRow", spec := "mendRow", unfollowed := true, recurses := true, apart := false, narrowed := true }
def MendRowUptoSaid : Prop := mendRowUptoRow.holds Try.pinned (OpenSpec.upto mendRowSpec)

/-- 'cairnlaw12.MendEnds', WHERE WHAT IT READS IS OF BULK AT MOST 1048576: true; the input reads as it did. -/
def mendEndsUptoRow : OpenClaim := { program := "ytjobojgmadjmfaa", sum := "d7c707c8a4b18eacbb507f41212ec920902f12b1dc4d142457346df937140ad0", func := "cairn/cairnlaw12.MendEnds", spec := "mendEnds", unfollowed := true, recurses := true, apart := false, narrowed := true }
def MendEndsUptoSaid : Prop := mendEndsUptoRow.holds Try.pinned (OpenSpec.upto mendEndsSpec)

/-- 'cairnlaw12.MendAll', WHERE WHAT IT READS IS OF BULK AT MOST 1048576: true; the input reads as it did. -/
def mendAllUptoRow : OpenClaim := { program := "ytjobojgmadjmfaa", sum := "d7c707c8a4b18eacbb507f41212ec920902f12b1dc4d142457346df937140ad0", func := "cairn/cairnlaw12.MendAll", spec := "mendAll", unfollowed := true, recurses := true, apart := false, narrowed := true }
def MendAllUptoSaid : Prop := mendAllUptoRow.holds Try.pinned (OpenSpec.upto mendAllSpec)

end Rows
end Go.Proofs.Ytjobojgmadjmfaa
