/-
  No cell of these rows narrows 'for every input' (looked for: loops, veiled, ifaces, maps, wideKeys, modest, calm, conditions, laid).
  DERIVED. THE GIVEN ROWS OF THIS SEAT. 10 by the template 'for every input the law returns true; each argument reads behind the call as it read before'; 0 by the template 'total and deterministic' (their statements: YtohfboolicheeaaTotals.lean).
  GIVEN WITH THE SEED: the statements are not yours to turn. If you find one false, say at which input.
  Laid BY PROGRAM, IN A SANDBOX (cutbox-rows.mjs): the forced cells as the released guide's own fill.sh prints them over the translation da6631fa2cc1730c… (all of the seat's roots in one cut). By AI agents, Wed Nov 11 2026. No macro, syntax, notation, axiom, sorry.
-/
import Derived.Test.YtohfboolicheeaaChecked
import GoSem.Claim
import GoSem.ClaimJoined
import GoSem.ClaimMapViews
import Derived.JoinedTies
import Derived.KernelRfl
namespace Go.Proofs.Ytohfboolicheeaa
/- THE CELL 'sum', in the pinned program and in every row, IS THE sha256 OF THE DUMP (.gsa) THAT YtohfboolicheeaaProg.lean LOADS. Nothing in Lean hashes anything: it is a label: what it is worth is what the hold of that sum in a sandbox is worth. -/
noncomputable def Try.pinned : Pinned := { name := "ytohfboolicheeaa", sum := "da6631fa2cc1730c1a3fcc842faabab79b10b34e5feba51838cd1e4ff5bf31f5", checked := Try.checked }
namespace Rows
def none {H : Type} : Left H := { results := [], args := [] }

/-- 'cairnlaw2.RingPoints': WHATEVER THE INPUT: true; the input reads as it did. -/
def ringPointsSpec : ChangeSpec := { name := "ringPoints", fn := fun _ => fun
  | [d] => { results := [.lit (.bool true)], args := [d] }
  | _ => none }
def ringPointsRow : OpenClaim := { program := "ytohfboolicheeaa", sum := "da6631fa2cc1730c1a3fcc842faabab79b10b34e5feba51838cd1e4ff5bf31f5", func := "cairn/cairnlaw2.RingPoints", spec := "ringPoints", unfollowed := true, recurses := true, apart := false }
def RingPointsSaid : Prop := ringPointsRow.holds Try.pinned (OpenSpec.ofChange ringPointsSpec)

/-- ITS FALSE NEIGHBOUR: 'it returns false'. Refute it at one input. -/
def ringPointsWrong : ChangeSpec := { name := "ringPoints", fn := fun _ => fun
  | [d] => { results := [.lit (.bool false)], args := [d] }
  | _ => none }
def RingPointsWrongFalsely : Prop := ringPointsRow.holds Try.pinned (OpenSpec.ofChange ringPointsWrong)

/-- 'cairnlaw2.RingGroups': WHATEVER THE INPUT: true; the input reads as it did. -/
def ringGroupsSpec : ChangeSpec := { name := "ringGroups", fn := fun _ => fun
  | [d1, d2] => { results := [.lit (.bool true)], args := [d1, d2] }
  | _ => none }
def ringGroupsRow : OpenClaim := { program := "ytohfboolicheeaa", sum := "da6631fa2cc1730c1a3fcc842faabab79b10b34e5feba51838cd1e4ff5bf31f5", func := "cairn/cairnlaw2.RingGroups", spec := "ringGroups", unfollowed := true, recurses := true, apart := false }
def RingGroupsSaid : Prop := ringGroupsRow.holds Try.pinned (OpenSpec.ofChange ringGroupsSpec)

/-- ITS FALSE NEIGHBOUR: 'it returns false'. Refute it at one input. -/
def ringGroupsWrong : ChangeSpec := { name := "ringGroups", fn := fun _ => fun
  | [d1, d2] => { results := [.lit (.bool false)], args := [d1, d2] }
  | _ => none }
def RingGroupsWrongFalsely : Prop := ringGroupsRow.holds Try.pinned (OpenSpec.ofChange ringGroupsWrong)

/-- 'cairnlaw2.RingShares': WHATEVER THE INPUT: true; the input reads as it did. -/
def ringSharesSpec : ChangeSpec := { name := "ringShares", fn := fun _ => fun
  | [d1, d2] => { results := [.lit (.bool true)], args := [d1, d2] }
  | _ => none }
def ringSharesRow : OpenClaim := { program := "ytohfboolicheeaa", sum := "da6631fa2cc1730c1a3fcc842faabab79b10b34e5feba51838cd1e4ff5bf31f5", func := "cairn/cairnlaw2.RingShares", spec := "ringShares", unfollowed := true, recurses := true, apart := false }
def RingSharesSaid : Prop := ringSharesRow.holds Try.pinned (OpenSpec.ofChange ringSharesSpec)

/-- ITS FALSE NEIGHBOUR: 'it returns false'. Refute it at one input. -/
def ringSharesWrong : ChangeSpec := { name := "ringShares", fn := fun _ => fun
  | [d1, d2] => { results := [.lit (.bool false)], args := [d1, d2] }
  | _ => none }
def RingSharesWrongFalsely : Prop := ringSharesRow.holds Try.pinned (OpenSpec.ofChange ringSharesWrong)

/-- 'cairnlaw2.RingMore': WHATEVER THE INPUT: true; the input reads as it did. -/
def ringMoreSpec : ChangeSpec := { name := "ringMore", fn := fun _ => fun
  | [d1, d2, d3, d4] => { results := [.lit (.bool true)], args := [d1, d2, d3, d4] }
  | _ => none }
def ringMoreRow : OpenClaim := { program := "ytohfboolicheeaa", sum := "da6631fa2cc1730c1a3fcc842faabab79b10b34e5feba51838cd1e4ff5bf31f5", func := "cairn/cairnlaw2.RingMore", spec := "ringMore", unfollowed := true, recurses := true, apart := false }
def RingMoreSaid : Prop := ringMoreRow.holds Try.pinned (OpenSpec.ofChange ringMoreSpec)

/-- ITS FALSE NEIGHBOUR: 'it returns false'. Refute it at one input. -/
def ringMoreWrong : ChangeSpec := { name := "ringMore", fn := fun _ => fun
  | [d1, d2, d3, d4] => { results := [.lit (.bool false)], args := [d1, d2, d3, d4] }
  | _ => none }
def RingMoreWrongFalsely : Prop := ringMoreRow.holds Try.pinned (OpenSpec.ofChange ringMoreWrong)

/-- 'cairnlaw2.RingRights': WHATEVER THE INPUT: true; the input reads as it did. -/
def ringRightsSpec : ChangeSpec := { name := "ringRights", fn := fun _ => fun
  | [d1, d2] => { results := [.lit (.bool true)], args := [d1, d2] }
  | _ => none }
def ringRightsRow : OpenClaim := { program := "ytohfboolicheeaa", sum := "da6631fa2cc1730c1a3fcc842faabab79b10b34e5feba51838cd1e4ff5bf31f5", func := "cairn/cairnlaw2.RingRights", spec := "ringRights", unfollowed := true, recurses := true, apart := false }
def RingRightsSaid : Prop := ringRightsRow.holds Try.pinned (OpenSpec.ofChange ringRightsSpec)

/-- ITS FALSE NEIGHBOUR: 'it returns false'. Refute it at one input. -/
def ringRightsWrong : ChangeSpec := { name := "ringRights", fn := fun _ => fun
  | [d1, d2] => { results := [.lit (.bool false)], args := [d1, d2] }
  | _ => none }
def RingRightsWrongFalsely : Prop := ringRightsRow.holds Try.pinned (OpenSpec.ofChange ringRightsWrong)

/-- 'cairnlaw2.RingUnlike': WHATEVER THE INPUT: true; the input reads as it did. -/
def ringUnlikeSpec : ChangeSpec := { name := "ringUnlike", fn := fun _ => fun
  | [d1, d2] => { results := [.lit (.bool true)], args := [d1, d2] }
  | _ => none }
def ringUnlikeRow : OpenClaim := { program := "ytohfboolicheeaa", sum := "da6631fa2cc1730c1a3fcc842faabab79b10b34e5feba51838cd1e4ff5bf31f5", func := "cairn/cairnlaw2.RingUnlike", spec := "ringUnlike", unfollowed := true, recurses := true, apart := false }
def RingUnlikeSaid : Prop := ringUnlikeRow.holds Try.pinned (OpenSpec.ofChange ringUnlikeSpec)

/-- ITS FALSE NEIGHBOUR: 'it returns false'. Refute it at one input. -/
def ringUnlikeWrong : ChangeSpec := { name := "ringUnlike", fn := fun _ => fun
  | [d1, d2] => { results := [.lit (.bool false)], args := [d1, d2] }
  | _ => none }
def RingUnlikeWrongFalsely : Prop := ringUnlikeRow.holds Try.pinned (OpenSpec.ofChange ringUnlikeWrong)

/-- 'cairnlaw2.RingHashes': WHATEVER THE INPUT: true; the input reads as it did. -/
def ringHashesSpec : ChangeSpec := { name := "ringHashes", fn := fun _ => fun
  | [d1, d2, d3] => { results := [.lit (.bool true)], args := [d1, d2, d3] }
  | _ => none }
def ringHashesRow : OpenClaim := { program := "ytohfboolicheeaa", sum := "da6631fa2cc1730c1a3fcc842faabab79b10b34e5feba51838cd1e4ff5bf31f5", func := "cairn/cairnlaw2.RingHashes", spec := "ringHashes", unfollowed := true, recurses := true, apart := false }
def RingHashesSaid : Prop := ringHashesRow.holds Try.pinned (OpenSpec.ofChange ringHashesSpec)

/-- ITS FALSE NEIGHBOUR: 'it returns false'. Refute it at one input. -/
def ringHashesWrong : ChangeSpec := { name := "ringHashes", fn := fun _ => fun
  | [d1, d2, d3] => { results := [.lit (.bool false)], args := [d1, d2, d3] }
  | _ => none }
def RingHashesWrongFalsely : Prop := ringHashesRow.holds Try.pinned (OpenSpec.ofChange ringHashesWrong)

/-- 'cairnlaw2.RingNews': WHATEVER THE INPUT: true; the input reads as it did. -/
def ringNewsSpec : ChangeSpec := { name := "ringNews", fn := fun _ => fun
  | [d] => { results := [.lit (.bool true)], args := [d] }
  | _ => none }
def ringNewsRow : OpenClaim := { program := "ytohfboolicheeaa", sum := "da6631fa2cc1730c1a3fcc842faabab79b10b34e5feba51838cd1e4ff5bf31f5", func := "cairn/cairnlaw2.RingNews", spec := "ringNews", unfollowed := true, recurses := true, apart := false }
def RingNewsSaid : Prop := ringNewsRow.holds Try.pinned (OpenSpec.ofChange ringNewsSpec)

/-- ITS FALSE NEIGHBOUR: 'it returns false'. Refute it at one input. -/
def ringNewsWrong : ChangeSpec := { name := "ringNews", fn := fun _ => fun
  | [d] => { results := [.lit (.bool false)], args := [d] }
  | _ => none }
def RingNewsWrongFalsely : Prop := ringNewsRow.holds Try.pinned (OpenSpec.ofChange ringNewsWrong)

/-- 'cairnlaw2.RingFront': WHATEVER THE INPUT: true; the input reads as it did. -/
def ringFrontSpec : ChangeSpec := { name := "ringFront", fn := fun _ => fun
  | [d1, d2, d3, d4, d5] => { results := [.lit (.bool true)], args := [d1, d2, d3, d4, d5] }
  | _ => none }
def ringFrontRow : OpenClaim := { program := "ytohfboolicheeaa", sum := "da6631fa2cc1730c1a3fcc842faabab79b10b34e5feba51838cd1e4ff5bf31f5", func := "cairn/cairnlaw2.RingFront", spec := "ringFront", unfollowed := true, recurses := true, apart := false }
def RingFrontSaid : Prop := ringFrontRow.holds Try.pinned (OpenSpec.ofChange ringFrontSpec)

/-- ITS FALSE NEIGHBOUR: 'it returns false'. Refute it at one input. -/
def ringFrontWrong : ChangeSpec := { name := "ringFront", fn := fun _ => fun
  | [d1, d2, d3, d4, d5] => { results := [.lit (.bool false)], args := [d1, d2, d3, d4, d5] }
  | _ => none }
def RingFrontWrongFalsely : Prop := ringFrontRow.holds Try.pinned (OpenSpec.ofChange ringFrontWrong)

/-- 'cairnlaw2.RingOwn': WHATEVER THE INPUT: true; the input reads as it did. -/
def ringOwnSpec : ChangeSpec := { name := "ringOwn", fn := fun _ => fun
  | [d1, d2, d3] => { results := [.lit (.bool true)], args := [d1, d2, d3] }
  | _ => none }
def ringOwnRow : OpenClaim := { program := "ytohfboolicheeaa", sum := "da6631fa2cc1730c1a3fcc842faabab79b10b34e5feba51838cd1e4ff5bf31f5", func := "cairn/cairnlaw2.RingOwn", spec := "ringOwn", unfollowed := true, recurses := true, apart := false }
def RingOwnSaid : Prop := ringOwnRow.holds Try.pinned (OpenSpec.ofChange ringOwnSpec)

/-- ITS FALSE NEIGHBOUR: 'it returns false'. Refute it at one input. -/
def ringOwnWrong : ChangeSpec := { name := "ringOwn", fn := fun _ => fun
  | [d1, d2, d3] => { results := [.lit (.bool false)], args := [d1, d2, d3] }
  | _ => none }
def RingOwnWrongFalsely : Prop := ringOwnRow.holds Try.pinned (OpenSpec.ofChange ringOwnWrong)

/- THE SECOND FORM. 'bulk': how many values and letters a reading holds, each counted each time it is reached (what is shared counts as often as it is met; a slice's spare places count too). A statement '..UptoSaid' is the law's where the arguments, and the package variables that the reading takes, are together of bulk at most 1048576: NARROWER than '..Said'. Prove '..Said' where nothing that the law and all that it calls make is longer than what came in: it says more and counts as full. Else prove '..UptoSaid'. A law counts once. -/
mutual
def uptoBulk {H : Type} : DataW H → Nat
  | .lit (.string bytes) => bytes.length + 1
  | .lit _ => 1
  | .nil => 1
  | .ptr d => uptoBulk d + 1
  | .slice elems spare => uptoBulkAll elems + uptoBulkAll spare + 1
  | .agg parts => uptoBulkAll parts + 1
  | .iface _ d => uptoBulk d + 1
  | .map entries => uptoBulkEntries entries + 1
  | .held _ => 1
def uptoBulkAll {H : Type} : List (DataW H) → Nat
  | [] => 0
  | d :: r => uptoBulk d + uptoBulkAll r
def uptoBulkEntries {H : Type} : List (Lit × DataW H) → Nat
  | [] => 0
  | x :: r => uptoBulkEntry x + uptoBulkEntries r
def uptoBulkEntry {H : Type} : Lit × DataW H → Nat
  | (.string bytes, d) => bytes.length + uptoBulk d + 1
  | (_, d) => uptoBulk d + 1
 end
def uptoSmall : (H : Type) → List (DataW H) → Bool := fun _ ds => decide (uptoBulkAll ds ≤ 1048576)
def OpenSpec.upto (s : _root_.Go.ChangeSpec) : _root_.Go.OpenSpec := { _root_.Go.OpenSpec.ofChange s with cond := some uptoSmall }

/-- 'cairnlaw2.RingPoints', WHERE WHAT IT READS IS OF BULK AT MOST 1048576: true; the input reads as it did. -/
def ringPointsUptoRow : OpenClaim := { program := "ytohfboolicheeaa", sum := "da6631fa2cc1730c1a3fcc842faabab79b10b34e5feba51838cd1e4ff5bf31f5", func := "cairn/cairnlaw2.RingPoints", spec := "ringPoints", unfollowed := true, recurses := true, apart := false, narrowed := true }
def RingPointsUptoSaid : Prop := ringPointsUptoRow.holds Try.pinned (OpenSpec.upto ringPointsSpec)

/-- 'cairnlaw2.RingGroups', WHERE WHAT IT READS IS OF BULK AT MOST 1048576: true; the input reads as it did. -/
def ringGroupsUptoRow : OpenClaim := { program := "ytohfboolicheeaa", sum := "da6631fa2cc1730c1a3fcc842faabab79b10b34e5feba51838cd1e4ff5bf31f5", func := "cairn/cairnlaw2.RingGroups", spec := "ringGroups", unfollowed := true, recurses := true, apart := false, narrowed := true }
def RingGroupsUptoSaid : Prop := ringGroupsUptoRow.holds Try.pinned (OpenSpec.upto ringGroupsSpec)

/-- 'cairnlaw2.RingShares', WHERE WHAT IT READS IS OF BULK AT MOST 1048576: true; the input reads as it did. -/
def ringSharesUptoRow : OpenClaim := { program := "ytohfboolicheeaa", sum := "da6631fa2cc1730c1a3fcc842faabab79b10b34e5feba51838cd1e4ff5bf31f5", func := "cairn/cairnlaw2.RingShares", spec := "ringShares", unfollowed := true, recurses := true, apart := false, narrowed := true }
def RingSharesUptoSaid : Prop := ringSharesUptoRow.holds Try.pinned (OpenSpec.upto ringSharesSpec)

/-- 'cairnlaw2.RingMore', WHERE WHAT IT READS IS OF BULK AT MOST 1048576: true; the input reads as it did. -/
def ringMoreUptoRow : OpenClaim := { program := "ytohfboolicheeaa", sum := "da6631fa2cc1730c1a3fcc842faabab79b10b34e5feba51838cd1e4ff5bf31f5", func := "cairn/cairnlaw2.RingMore", spec := "ringMore", unfollowed := true, recurses := true, apart := false, narrowed := true }
def RingMoreUptoSaid : Prop := ringMoreUptoRow.holds Try.pinned (OpenSpec.upto ringMoreSpec)

/-- 'cairnlaw2.RingRights', WHERE WHAT IT READS IS OF BULK AT MOST 1048576: true; the input reads as it did. -/
def ringRightsUptoRow : OpenClaim := { program := "ytohfboolicheeaa", sum := "da6631fa2cc1730c1a3fcc842faabab79b10b34e5feba51838cd1e4ff5bf31f5", func := "cairn/cairnlaw2.RingRights", spec := "ringRights", unfollowed := true, recurses := true, apart := false, narrowed := true }
def RingRightsUptoSaid : Prop := ringRightsUptoRow.holds Try.pinned (OpenSpec.upto ringRightsSpec)

/-- 'cairnlaw2.RingUnlike', WHERE WHAT IT READS IS OF BULK AT MOST 1048576: true; the input reads as it did. -/
def ringUnlikeUptoRow : OpenClaim := { program := "ytohfboolicheeaa", sum := "da6631fa2cc1730c1a3fcc842faabab79b10b34e5feba51838cd1e4ff5bf31f5", func := "cairn/cairnlaw2.RingUnlike", spec := "ringUnlike", unfollowed := true, recurses := true, apart := false, narrowed := true }
def RingUnlikeUptoSaid : Prop := ringUnlikeUptoRow.holds Try.pinned (OpenSpec.upto ringUnlikeSpec)

/-- 'cairnlaw2.RingHashes', WHERE WHAT IT READS IS OF BULK AT MOST 1048576: true; the input reads as it did. -/
def ringHashesUptoRow : OpenClaim := { program := "ytohfboolicheeaa", sum := "da6631fa2cc1730c1a3fcc842faabab79b10b34e5feba51838cd1e4ff5bf31f5", func := "cairn/cairnlaw2.RingHashes", spec := "ringHashes", unfollowed := true, recurses := true, apart := false, narrowed := true }
def RingHashesUptoSaid : Prop := ringHashesUptoRow.holds Try.pinned (OpenSpec.upto ringHashesSpec)

/-- 'cairnlaw2.RingNews', WHERE WHAT IT READS IS OF BULK AT MOST 1048576: true; the input reads as it did. -/
def ringNewsUptoRow : OpenClaim := { program := "ytohfboolicheeaa", sum := "da6631fa2cc1730c1a3fcc842faabab79b10b34e5feba51838cd1e4ff5bf31f5", func := "cairn/cairnlaw2.RingNews", spec := "ringNews", unfollowed := true, recurses := true, apart := false, narrowed := true }
def RingNewsUptoSaid : Prop := ringNewsUptoRow.holds Try.pinned (OpenSpec.upto ringNewsSpec)

/-- 'cairnlaw2.RingFront', WHERE WHAT IT READS IS OF BULK AT MOST 1048576: true; the input reads as it did. -/
def ringFrontUptoRow : OpenClaim := { program := "ytohfboolicheeaa", sum := "da6631fa2cc1730c1a3fcc842faabab79b10b34e5feba51838cd1e4ff5bf31f5", func := "cairn/cairnlaw2.RingFront", spec := "ringFront", unfollowed := true, recurses := true, apart := false, narrowed := true }
def RingFrontUptoSaid : Prop := ringFrontUptoRow.holds Try.pinned (OpenSpec.upto ringFrontSpec)

/-- 'cairnlaw2.RingOwn', WHERE WHAT IT READS IS OF BULK AT MOST 1048576: true; the input reads as it did. -/
def ringOwnUptoRow : OpenClaim := { program := "ytohfboolicheeaa", sum := "da6631fa2cc1730c1a3fcc842faabab79b10b34e5feba51838cd1e4ff5bf31f5", func := "cairn/cairnlaw2.RingOwn", spec := "ringOwn", unfollowed := true, recurses := true, apart := false, narrowed := true }
def RingOwnUptoSaid : Prop := ringOwnUptoRow.holds Try.pinned (OpenSpec.upto ringOwnSpec)

end Rows
end Go.Proofs.Ytohfboolicheeaa
