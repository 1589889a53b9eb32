/-
  The reference's Take: what it hands back.
-/
import Derived.Test.YtjobojgmadjmfaaMdRHave
import Derived.Test.YtjobojgmadjmfaaMdREdge
import Derived.Test.YtjobojgmadjmfaaMdTake
namespace Go.Proofs.Ytjobojgmadjmfaa
open Go.Hp Go.RowKit
set_option linter.unusedVariables false
set_option linter.unusedSimpArgs false
set_option maxRecDepth 100000
set_option maxHeartbeats 4000000
namespace Md

theorem s71 : sizeT Try.prog 71 = some 24 := by kernel_rfl
theorem z71 : zeroT Try.prog 71 = some (.agg (chI 0 0 cm0 |>.set 0 (.int .i64 0) |>.set 20 (.bool false)).toArray) := by kernel_rfl

theorem chs_nil {w : World} : ChsAt w nl [] := ⟨[], nil_recs, rfl, fun i c r hc => by simp at hc⟩

theorem chs_one {w : World} {v va ve vl : Value} {c : Cg} (hv : RowAt w v 1 (c.cells va ve vl)) (ha : RowAt w va c.blk.length (bv c.blk)) (he : RecsAt w ve 4 c.ents) (hl : RecsAt w vl 7 c.lasts) : ChsAt w v [c] := by
  refine ⟨[c.cells va ve vl], ⟨?_, fun r hr => ?_⟩, rfl, fun i c' r hc hr => ?_⟩
  · rwa [List.flatten_cons, List.flatten_nil, List.append_nil]
  · obtain rfl := List.mem_singleton.1 hr
    rfl
  · cases i with
    | succ i => simp at hc
    | zero =>
      obtain rfl : c = c' := by simpa using hc
      obtain rfl : c.cells va ve vl = r := by simpa using hr
      exact ⟨va, ve, vl, rfl, ha, he, hl⟩

theorem chs_news {w : World} {v : Value} {m : Mg} {h : Hd} {k : Nat} (H : RowAt w v (learnedN m h k).length (learnedN m h k).flatten) : ChsAt w v (newsS m h k) := by
  refine ⟨learnedN m h k, ⟨H, fun r hr => ?_⟩, ?_, fun i c r hc hr => ?_⟩
  · rw [learnedN_eq] at hr
    obtain ⟨c, _, rfl⟩ := List.mem_map.1 hr
    rfl
  · rw [learnedN_eq, List.length_map]
  · rw [learnedN_eq, List.getElem?_map, hc] at hr
    obtain rfl := Option.some.inj hr
    obtain ⟨h1, h2, h3⟩ := newsS_mem m h k c (List.mem_of_getElem? hc)
    refine ⟨nl, nl, nl, rfl, ?_, ?_, ?_⟩
    · rw [h1]; exact nil_row (n := 0)
    · rw [h2]; exact nil_recs
    · rw [h3]; exact nil_recs

/-- What the reference's Take hands back. -/
def RTk (w0 : World) (L : List HProp) (x : List Cg × Mg × Bool) (e : Ending) (w' : World) : Prop := ∃ v, e = .returned (.tuple #[v, .agg (mgV x.2.1 nl nl nl nl), .bool x.2.2]) ∧ ChsAt w' v x.1 ∧ At w0 L w'

end Md
end Go.Proofs.Ytjobojgmadjmfaa
