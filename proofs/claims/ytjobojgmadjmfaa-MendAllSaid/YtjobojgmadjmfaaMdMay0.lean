/-
  The statements' own functions: may; what it asks.
-/
import Derived.Test.YtjobojgmadjmfaaMdTwo
namespace Go.Proofs.Ytjobojgmadjmfaa
open Go.Hp Go.RowKit
set_option linter.unusedVariables false
set_option linter.unusedSimpArgs false
set_option maxRecDepth 100000
set_option maxHeartbeats 4000000
namespace Md

/-- What `may` asks of one place of the row. -/
structure MayRow (h : Hd) (j : Nat) (p : Pl) : Prop where
  lo : h.upto < p.n
  hi : p.n ≤ 1048576
  kind : p.dec = true → p.cmd ≠ zc
  rise : ∀ q, 0 < j → h.row[j - 1]? = some q → q.n < p.n

theorem may_all {h : Hd} (h1 : 0 ≤ h.upto ∧ h.upto ≤ 1048576 ∧ (h.upto = 0 → h.ents = [] ∧ h.lasts = [])) (h2 : ∀ (j : Nat) (q : Pl), h.row[j]? = some q → MayRow h j q) : May h := by
  refine ⟨h1.1, h1.2.1, ?_, fun p hp => ?_, fun p hp => ?_, h1.2.2, fun p hp => ?_⟩
  · intro i j
    induction j with
    | zero => intro p q hij; omega
    | succ j ih =>
      intro p q hij hp hq
      by_cases hj : i = j
      · subst hj
        exact (h2 _ _ hq).rise p (by omega) (by simpa using hp)
      · obtain ⟨r, hr⟩ : ∃ r, h.row[j]? = some r := ⟨_, List.getElem?_eq_getElem (by have := (List.getElem?_eq_some_iff.1 hq).1; omega)⟩
        have h3 := ih p r (by omega) hp hr
        have h4 := (h2 _ _ hq).rise r (by omega) (by simpa using hr)
        omega
  · obtain ⟨j, hj⟩ := List.getElem?_of_mem hp
    exact (h2 j p hj).lo
  · obtain ⟨j, hj⟩ := List.getElem?_of_mem hp
    exact (h2 j p hj).hi
  · obtain ⟨j, hj⟩ := List.getElem?_of_mem hp
    exact (h2 j p hj).kind

def MayPost (w0 : World) (L : List HProp) (h : Hd) (e : Ending) (w' : World) : Prop := ∃ b : Bool, e = .returned (.bool b) ∧ (b = true → May h) ∧ At w0 L w'

end Md
end Go.Proofs.Ytjobojgmadjmfaa
