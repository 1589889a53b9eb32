/-
  What a group is: as many servers as it must hold, unlike, of the configuration, the first one the first point's.
-/
import Derived.Test.YtohfboolicheeaaRgFst
import Derived.Test.YtohfboolicheeaaRgMade
import Derived.Test.YtohfboolicheeaaRgRGroup
namespace Go.Proofs.Ytohfboolicheeaa
open Go.Hp Go.RowKit
set_option linter.unusedVariables false
set_option linter.unusedSimpArgs false
set_option maxRecDepth 100000
namespace Rg
theorem all_len {c : Cf} {pts : List Pt} (hp : PtsOk c pts) (h : Int) : 2 * c.F + 1 ≤ ((allS pts h).length : Int) := by
  have := hp.f (firstS pts h)
  rw [rot_pts hp.s hp.p] at this
  exact this
structure GroupOk (c : Cf) (S : List Int) (pts : List Pt) (k : Ky) (g : List Int) : Prop where
  l : (g.length : Int) = 2 * c.F + 1
  d : g.Nodup
  m : ∀ x ∈ g, x ∈ S
  h : ∃ s, g[0]? = some s ∧ (allS pts (hashK (keyH k) : Nat)).head? = some s
theorem group_ok {c : Cf} {S : List Int} {pts : List Pt} (hp : PtsOk c pts) (hF : 0 ≤ c.F ∧ c.F ≤ 3) (hS : ∀ p ∈ pts, p.s ∈ S) (k : Ky) : GroupOk c S pts k (groupS pts (2 * c.F + 1).toNat k) := by
  have hl := all_len hp (hashK (keyH k) : Nat)
  have he := group_all hp.s hp.p (2 * c.F + 1).toNat k
  have hlen : (groupS pts (2 * c.F + 1).toNat k).length = (2 * c.F + 1).toNat := by
    rw [he, List.length_take]
    omega
  refine ⟨by rw [hlen]; omega, ?_, fun x hx => ?_, ?_⟩
  · rw [he]
    exact (all_nodup _ _).sublist (List.take_sublist _ _)
  · rw [he] at hx
    obtain ⟨p, h1, rfl⟩ := all_mem.1 ((List.take_sublist _ _).subset hx)
    exact hS p h1
  · cases hA : allS pts (hashK (keyH k) : Nat) with
    | nil =>
      rw [hA] at hl
      simp at hl
      omega
    | cons s t =>
      refine ⟨s, ?_, rfl⟩
      rw [he, hA, List.getElem?_take_of_lt (by omega)]
      rfl
theorem not_before {g : List Int} {a : Nat} {x : Int} (hd : g.Nodup) (hx : g[a]? = some x) : x ∉ g.take a := by
  intro hm
  obtain ⟨j, hj⟩ := List.getElem?_of_mem hm
  have hjl := (List.getElem?_eq_some_iff.1 hj).1
  rw [List.length_take] at hjl
  rw [List.getElem?_take_of_lt (by omega)] at hj
  exact not_nodup hj hx (by omega) hd
theorem pts_pos {S : List Int} {P : Nat} (h : ∀ x ∈ S, 1 ≤ x ∧ x ≤ 255) : ∀ q ∈ sortP (ptsOf (sortI S) P), 1 ≤ q.s := fun q hq => (h _ ((sortI_perm S).mem_iff.1 (pts_s hq))).1
section
variable {w0 w : World} {L : List HProp}
theorem hasB {v : Value} {l : List Int} {n : Int} {b : Bool} (hv : RecsAt w v 1 (l.map iC)) (hb : decide (n ∈ l) = b) (H : At w0 L w) : Calls Try.prog 30 #[v, .int .i64 n] w (Ret w0 (.bool b) L) := by
  have := has hv n H
  rw [hb] at this
  exact this
theorem own_addr {v : Value} {l : List Int} (h0 : 0 < l.length) (H : At w0 (OI v l :: L) w) : ∃ g cap, v = .slice (some ⟨g, 0, none⟩) l.length cap ∧ l.length ≤ cap := by
  rcases own_cases H with ⟨_, h, _⟩ | ⟨g, cap, cur, h, h1, _⟩
  · omega
  · exact ⟨g, cap, h, h1⟩
end
end Rg
end Go.Proofs.Ytohfboolicheeaa
