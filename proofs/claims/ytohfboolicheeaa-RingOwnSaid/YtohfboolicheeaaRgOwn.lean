/-
  Rows of rows that grow: what the law RingOwn gathers.
-/
import Derived.Test.YtohfboolicheeaaRgGrown
namespace Go.Proofs.Ytohfboolicheeaa
open Go.Hp Go.RowKit
set_option linter.unusedVariables false
set_option linter.unusedSimpArgs false
set_option maxRecDepth 100000
namespace Rg
def updF {α : Type} (f : Nat → α) (N : Nat) (v : α) : Nat → α := fun j => if j = N then v else f j
theorem updF_at {α : Type} (f : Nat → α) (N : Nat) (v : α) : updF f N v N = v := if_pos rfl
theorem updF_ne {α : Type} (f : Nat → α) {N j : Nat} (v : α) (h : j ≠ N) : updF f N v j = f j := if_neg h
theorem slC_upd (vs : Nat → Value) (N : Nat) (v : Value) : slC (updF vs N v) (N + 1) = slC vs N ++ [v] := by
  rw [slC_snoc, updF_at]
  congr 1
  unfold slC
  apply List.map_congr_left
  intro j hj
  exact updF_ne _ _ (by have := List.mem_range.1 hj; omega)
section
variable {w0 w : World} {L : List HProp}
theorem its_ext {vs : Nat → Value} {ls : Nat → List Int} {N : Nat} {v : Value} {l : List Int} (Fr : List HProp) (H : At w0 (OI v l :: (Fr ++ (Its (fun i => OI (vs i) (ls i)) N ++ L))) w) :
    At w0 (Fr ++ (Its (fun i => OI (updF vs N v i) (updF ls N l i)) (N + 1) ++ L)) w := by
  refine its_snoc (f := fun i => OI (updF vs N v i) (updF ls N l i)) Fr ?_
  rw [updF_at, updF_at]
  have e : Its (fun i => OI (updF vs N v i) (updF ls N l i)) N = Its (fun i => OI (vs i) (ls i)) N := its_congr (fun j hj => by rw [updF_ne _ _ (by omega), updF_ne _ _ (by omega)])
  rw [e]
  exact H
theorem own_src {a : Option Addr} {n c : Nat} {l : List Int} (H : At w0 (OI (.slice a n c) l :: L) w) : 0 < l.length → ∃ b, a = some b ∧ ∀ j u, (iCs l)[j]? = some u → w.cell? (b.add j) = some u := by
  intro h0
  obtain ⟨ad, cap, hv, _, _, _, h1, h2⟩ := own_value H
  cases hv
  obtain ⟨b, rfl⟩ := h1 h0
  exact ⟨b, rfl, h2 b rfl⟩
theorem oi_app0 {v : Value} {l : List Int} (H : At w0 (OwnRow 3 1 v (0 + l.length) ([] ++ iCs l) :: L) w) : At w0 (OI v l :: L) w := by
  rw [Nat.zero_add, List.nil_append] at H
  exact H
/-- What a key's group is, or nothing. -/
def GrRel (pts : List Pt) (c : Cf) (k : Ky) (g : List Int) : Prop := (KeyR k c.B → g = groupS pts (2 * c.F + 1).toNat k) ∧ (¬ KeyR k c.B → g = [])
theorem grRel_eq {pts : List Pt} {c : Cf} {k : Ky} {g h : List Int} (h1 : GrRel pts c k g) (h2 : GrRel pts c k h) : g = h := by
  by_cases hk : KeyR k c.B
  · rw [h1.1 hk, h2.1 hk]
  · rw [h1.2 hk, h2.2 hk]
def GuPost (w0 : World) (L : List HProp) (pts : List Pt) (c : Cf) (k : Ky) (e : Ending) (w' : World) : Prop :=
  ∃ (ad : Option Addr) (cap : Nat) (ec : Int) (g : List Int), e = .returned (.tuple #[.slice ad g.length cap, .int .i64 ec]) ∧ GrRel pts c k g ∧ g.length ≤ 7 ∧ At w0 (OI (.slice ad g.length cap) g :: L) w'
theorem groupU {v : Value} {c : Cf} {S : List Int} {pts : List Pt} (hr : RgF 84 w v c S pts) (hp : PtsOk c pts) (hF : 0 ≤ c.F ∧ c.F ≤ 3) (k : Ky) (H : At w0 L w) :
    Calls Try.prog 16 #[v, .agg #[.int .i64 k.k, .int .i64 k.a, .int .i64 k.b, .int .i64 k.c]] w (GuPost w0 L pts c k) := by
  refine (group hr hp.s hp.l hp.p hF hp.f k H).mono ?_
  rintro e w' (⟨hk, v, rfl, HX⟩ | ⟨hk, rfl, HX⟩)
  · obtain ⟨ad, cap, rfl⟩ := own_any HX
    have hl := (group_ok (S := pts.map Pt.s) hp hF (fun p hp => List.mem_map.2 ⟨p, hp, rfl⟩) k).l
    exact ⟨ad, cap, 0, _, rfl, ⟨fun _ => rfl, fun h => absurd hk h⟩, by omega, HX⟩
  · exact ⟨none, 0, 21, [], rfl, ⟨fun h => absurd h hk, fun _ => rfl⟩, by simp, oi_nil HX⟩
theorem own_row1 {vs : Nat → Value} {N : Nat} {gv v : Value} (H : At w0 (OwnRow 27 1 gv (N + 1) (slC vs N ++ [v]) :: L) w) : At w0 (OwnRow 27 1 gv (N + 1) (slC (updF vs N v) (N + 1)) :: L) w := by
  rw [slC_upd]
  exact H
theorem own_row2 {vs : Nat → Value} {N : Nat} {gv v u : Value} (H : At w0 (OwnRow 27 1 gv (N + 2) (slC vs N ++ [v, u]) :: L) w) : At w0 (OwnRow 27 1 gv (N + 2) (slC (updF (updF vs N v) (N + 1) u) (N + 2)) :: L) w := by
  rw [slC_upd, slC_upd, List.append_assoc]
  exact H
end
end Rg
end Go.Proofs.Ytohfboolicheeaa
