/-
  The law's fixed answers: of a small ring.
-/
import Derived.Test.YtohfboolicheeaaRgShare
import Derived.Test.YtohfboolicheeaaRgRNew
namespace Go.Proofs.Ytohfboolicheeaa
open Go.Hp Go.RowKit
set_option linter.unusedVariables false
set_option linter.unusedSimpArgs false
set_option maxRecDepth 100000
set_option maxHeartbeats 2000000
namespace Rg

def pts0 : List Pt := insAll (ptsOf [10, 20, 30] 2)
def k0 : Ky := ⟨2, 3, 0, 0⟩
def plum : ByteArray := ⟨#[112, 108, 117, 109]⟩
theorem k_sort : sortI [30, 10, 20] = [10, 20, 30] := by
  rw [← rising_sort (l := [30, 10, 20]) (by intro y hy; simp only [List.mem_cons, List.not_mem_nil, or_false] at hy; omega)]
  decide +kernel
theorem k_pts : sortP (ptsOf [10, 20, 30] 2) = pts0 := (sortP_ins _).symm
theorem k_group : (groupS pts0 3 k0).length = 3 := by decide +kernel
theorem k_hash : hashK k0 = 2379895076 := by decide +kernel
theorem k_plum : textS plum % 4 = 3 := by decide +kernel
theorem k_len : pts0.length = 6 := by decide +kernel
theorem k_cnt : ∃ r, floatBits .quo .f64 (floatOfInt .f64 (countS pts0 10)) 4751297606875873280 = some r ∧ (FloatKind.f64.format.order r 0 == some .gt) = true := by
  have h : ((floatBits .quo .f64 (floatOfInt .f64 (countS pts0 10)) 4751297606875873280).map fun r => FloatKind.f64.format.order r 0 == some .gt) = some true := by decide +kernel
  obtain ⟨r, hr, hg⟩ := Option.map_eq_some_iff.1 h
  exact ⟨r, hr, hg⟩
theorem k_right : RightC ⟨1, 2, 4, 8, 2⟩ [30, 10, 20] := by
  refine ⟨by decide, by decide, by decide, by decide, by decide, by decide, ?_, by decide⟩
  intro x hx
  simp only [List.mem_cons, List.not_mem_nil, or_false] at hx
  omega

theorem pts_b {S : List Int} {P : Nat} : ∀ p ∈ sortP (ptsOf S P), 0 ≤ p.h ∧ p.h < 4294967296 := by
  intro p hp
  have h1 := (sortP_perm _).mem_iff.1 hp
  unfold ptsOf at h1
  obtain ⟨s, _, h2⟩ := List.mem_flatMap.1 h1
  obtain ⟨n, _, rfl⟩ := List.mem_map.1 h2
  have := hash2_lt s n
  dsimp only
  omega
theorem pts_l {S : List Int} {P : Nat} : (sortP (ptsOf S P)).length = S.length * P := by rw [(sortP_perm _).length_eq, ptsOf_len]
/-- What a right configuration's points are. -/
structure PtsOk (c : Cf) (pts : List Pt) : Prop where
  s : PS pts
  l : pts.length ≤ 100000
  p : 0 < pts.length
  b : ∀ p ∈ pts, 0 ≤ p.h ∧ p.h < 4294967296
  f : ∀ a, 2 * c.F + 1 ≤ (((rot (pts.map Pt.s) a).foldl addS []).length : Int)
theorem pts_ok {c : Cf} {S : List Int} (h : RightC c S) : PtsOk c (sortP (ptsOf (sortI S) c.P.toNat)) := by
  have hl : (sortI S).length = S.length := (sortI_perm S).length_eq
  have h1 := h.n
  have h2 := h.p
  have h3 := h.f
  refine ⟨ps_sort _, ?_, ?_, pts_b, fun a => ?_⟩
  · rw [pts_l, hl]
    have : S.length * c.P.toNat ≤ 64 * 64 := Nat.mul_le_mul (by omega) (by omega)
    omega
  · rw [pts_l, hl]
    exact Nat.mul_pos (by omega) (by omega)
  · have := full_len (S := sortI S) (l := (sortP (ptsOf (sortI S) c.P.toNat)).map Pt.s) ((sortI_perm S).nodup_iff.2 h.d) (fun x hx => pts_mem (by omega) hx) a
    omega

section
variable {w0 w : World} {L : List HProp}
theorem known (H : At w0 L w) : Calls Try.prog 15 #[] w (Ret w0 (.bool true) L) := by
  obtain ⟨r, hr1, hr2⟩ := k_cnt
  have HR1 := Lib.hid hr1
  have HR2 := Lib.hid hr2
  clear hr1 hr2
  have hnf : ∀ (gp : Nat) (w : World), (binOp .eql 60 (.func (.func 48) #[] #[.pointer (some ⟨gp, 0, none⟩)]) .nilFunc).run Try.prog w = .ok (.bool false) w := fun gp w => rfl
  go_enter Try.func15, Try.ntmps15
  go_wp2_with fail
  have HA := H.alloc (Obj.cells #[.int .i64 30, .int .i64 10, .int .i64 20] 3)
  have hrec : RecsAt (w.alloc (Obj.cells #[.int .i64 30, .int .i64 10, .int .i64 20] 3)) (.slice (some ⟨w.heap.size, 0, none⟩) 3 3) 1 ([30, 10, 20].map iC) := by
    refine ⟨⟨some ⟨w.heap.size, 0, none⟩, 3, rfl, Nat.le_refl _, by simp [maxLen], fun _ => ⟨_, rfl⟩, fun b0 hb j u hj => ?_⟩, by intro r hr; obtain ⟨e, _, rfl⟩ := List.mem_map.1 hr; rfl⟩
    cases hb
    exact cells_of (c := [.int .i64 30, .int .i64 10, .int .i64 20]) HA.get0 j u hj
  have HNw := new (c := ⟨1, 2, 4, 8, 2⟩) hrec HA
  refine HNw.mono ?_
  rintro e w2 (⟨g, rfl, _, HX⟩ | ⟨_, hn, _⟩)
  case inr => exact absurd k_right hn
  clear HA hrec HNw H
  rw [k_sort] at HX
  have e2 : ((⟨1, 2, 4, 8, 2⟩ : Cf).P).toNat = 2 := rfl
  rw [e2, k_pts] at HX
  clear e2
  have hok : PtsOk ⟨1, 2, 4, 8, 2⟩ pts0 := by
    have := pts_ok k_right
    rw [k_sort] at this
    have e2 : ((⟨1, 2, 4, 8, 2⟩ : Cf).P).toNat = 2 := rfl
    rw [e2, k_pts] at this
    exact this
  have HOK := Lib.hid hok
  clear hok
  have HF := HX
  clear HX
  go_wp2_with fail
  refine (points0 HF _).mono ?_
  rintro e w3 ⟨gp, rfl, HX⟩
  clear HF
  have HF := HX.drop
  clear HX
  have hnf2 := hnf gp
  clear hnf
  go_wp2_with fail
  have hgr := group (rgf_of HF) HOK.out.s HOK.out.l HOK.out.p (show (0 : Int) ≤ 1 ∧ (1 : Int) ≤ 3 by decide) HOK.out.f k0 HF
  refine hgr.mono ?_
  rintro e w4 (⟨_, v, rfl, HX⟩ | ⟨hn, _⟩)
  case inr => exact absurd (show KeyR k0 4 from .inr (.inl ⟨rfl, by decide, rfl, rfl⟩)) hn
  clear HF hgr
  have e3 : ((2 * (⟨1, 2, 4, 8, 2⟩ : Cf).F + 1).toNat) = 3 := rfl
  rw [e3] at HX
  clear e3
  obtain ⟨va, vc, hv, _⟩ := own_value HX
  rw [k_group] at hv
  subst hv
  have HF := HX.drop
  clear HX
  have HHs := hashP HF k0
  rw [k_hash] at HHs
  go_wp2_with fail
  refine HHs.mono ?_
  rintro e w5 ⟨rfl, HX⟩
  clear HF HHs
  have HF := HX
  clear HX
  go_wp2_with fail
  have hbu := bucketP (rgf_of HF) (show (1 : Int) ≤ 4 ∧ (4 : Int) ≤ 256 by decide) plum (by simp [plum, ByteArray.size, maxLen]) HF
  rw [show ((textS plum : Nat) : Int) % (⟨1, 2, 4, 8, 2⟩ : Cf).B = 3 from by show ((textS plum : Nat) : Int) % 4 = 3; have := k_plum; omega] at hbu
  refine hbu.mono ?_
  rintro e w6 ⟨rfl, HX⟩
  clear HF hbu
  have HF := HX
  clear HX
  go_wp2_with fail
  refine (share (rgf_of HF) HOK.out.b HOK.out.l HOK.out.p 10 HR1.out HF).mono ?_
  rintro e w7 ⟨rfl, HX⟩
  clear HF
  have HF := HX
  clear HX
  have hgt := HR2.out
  go_wp2_with fail
  go_ret
  exact ⟨rfl, HF.sel 2 []⟩
end
end Rg
end Go.Proofs.Ytohfboolicheeaa
