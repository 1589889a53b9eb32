/-
  A ring that stands: where a hash's first point is.
-/
import Derived.Test.YtohfboolicheeaaRgNew
namespace Go.Proofs.Ytohfboolicheeaa
open Go.Hp Go.RowKit
set_option linter.unusedVariables false
set_option linter.unusedSimpArgs false
set_option maxRecDepth 100000
set_option maxHeartbeats 2000000
namespace Rg

def rgCells (v : Value) (c : Cf) (q : Value) : List Value := [v, .int .i64 c.F, .int .i64 c.P, .int .i64 c.B, .int .i64 c.K, .int .i64 c.R, q]
/-- A ring that stands in a world. -/
def RgF (t : TypeId) (w : World) (v : Value) (c : Cf) (S : List Int) (pts : List Pt) : Prop :=
  ∃ (g : Nat) (s1 : Option Addr) (s2 s3 : Nat) (p1 : Option Addr) (p2 p3 : Nat), v = .pointer (some ⟨g, 0, none⟩) ∧ w.heap[g]? = some (.cells (rgCells (.slice s1 s2 s3) c (.slice p1 p2 p3)).toArray t (0, 0)) ∧
    RecsAt w (.slice s1 s2 s3) 1 (S.map iC) ∧ RecsAt w (.slice p1 p2 p3) 3 (pts.map Pt.cells)
theorem RgF.ext {t : TypeId} {w w' : World} {v : Value} {c : Cf} {S : List Int} {pts : List Pt} (h : RgF t w v c S pts) (hx : Ext w w') : RgF t w' v c S pts := by
  obtain ⟨g, s1, s2, s3, p1, p2, p3, h1, h2, h3, h4⟩ := h
  refine ⟨g, s1, s2, s3, p1, p2, p3, h1, ?_, h3.ext hx, h4.ext hx⟩
  rw [hx.2 g (Array.getElem?_eq_some_iff.1 h2).1]
  exact h2
theorem rgf_of {w0 w : World} {L : List HProp} {t tp : TypeId} {g : Nat} {c : Cf} {S : List Int} {pts : List Pt} (H : At w0 (RgR t tp g c S pts :: L) w) : RgF t w (.pointer (some ⟨g, 0, none⟩)) c S pts := by
  obtain ⟨s1, s2, s3, p1, p2, p3, H1⟩ := rgr_open H
  exact ⟨g, s1, s2, s3, p1, p2, p3, rfl, H1.get0, oi_recs (H1.pick 1 rfl), op_recs (H1.pick 2 rfl)⟩

/-- The points' hashes rise. -/
def PS (pts : List Pt) : Prop := pts.Pairwise fun a b => a.h ≤ b.h
theorem ps_sort (l : List Pt) : PS (sortP l) := by
  refine (sortP_sorted l).imp ?_
  intro a b h
  unfold leP aheadS at h
  by_cases e : b.h = a.h
  · omega
  · rw [if_pos e] at h
    simp at h
    exact h
/-- How many points lie below a hash. -/
def fi (pts : List Pt) (h : Int) : Nat := (pts.takeWhile fun p => decide (p.h < h)).length
theorem fi_le (pts : List Pt) (h : Int) : fi pts h ≤ pts.length := (List.takeWhile_sublist _).length_le
theorem fi_lo {pts : List Pt} {h : Int} {j : Nat} {p : Pt} (hj : pts[j]? = some p) (hlt : j < fi pts h) : p.h < h := by
  unfold fi at hlt
  have hp := List.takeWhile_prefix (l := pts) fun p => decide (p.h < h)
  obtain ⟨x, hx⟩ : ∃ x, (pts.takeWhile fun p => decide (p.h < h))[j]? = some x := ⟨_, List.getElem?_eq_getElem hlt⟩
  have hm := List.mem_of_getElem? hx
  have he : pts[j]? = some x := by
    obtain ⟨t, ht⟩ := hp
    rw [← ht, List.getElem?_append_left hlt]
    exact hx
  rw [hj] at he
  cases he
  have := (List.all_takeWhile (l := pts) (p := fun p => decide (p.h < h)))
  have h2 := List.all_eq_true.1 this p hm
  simpa using h2
theorem fi_eq {pts : List Pt} {h : Int} {n : Nat} (hn : n ≤ pts.length) (h1 : ∀ j p, pts[j]? = some p → j < n → p.h < h) (h2 : ∀ j p, pts[j]? = some p → n ≤ j → ¬ p.h < h) : fi pts h = n := by
  unfold fi
  induction pts generalizing n with
  | nil => simp at hn; subst hn; rfl
  | cons x t ih =>
    cases n with
    | zero =>
      have := h2 0 x rfl (Nat.le_refl _)
      rw [List.takeWhile_cons_of_neg (by simpa using this)]
      rfl
    | succ n =>
      have := h1 0 x rfl (by omega)
      rw [List.takeWhile_cons_of_pos (by simpa using this), List.length_cons]
      rw [ih (n := n) (by simpa using hn) (fun j p hj hl => h1 (j + 1) p (by simpa using hj) (by omega)) (fun j p hj hl => h2 (j + 1) p (by simpa using hj) (by omega))]
theorem ps_mono {pts : List Pt} (h : PS pts) {i j : Nat} {p q : Pt} (hi : pts[i]? = some p) (hj : pts[j]? = some q) (hij : i ≤ j) : p.h ≤ q.h := by
  rcases Nat.lt_or_ge i j with hlt | hge
  · obtain ⟨h1, e1⟩ := List.getElem?_eq_some_iff.1 hi
    obtain ⟨h2, e2⟩ := List.getElem?_eq_some_iff.1 hj
    unfold PS at h
    rw [List.pairwise_iff_getElem] at h
    have := h i j h1 h2 hlt
    rw [e1, e2] at this
    exact this
  · have : i = j := by omega
    subst this
    rw [hi] at hj
    cases hj
    exact Int.le_refl _
def firstS (pts : List Pt) (h : Int) : Nat := fi pts h % pts.length

section
variable {w0 w : World} {L : List HProp}
theorem first1 (H : At w0 L w) (p : Pt) (h : Int) : Calls Try.prog 63 #[.agg p.cells.toArray, .int .i64 h] w (Ret w0 (.int .i64 (Lib.compareInt p.h h)) L) := by
  obtain ⟨ph, ps, pn⟩ := p
  simp only [Pt.cells]
  obtain ⟨R, hR⟩ : ∃ R, Lib.compareInt ph h = R := ⟨_, rfl⟩
  have HC := Lib.hid (fun (w2 : World) (M : List HProp) (HM : At w0 M w2) => cmp (p := At w0 M) HM ph h)
  rw [hR] at HC
  rw [hR]
  clear hR
  go_enter Try.func63, Try.ntmps63
  go_wp2_with (first | ((with_reducible refine k_box ?_); refine st_box rfl _ _ rfl _ rfl H ?_; (clear H; intro g2 w H K hK; simp only [Value.cells, Act.eval, Value.cells, Array.getD_eq_getD_getElem?, List.getElem?_toArray, List.getElem?_cons_succ, List.getElem?_cons_zero, Option.getD_some] at H; go_simp)) | ((with_reducible refine k_load ?_); refine st_load rfl _ _ rfl _ _ rfl ?_ H 0 rfl rfl ?_; (kernel_rfl); (intro K hK; go_simp)))
  refine (HC.out _ _ H).mono ?_
  rintro e w2 ⟨rfl, HX⟩
  go_wp2_with fail
  go_ret
  exact ⟨rfl, HX.drop⟩

theorem compare_lt (a b : Int) : decide (Lib.compareInt a b < 0) = decide (a < b) := by
  unfold Lib.compareInt
  (repeat' split) <;> simp <;> omega

def BsPost (w0 : World) (L : List HProp) (n : Nat) (e : Ending) (w' : World) : Prop := ∃ fb : Bool, e = .returned (.tuple #[.int .i64 n, .bool fb]) ∧ At w0 L w'
theorem bsP {v : Value} {pts : List Pt} (hs : PS pts) (hsz : pts.length ≤ 1000000) (hv : RecsAt w v 3 (pts.map Pt.cells)) (h : Int) (H : At w0 L w) :
    Calls Try.prog 62 #[v, .int .i64 h, .func (.func 63) #[] #[]] w (BsPost w0 L (fi pts h)) := by
  obtain ⟨W, rfl⟩ : ∃ W : World, W = w := ⟨_, rfl⟩
  have HF := At.of W
  have H0 := Lib.hid H
  obtain ⟨ad, cap, rfl, c1, c2, c3⟩ := hv.value
  rw [List.length_map] at c1 c3 hv ⊢
  have HV := Lib.hid hv
  have C3 := Lib.hid c3
  have HS := Lib.hid hs
  clear H hv c3 hs
  go_enter Try.func62, Try.ntmps62
  go_wp2_with fail
  go_loopw [9, 10] (fun a b wr => ∃ p q : Nat, p ≤ q ∧ q ≤ pts.length ∧ a = .int .i64 p ∧ b = .int .i64 q ∧ Hid ((∀ j x, pts[j]? = some x → j < p → x.h < h) ∧ (∀ j x, pts[j]? = some x → q ≤ j → h ≤ x.h)) ∧ At W [Arg W] wr) (fun a b _ => (intOf b).toNat - (intOf a).toNat)
  case atStart => exact ⟨0, pts.length, Nat.zero_le _, Nat.le_refl _, rfl, rfl, Lib.hid ⟨fun j x _ hj => absurd hj (Nat.not_lt_zero _), fun j x hx hj => absurd (List.getElem?_eq_some_iff.1 hx).1 (by omega)⟩, HF⟩
  case round =>
    clear HF
    obtain ⟨p, q, hpq, hq, rfl, rfl, HI, HF⟩ := hrel
    by_cases hlt : p < q
    · have g1 : (p : Int) < q := by omega
      have hmid : (p + q) / 2 < pts.length := by omega
      obtain ⟨x, hx⟩ : ∃ x, pts[(p + q) / 2]? = some x := ⟨_, List.getElem?_eq_getElem hmid⟩
      obtain ⟨b, rfl⟩ := C3.out (by omega)
      have Hc := Lib.hid (fun (w2 : World) (hxx : Ext W w2) j u hj => hxx.cell (recs_get HV.out hx j u hj))
      have Hx := Lib.hid hx
      have Hs := Lib.hid (show sizeT Try.prog 87 = some x.cells.length from s87)
      obtain ⟨cv, hcv⟩ : ∃ cv, Lib.compareInt x.h h = cv := ⟨_, rfl⟩
      have HC := Lib.hid (fun (w2 : World) (M : List HProp) (HM : At W M w2) => first1 HM x h)
      rw [hcv] at HC
      have hlt2 := compare_lt x.h h
      rw [hcv] at hlt2
      clear hx hcv
      by_cases hxn : cv < 0
      · have HXN := Lib.hid (show x.h < h by rw [decide_eq_true hxn] at hlt2; exact of_decide_eq_true hlt2.symm)
        clear hlt2
        go_wp2_with (first | ((with_reducible refine k_load ?_); refine st_loadCells rfl _ _ rfl _ rfl a87 x.cells Hs.out (Hc.out _ (HF.ext 0 rfl)) ?_; (intro K hK; go_simp)))
        refine (HC.out _ _ HF).mono ?_
        rintro e w ⟨rfl, HF⟩
        go_wp2_with fail
        go_roundw
        case rel => exact ⟨(p + q) / 2 + 1, q, by omega, hq, by rw [show ((p : Int) + (q : Int)) / 2 + 1 = (((p + q) / 2 + 1 : Nat) : Int) by omega], rfl, Lib.hid ⟨fun j y hy hj => by have := ps_mono HS.out hy Hx.out (by omega); have := HXN.out; omega, HI.out.2⟩, HF⟩
        case measure => simp [intOf]; omega
      · have HXN := Lib.hid (show ¬ x.h < h by rw [decide_eq_false hxn] at hlt2; exact of_decide_eq_false hlt2.symm)
        clear hlt2
        go_wp2_with (first | ((with_reducible refine k_load ?_); refine st_loadCells rfl _ _ rfl _ rfl a87 x.cells Hs.out (Hc.out _ (HF.ext 0 rfl)) ?_; (intro K hK; go_simp)))
        refine (HC.out _ _ HF).mono ?_
        rintro e w ⟨rfl, HF⟩
        go_wp2_with fail
        go_roundw
        case rel => exact ⟨p, (p + q) / 2, by omega, by omega, rfl, by rw [show ((p : Int) + (q : Int)) / 2 = (((p + q) / 2 : Nat) : Int) by omega], Lib.hid ⟨HI.out.1, fun j y hy hj => by have := ps_mono HS.out Hx.out hy (by omega); have := HXN.out; omega⟩, HF⟩
        case measure => simp [intOf]; omega
    · have g1 : ¬ (p : Int) < q := by omega
      have hpq2 : p = q := by omega
      have Hp := Lib.hid (show fi pts h = p from fi_eq (by omega) HI.out.1 (fun j y hy hj => by have := HI.out.2 j y hy (by omega); omega))
      clear HI
      by_cases hpl : p < pts.length
      · have gp : (p : Int) < pts.length := by omega
        obtain ⟨x, hx⟩ : ∃ x, pts[p]? = some x := ⟨_, List.getElem?_eq_getElem hpl⟩
        obtain ⟨b, rfl⟩ := C3.out (by omega)
        have Hc := Lib.hid (fun (w2 : World) (hxx : Ext W w2) j u hj => hxx.cell (recs_get HV.out hx j u hj))
        have Hs := Lib.hid (show sizeT Try.prog 87 = some x.cells.length from s87)
        obtain ⟨cv, hcv⟩ : ∃ cv, Lib.compareInt x.h h = cv := ⟨_, rfl⟩
        have HC := Lib.hid (fun (w2 : World) (M : List HProp) (HM : At W M w2) => first1 HM x h)
        rw [hcv] at HC
        clear hx hcv hpq2
        go_wp2_with (first | ((with_reducible refine k_load ?_); refine st_loadCells rfl _ _ rfl _ rfl a87 x.cells Hs.out (Hc.out _ (HF.ext 0 rfl)) ?_; (intro K hK; go_simp)))
        refine (HC.out _ _ HF).mono ?_
        rintro e w ⟨rfl, HF⟩
        go_wp2_with fail
        go_ret2
        refine ⟨cv == 0, ?_, HF.lift0 H0.out⟩
        rw [Hp.out]
        rfl
      · have gp : ¬ (p : Int) < pts.length := by omega
        clear hpq2
        go_wp2_with fail
        go_ret2
        refine ⟨false, ?_, HF.lift0 H0.out⟩
        rw [Hp.out]
        rfl

theorem first {v : Value} {c : Cf} {S : List Int} {pts : List Pt} (hr : RgF 84 w v c S pts) (hs : PS pts) (hsz : pts.length ≤ 1000000) (hpos : 0 < pts.length) (h : Int) (H : At w0 L w) :
    Calls Try.prog 45 #[v, .int .i64 h] w (Ret w0 (.int .i64 (firstS pts h : Nat)) L) := by
  obtain ⟨W, rfl⟩ : ∃ W : World, W = w := ⟨_, rfl⟩
  have HF := At.of W
  have H0 := Lib.hid H
  obtain ⟨g, s1, s2, s3, p1, p2, p3, rfl, hg, hS, hp⟩ := hr
  have Hg := Lib.hid (fun (w2 : World) (hx : Ext W w2) => hx.cell (show W.cell? ⟨g, 6, none⟩ = some (.slice p1 p2 p3) from by
    have := cells_of hg 6 (.slice p1 p2 p3) rfl
    rwa [Addr.add_lit, Nat.zero_add] at this))
  obtain ⟨ad, cap, hv, c1, c2, c3⟩ := hp.value
  cases hv
  rw [List.length_map] at c1 c3 hp Hg
  have HV := Lib.hid hp
  have C3 := Lib.hid c3
  have HS := Lib.hid hs
  obtain ⟨R, hR⟩ : ∃ R, fi pts h = R := ⟨_, rfl⟩
  have hRl : R ≤ pts.length := by rw [← hR]; exact fi_le _ _
  have HB := Lib.hid (fun (w2 : World) (M : List HProp) (hx : Ext W w2) (HM : At W M w2) => bsP hs hsz (hp.ext hx) h HM)
  rw [hR] at HB
  unfold firstS
  rw [hR]
  have HR := Lib.hid hR
  clear H hp c3 hs hS hg hR
  go_enter Try.func45, Try.ntmps45
  go_wp2_with (first | ((with_reducible refine k_load ?_); refine st_load1 rfl _ _ rfl _ rfl rfl (Hg.out _ (HF.ext 0 rfl)) ?_; (intro K hK; go_simp)))
  refine (HB.out _ _ (HF.ext 0 rfl) HF).mono ?_
  rintro e w2 ⟨fb, rfl, HX⟩
  clear HF HB
  have HF := HX
  clear HX
  go_wp2_with fail
  go_loopw [5] (fun i wr => i = .int .i64 R ∧ At W (Arg W :: []) wr) (fun i _ => (intOf i).toNat)
  case atStart => exact ⟨rfl, HF⟩
  case round =>
    clear HF
    obtain ⟨rfl, HF⟩ := hrel
    have hmod : ((R : Int)).tmod (pts.length : Int) = ((R % pts.length : Nat) : Int) := IntWalk.up_tmod rfl rfl
    have hne : ((pts.length : Int) == 0) = false := by rw [beq_eq_false_iff_ne]; omega
    rcases Nat.eq_zero_or_pos R with h0 | h0
    · subst h0
      go_wp2_with (first | ((with_reducible refine k_load ?_); refine st_load1 rfl _ _ rfl _ rfl rfl (Hg.out _ (HF.ext 0 rfl)) ?_; (intro K hK; go_simp)))
      go_ret
      exact ⟨rfl, HF.lift0 H0.out⟩
    · obtain ⟨r, rfl⟩ : ∃ r, R = r + 1 := ⟨R - 1, by omega⟩
      obtain ⟨x, hx⟩ : ∃ x, pts[r]? = some x := ⟨_, List.getElem?_eq_getElem (by omega)⟩
      obtain ⟨b, rfl⟩ := C3.out (by omega)
      have gr : (0 : Int) < (r : Int) + 1 := by omega
      have hwr : wrap64 ((r : Int) + 1 - 1) = r := by rw [wrap64_of (by omega) (by omega)]; omega
      have gr2 : (r : Int) < pts.length := by omega
      have hxh := fi_lo hx (by rw [HR.out]; omega)
      have hxb : (x.h == h) = false := by rw [beq_eq_false_iff_ne]; omega
      have Hc := Lib.hid (fun (w2 : World) (hxx : Ext W w2) => hxx.cell (show W.cell? (b.add (r * 3)) = some (.int .i64 x.h) from by
        have := recs_get HV.out hx 0 _ rfl
        rwa [Addr.add_add, Nat.add_zero] at this))
      clear hx hxh
      go_wp2_with (first | ((with_reducible refine k_load ?_); (first | refine st_load1 rfl _ _ rfl _ rfl rfl (Hg.out _ (HF.ext 0 rfl)) ?_ | refine st_load1 rfl _ _ rfl _ rfl rfl (Hc.out _ (HF.ext 0 rfl)) ?_); (intro K hK; go_simp)))
      go_ret
      refine ⟨?_, HF.lift0 H0.out⟩
      show Ending.returned (.int .i64 (((r : Int) + 1) % (pts.length : Int))) = _
      rw [show ((r : Int) + 1) % (pts.length : Int) = (((r + 1) % pts.length : Nat) : Int) from by rw [Int.natCast_emod]; rfl]
end
end Rg
end Go.Proofs.Ytohfboolicheeaa
