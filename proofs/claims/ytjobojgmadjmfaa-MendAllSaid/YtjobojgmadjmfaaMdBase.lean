/-
  The binary search of mend's rows.
-/
import Derived.Test.YtjobojgmadjmfaaMdSpec
import Derived.IntWalk
namespace Go.Proofs.Ytjobojgmadjmfaa
open Go.Hp Go.RowKit
set_option linter.unusedVariables false
set_option linter.unusedSimpArgs false
namespace Md
section
variable {w0 w : World} {L : List HProp}

theorem isNaN (H : At w0 L w) (x : Int) : Calls Try.prog 62 #[.int .i64 x] w (Ret w0 (.bool false) L) := by
  go_enter Try.func62, Try.ntmps62
  go_wp2_with fail
  go_ret
  exact ⟨rfl, H⟩

def cmpS (a b : Int) : Int := if a < b then -1 else if b < a then 1 else 0

theorem cmp (H : At w0 L w) (a b : Int) : Calls Try.prog 60 #[.int .i64 a, .int .i64 b] w (Ret w0 (.int .i64 (cmpS a b)) L) := by
  unfold cmpS
  by_cases h1 : a < b
  · rw [if_pos h1]
    go_enter Try.func60, Try.ntmps60
    go_wp2_with fail
    refine (isNaN H a).mono ?_
    rintro e w ⟨rfl, H⟩
    go_wp2_with fail
    refine (isNaN H b).mono ?_
    rintro e w ⟨rfl, H⟩
    go_wp2_with fail
    go_ret
    exact ⟨rfl, H⟩
  · rw [if_neg h1]
    by_cases h2 : b < a
    · rw [if_pos h2]
      go_enter Try.func60, Try.ntmps60
      go_wp2_with fail
      refine (isNaN H a).mono ?_
      rintro e w ⟨rfl, H⟩
      go_wp2_with fail
      refine (isNaN H b).mono ?_
      rintro e w ⟨rfl, H⟩
      go_wp2_with fail
      go_ret
      exact ⟨rfl, H⟩
    · rw [if_neg h2]
      go_enter Try.func60, Try.ntmps60
      go_wp2_with fail
      refine (isNaN H a).mono ?_
      rintro e w ⟨rfl, H⟩
      go_wp2_with fail
      refine (isNaN H b).mono ?_
      rintro e w ⟨rfl, H⟩
      go_wp2_with fail
      go_ret
      exact ⟨rfl, H⟩

theorem cmpPl (H : At w0 L w) (p : Pl) (n : Int) : Calls Try.prog 59 #[.agg p.cells.toArray, .int .i64 n] w (Ret w0 (.int .i64 (cmpS p.n n)) L) := by
  go_enter Try.func59, Try.ntmps59
  go_wp2_with (first | ((with_reducible refine k_box ?_); refine st_box rfl _ _ rfl _ rfl H ?_; (clear H; intro g w H K hK; go_simp)) | ((with_reducible refine k_load ?_); refine st_load rfl _ _ rfl _ _ rfl ?_ H 0 rfl rfl ?_; (kernel_rfl); (intro K hK; go_simp)))
  refine (cmp H p.n n).mono ?_
  rintro e w ⟨rfl, H⟩
  go_wp2_with fail
  go_ret
  exact ⟨rfl, H.drop⟩

theorem recs_get {w : World} {row : List Pl} {b : Addr} {cap : Nat} (hr : RecsAt w (.slice (some b) row.length cap) 15 (row.map Pl.cells)) {k : Nat} {p : Pl} (hk : row[k]? = some p) :
    ∀ j u, p.cells[j]? = some u → w.cell? ((b.add (k * 15)).add j) = some u := by
  intro j u hj
  rw [Addr.add_add]
  exact hr.cell (cap := cap) (by rw [List.length_map]) (by rw [List.getElem?_map, hk]; rfl) hj

def BsOk (row : List Pl) (n : Int) (k : Nat) (b : Bool) : Prop := k ≤ row.length ∧ (∀ (j : Nat) (p : Pl), row[j]? = some p → j < k → p.n < n) ∧
  (∀ (j : Nat) (p : Pl), row[j]? = some p → k ≤ j → n ≤ p.n) ∧ (b = true ↔ ∃ p, row[k]? = some p ∧ p.n = n)
def BsPost (w0 w : World) (L : List HProp) (row : List Pl) (n : Int) (e : Ending) (w' : World) : Prop := ∃ (k : Nat) (b : Bool), e = .returned (.tuple #[.int .i64 k, .bool b]) ∧ Ext w w' ∧ At w0 L w' ∧ BsOk row n k b

set_option maxRecDepth 1000000 in
theorem bs {v : Value} {row : List Pl} (hrs : Rising row) (hsz : row.length ≤ 140737488355328) (hv : RecsAt w v 15 (row.map Pl.cells)) (n : Int) (H : At w0 L w) :
    Calls Try.prog 58 #[v, .int .i64 n, .func (.func 59) #[] #[]] w (BsPost w0 w L row n) := by
  obtain ⟨ad, cap, rfl, c1, c2, c3⟩ := hv.value
  rw [List.length_map] at c1 c3 hv ⊢
  have Hv := Lib.hid hv
  have Hrs := Lib.hid hrs
  have HF := Lib.hid (At.of w)
  clear hv hrs
  go_enter Try.func58, Try.ntmps58
  go_wp2_with fail
  go_loopw [9, 10] (fun a b wr => ∃ p q : Nat, p ≤ q ∧ q ≤ row.length ∧ a = .int .i64 p ∧ b = .int .i64 q ∧ Hid ((∀ j x, row[j]? = some x → j < p → x.n < n) ∧ (∀ j x, row[j]? = some x → q ≤ j → n ≤ x.n)) ∧ At w [Arg w] wr) (fun a b _ => (intOf b).toNat - (intOf a).toNat)
  case atStart => exact ⟨0, row.length, Nat.zero_le _, Nat.le_refl _, rfl, rfl, Lib.hid ⟨fun j x _ h => absurd h (Nat.not_lt_zero _), fun j x h1 h2 => by have := (List.getElem?_eq_some_iff.1 h1).1; omega⟩, HF.out⟩
  case round =>
    clear HF
    obtain ⟨p, q, hpq, hq, rfl, rfl, HI, HF⟩ := hrel
    by_cases hlt : p < q
    · have g1 : (p : Int) < q := by omega
      have hmid : (p + q) / 2 < row.length := by omega
      obtain ⟨x, hx⟩ : ∃ x, row[(p + q) / 2]? = some x := ⟨_, List.getElem?_eq_getElem hmid⟩
      obtain ⟨b, rfl⟩ := c3 (by omega)
      have hc := fun j u hj => (HF.ext 0 rfl).cell (recs_get Hv.out hx j u hj)
      have Hc := Lib.hid hc
      have Hx := Lib.hid hx
      have Hl := Lib.hid (show x.cells.length = 15 from Hv.out.2 _ (List.mem_map_of_mem (List.mem_of_getElem? hx)))
      clear hc hx
      by_cases hxn : x.n < n
      · have hcm : cmpS x.n n = -1 := if_pos hxn
        go_wp2_with (first | ((with_reducible refine k_load ?_); refine st_loadCells rfl _ _ rfl _ rfl a86 x.cells (by rw [Hl.out]; exact s86) Hc.out ?_; (intro K hK; go_simp)))
        refine (cmpPl HF x n).mono ?_
        rintro e w ⟨rfl, HF⟩
        rw [hcm]
        go_wp2_with fail
        go_roundw
        case rel => exact ⟨(p + q) / 2 + 1, q, by omega, hq, by rw [show ((p : Int) + (q : Int)) / 2 + 1 = (((p + q) / 2 + 1 : Nat) : Int) by omega], rfl, Lib.hid ⟨fun j y h1 h2 => by
          rcases Nat.lt_or_ge j ((p + q) / 2) with h | h
          · have := Hrs.out j _ y x h h1 Hx.out; omega
          · have e : j = (p + q) / 2 := by omega
            subst e
            rw [Hx.out] at h1
            cases h1
            exact hxn, HI.out.2⟩, HF⟩
        case measure => simp [intOf]; omega
      · have hcm : ¬ cmpS x.n n < 0 := by unfold cmpS; rw [if_neg hxn]; split <;> omega
        go_wp2_with (first | ((with_reducible refine k_load ?_); refine st_loadCells rfl _ _ rfl _ rfl a86 x.cells (by rw [Hl.out]; exact s86) Hc.out ?_; (intro K hK; go_simp)))
        refine (cmpPl HF x n).mono ?_
        rintro e w ⟨rfl, HF⟩
        go_wp2_with fail
        go_roundw
        case rel => exact ⟨p, (p + q) / 2, by omega, by omega, rfl, by rw [show ((p : Int) + (q : Int)) / 2 = (((p + q) / 2 : Nat) : Int) by omega], Lib.hid ⟨HI.out.1, fun j y h1 h2 => by
          rcases Nat.lt_or_ge ((p + q) / 2) j with h | h
          · have := Hrs.out _ j x y h Hx.out h1; omega
          · have e : j = (p + q) / 2 := by omega
            subst e
            rw [Hx.out] at h1
            cases h1
            omega⟩, HF⟩
        case measure => simp [intOf]; omega
    · have g1 : ¬ (p : Int) < q := by omega
      have hqp : q = p := by omega
      have HI2 := Lib.hid (show (∀ j x, row[j]? = some x → j < p → x.n < n) ∧ (∀ j x, row[j]? = some x → p ≤ j → n ≤ x.n) from by rw [← hqp]; exact ⟨by rw [hqp]; exact HI.out.1, by rw [hqp]; rw [hqp] at HI; exact HI.out.2⟩)
      clear HI
      by_cases hpl : p < row.length
      · have gp : (p : Int) < row.length := by omega
        obtain ⟨x, hx⟩ : ∃ x, row[p]? = some x := ⟨_, List.getElem?_eq_getElem hpl⟩
        obtain ⟨b, rfl⟩ := c3 (by omega)
        have hc := fun j u hj => (HF.ext 0 rfl).cell (recs_get Hv.out hx j u hj)
        have Hc := Lib.hid hc
        have Hx := Lib.hid hx
        have Hl := Lib.hid (show x.cells.length = 15 from Hv.out.2 _ (List.mem_map_of_mem (List.mem_of_getElem? hx)))
        clear hc hx hqp
        by_cases hxn : x.n = n
        · have hcm : cmpS x.n n = 0 := by unfold cmpS; rw [if_neg (by omega), if_neg (by omega)]
          go_wp2_with (first | ((with_reducible refine k_load ?_); refine st_loadCells rfl _ _ rfl _ rfl a86 x.cells (by rw [Hl.out]; exact s86) Hc.out ?_; (intro K hK; go_simp)))
          refine (cmpPl HF x n).mono ?_
          rintro e w ⟨rfl, HF⟩
          rw [hcm]
          go_wp2_with fail
          go_ret2
          exact ⟨p, true, rfl, HF.ext 0 rfl, HF.lift0 H, by omega, HI2.out.1, HI2.out.2, ⟨fun _ => ⟨x, Hx.out, hxn⟩, fun _ => rfl⟩⟩
        · have hcm : (cmpS x.n n == 0) = false := by unfold cmpS; split <;> (try split) <;> simp <;> omega
          go_wp2_with (first | ((with_reducible refine k_load ?_); refine st_loadCells rfl _ _ rfl _ rfl a86 x.cells (by rw [Hl.out]; exact s86) Hc.out ?_; (intro K hK; go_simp)))
          refine (cmpPl HF x n).mono ?_
          rintro e w ⟨rfl, HF⟩
          go_wp2_with fail
          go_ret2
          exact ⟨p, false, rfl, HF.ext 0 rfl, HF.lift0 H, by omega, HI2.out.1, HI2.out.2, ⟨fun h => (by cases h), fun ⟨y, h1, h2⟩ => by rw [Hx.out] at h1; cases h1; exact absurd h2 hxn⟩⟩
      · have gp : ¬ (p : Int) < row.length := by omega
        clear hqp
        go_wp2_with fail
        go_ret2
        exact ⟨p, false, rfl, HF.ext 0 rfl, HF.lift0 H, by omega, HI2.out.1, HI2.out.2, ⟨fun h => (by cases h), fun ⟨y, h1, h2⟩ => by have := (List.getElem?_eq_some_iff.1 h1).1; omega⟩⟩
end
end Md
end Go.Proofs.Ytjobojgmadjmfaa
