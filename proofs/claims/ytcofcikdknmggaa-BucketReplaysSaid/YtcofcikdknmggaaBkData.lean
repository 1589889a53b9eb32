/-
  Where names and clients stand in lists, whatever their order: the searches as plain functions.
-/
import Derived.Test.YtcofcikdknmggaaBkBase
namespace Go.Proofs.Ytcofcikdknmggaa
open Go.Hp Go.RowKit
set_option linter.unusedVariables false
set_option linter.unusedSimpArgs false
set_option maxRecDepth 100000
namespace Bk

structure En where
  nm : ByteArray
  fc : Int
  fo : Int
  sz : Int
def En.cells (e : En) : List Value := [.string e.nm, .int .i64 e.fc, .int .i64 e.fo, .int .i64 e.sz]
structure La where
  cl : Int
  op : Int
  ins : Int
  err : Int
  fc : Int
  fo : Int
  sz : Int
def La.cells (x : La) : List Value := [.int .i64 x.cl, .int .i64 x.op, .int .i64 x.ins, .int .i64 x.err, .int .i64 x.fc, .int .i64 x.fo, .int .i64 x.sz]
theorem En.len (e : En) : e.cells.length = 4 := rfl
theorem La.len (x : La) : x.cells.length = 7 := rfl

def cmpN (a b : ByteArray) : Int := Lib.compareBytes a.data.toList b.data.toList
def cmpI (a b : Int) : Int := if a < b then -1 else if b < a then 1 else 0
def cmpE (l : List En) (s : ByteArray) (j : Nat) : Int := match l[j]? with | some e => cmpN e.nm s | none => 0
def cmpL (l : List La) (c : Int) (j : Nat) : Int := match l[j]? with | some x => cmpI x.cl c | none => 0
theorem cmpE_at {l : List En} {s : ByteArray} {j : Nat} {e : En} (h : l[j]? = some e) : cmpE l s j = cmpN e.nm s := by unfold cmpE; rw [h]
theorem cmpL_at {l : List La} {c : Int} {j : Nat} {x : La} (h : l[j]? = some x) : cmpL l c j = cmpI x.cl c := by unfold cmpL; rw [h]

def bsI (lt : Nat → Bool) (p q : Nat) : Nat :=
  if h : p < q then (if lt ((p + q) / 2) = true then bsI lt ((p + q) / 2 + 1) q else bsI lt p ((p + q) / 2)) else p
termination_by q - p

theorem bsI_lt {lt : Nat → Bool} {p q : Nat} (h : p < q) (hl : lt ((p + q) / 2) = true) : bsI lt p q = bsI lt ((p + q) / 2 + 1) q := by
  rw [bsI, dif_pos h, if_pos hl]
theorem bsI_ge {lt : Nat → Bool} {p q : Nat} (h : p < q) (hl : lt ((p + q) / 2) = false) : bsI lt p q = bsI lt p ((p + q) / 2) := by
  rw [bsI, dif_pos h, if_neg (by rw [hl]; decide)]
theorem bsI_end {lt : Nat → Bool} {p q : Nat} (h : ¬ p < q) : bsI lt p q = p := by
  rw [bsI, dif_neg h]
theorem bsI_le {lt : Nat → Bool} : ∀ (n p q : Nat), q - p ≤ n → p ≤ q → p ≤ bsI lt p q ∧ bsI lt p q ≤ q
  | 0, p, q, hn, h => by rw [bsI_end (by omega)]; exact ⟨Nat.le_refl _, h⟩
  | n + 1, p, q, hn, h => by
    by_cases hlt : p < q
    · cases hm : lt ((p + q) / 2) with
      | true =>
        rw [bsI_lt hlt hm]
        have := bsI_le (lt := lt) n ((p + q) / 2 + 1) q (by omega) (by omega)
        exact ⟨by omega, this.2⟩
      | false =>
        rw [bsI_ge hlt hm]
        have := bsI_le (lt := lt) n p ((p + q) / 2) (by omega) (by omega)
        exact ⟨this.1, by omega⟩
    · rw [bsI_end hlt]; exact ⟨Nat.le_refl _, h⟩

def plI (l : List En) (s : ByteArray) : Nat := bsI (fun j => decide (cmpE l s j < 0)) 0 l.length
def plB (l : List En) (s : ByteArray) : Bool := decide (plI l s < l.length) && (cmpE l s (plI l s) == 0)
def seI (l : List La) (c : Int) : Nat := bsI (fun j => decide (cmpL l c j < 0)) 0 l.length
def seB (l : List La) (c : Int) : Bool := decide (seI l c < l.length) && (cmpL l c (seI l c) == 0)
theorem plI_le (l : List En) (s : ByteArray) : plI l s ≤ l.length := (bsI_le _ _ _ (Nat.le_refl _) (Nat.zero_le _)).2
theorem seI_le (l : List La) (c : Int) : seI l c ≤ l.length := (bsI_le _ _ _ (Nat.le_refl _) (Nat.zero_le _)).2
theorem plB_lt {l : List En} {s : ByteArray} (h : plB l s = true) : plI l s < l.length := by
  unfold plB at h; simp at h; exact h.1
theorem seB_lt {l : List La} {c : Int} (h : seB l c = true) : seI l c < l.length := by
  unfold seB at h; simp at h; exact h.1

section
variable {w0 w : World} {L : List HProp}

theorem pl1 (H : At w0 L w) (e : En) (s : ByteArray) : Calls Try.prog 50 #[.agg e.cells.toArray, .string s] w (Ret w0 (.int .i64 (cmpN e.nm s)) L) := by
  go_enter Try.func50, Try.ntmps50
  go_wp2_with (first | ((with_reducible refine k_box ?_); refine st_box rfl _ _ rfl _ rfl H ?_; (clear H; intro g w H K hK; go_simp)) | ((with_reducible refine k_load ?_); refine st_load rfl _ _ rfl _ _ rfl ?_ H 0 rfl rfl ?_; (kernel_rfl); (intro K hK; go_simp)))
  refine (cmpS H e.nm s).mono ?_
  rintro e w ⟨rfl, H⟩
  go_wp2_with fail
  go_ret
  exact ⟨rfl, H.drop⟩

theorem isNaN (H : At w0 L w) (x : Int) : Calls Try.prog 62 #[.int .i64 x] w (Ret w0 (.bool false) L) := by
  go_enter Try.func62, Try.ntmps62
  go_wp2_with fail
  go_ret
  exact ⟨rfl, H⟩

theorem cmp (H : At w0 L w) (a b : Int) : Calls Try.prog 54 #[.int .i64 a, .int .i64 b] w (Ret w0 (.int .i64 (cmpI a b)) L) := by
  unfold cmpI
  by_cases h1 : a < b
  · rw [if_pos h1]
    go_enter Try.func54, Try.ntmps54
    go_wp2_with fail
    refine (isNaN H a).mono ?_
    rintro e w ⟨rfl, H⟩
    go_wp2_with fail
    refine (isNaN H b).mono ?_
    rintro e w ⟨rfl, H⟩
    go_wp2_with fail
    go_ret
    exact ⟨rfl, H⟩
  · rw [if_neg h1]
    by_cases h2 : b < a
    · rw [if_pos h2]
      go_enter Try.func54, Try.ntmps54
      go_wp2_with fail
      refine (isNaN H a).mono ?_
      rintro e w ⟨rfl, H⟩
      go_wp2_with fail
      refine (isNaN H b).mono ?_
      rintro e w ⟨rfl, H⟩
      go_wp2_with fail
      go_ret
      exact ⟨rfl, H⟩
    · rw [if_neg h2]
      go_enter Try.func54, Try.ntmps54
      go_wp2_with fail
      refine (isNaN H a).mono ?_
      rintro e w ⟨rfl, H⟩
      go_wp2_with fail
      refine (isNaN H b).mono ?_
      rintro e w ⟨rfl, H⟩
      go_wp2_with fail
      go_ret
      exact ⟨rfl, H⟩

theorem se1 (H : At w0 L w) (x : La) (n : Int) : Calls Try.prog 53 #[.agg x.cells.toArray, .int .i64 n] w (Ret w0 (.int .i64 (cmpI x.cl n)) L) := by
  go_enter Try.func53, Try.ntmps53
  go_wp2_with (first | ((with_reducible refine k_box ?_); refine st_box rfl _ _ rfl _ rfl H ?_; (clear H; intro g w H K hK; go_simp)) | ((with_reducible refine k_load ?_); refine st_load rfl _ _ rfl _ _ rfl ?_ H 0 rfl rfl ?_; (kernel_rfl); (intro K hK; go_simp)))
  refine (cmp H x.cl n).mono ?_
  rintro e w ⟨rfl, H⟩
  go_wp2_with fail
  go_ret
  exact ⟨rfl, H.drop⟩

theorem recs_get {α : Type} {f : α → List Value} {sz : Nat} {w : World} {row : List α} {b : Addr} {cap : Nat} (hr : RecsAt w (.slice (some b) row.length cap) sz (row.map f)) {k : Nat} {p : α} (hk : row[k]? = some p) :
    ∀ j u, (f p)[j]? = some u → w.cell? ((b.add (k * sz)).add j) = some u := by
  intro j u hj
  rw [Addr.add_add]
  exact hr.cell (cap := cap) (by rw [List.length_map]) (by rw [List.getElem?_map, hk]; rfl) hj

set_option maxRecDepth 1000000 in
theorem bsE {v : Value} {row : List En} (hsz : row.length ≤ 140737488355328) (hv : RecsAt w v 4 (row.map En.cells)) (s : ByteArray) (H : At w0 L w) :
    Calls Try.prog 49 #[v, .string s, .func (.func 50) #[] #[]] w (fun e w' => e = .returned (.tuple #[.int .i64 (plI row s : Nat), .bool (plB row s)]) ∧ Ext w w' ∧ At w0 L w') := by
  obtain ⟨ad, cap, rfl, c1, c2, c3⟩ := hv.value
  rw [List.length_map] at c1 c3 hv ⊢
  have Hv := Lib.hid hv
  have H0 := Lib.hid H
  have HF := Lib.hid (At.of w)
  clear hv H
  go_enter Try.func49, Try.ntmps49
  go_wp2_with fail
  go_loopw [9, 10] (fun a b wr => ∃ p q : Nat, p ≤ q ∧ q ≤ row.length ∧ a = .int .i64 p ∧ b = .int .i64 q ∧ Hid (bsI (fun j => decide (cmpE row s j < 0)) p q = plI row s) ∧ At w [Arg w] wr) (fun a b _ => (intOf b).toNat - (intOf a).toNat)
  case atStart => exact ⟨0, row.length, Nat.zero_le _, Nat.le_refl _, rfl, rfl, Lib.hid rfl, HF.out⟩
  case round =>
    clear HF
    obtain ⟨p, q, hpq, hq, rfl, rfl, HI, HF⟩ := hrel
    by_cases hlt : p < q
    · have g1 : (p : Int) < q := by omega
      have hmid : (p + q) / 2 < row.length := by omega
      obtain ⟨x, hx⟩ : ∃ x, row[(p + q) / 2]? = some x := ⟨_, List.getElem?_eq_getElem hmid⟩
      obtain ⟨b, rfl⟩ := c3 (by omega)
      have hc := fun j u hj => (HF.ext 0 rfl).cell (recs_get Hv.out hx j u hj)
      have Hc := Lib.hid hc
      have Hcm := Lib.hid (cmpE_at (s := s) hx)
      have Hl := Lib.hid (show x.cells.length = 4 from rfl)
      clear hc hx
      by_cases hxn : cmpN x.nm s < 0
      · go_wp2_with (first | ((with_reducible refine k_load ?_); refine st_loadCells rfl _ _ rfl _ rfl a39 x.cells (by rw [Hl.out]; exact s39) Hc.out ?_; (intro K hK; go_simp)))
        refine (pl1 HF x s).mono ?_
        rintro e w ⟨rfl, HF⟩
        go_wp2_with fail
        go_roundw
        case rel => exact ⟨(p + q) / 2 + 1, q, by omega, hq, by rw [show ((p : Int) + (q : Int)) / 2 + 1 = (((p + q) / 2 + 1 : Nat) : Int) by omega], rfl, Lib.hid (by rw [← HI.out, bsI_lt hlt (by show decide (cmpE row s _ < 0) = true; rw [Hcm.out]; exact decide_eq_true hxn)]), HF⟩
        case measure => simp [intOf]; omega
      · go_wp2_with (first | ((with_reducible refine k_load ?_); refine st_loadCells rfl _ _ rfl _ rfl a39 x.cells (by rw [Hl.out]; exact s39) Hc.out ?_; (intro K hK; go_simp)))
        refine (pl1 HF x s).mono ?_
        rintro e w ⟨rfl, HF⟩
        go_wp2_with fail
        go_roundw
        case rel => exact ⟨p, (p + q) / 2, by omega, by omega, rfl, by rw [show ((p : Int) + (q : Int)) / 2 = (((p + q) / 2 : Nat) : Int) by omega], Lib.hid (by rw [← HI.out, bsI_ge hlt (by show decide (cmpE row s _ < 0) = false; rw [Hcm.out]; exact decide_eq_false (by omega))]), HF⟩
        case measure => simp [intOf]; omega
    · have g1 : ¬ (p : Int) < q := by omega
      have Hp := Lib.hid (show plI row s = p by rw [← HI.out, bsI_end hlt])
      clear HI
      by_cases hpl : p < row.length
      · have gp : (p : Int) < row.length := by omega
        obtain ⟨x, hx⟩ : ∃ x, row[p]? = some x := ⟨_, List.getElem?_eq_getElem hpl⟩
        obtain ⟨b, rfl⟩ := c3 (by omega)
        have hc := fun j u hj => (HF.ext 0 rfl).cell (recs_get Hv.out hx j u hj)
        have Hc := Lib.hid hc
        have Hcm := Lib.hid (cmpE_at (s := s) hx)
        have Hl := Lib.hid (show x.cells.length = 4 from rfl)
        clear hc hx
        go_wp2_with (first | ((with_reducible refine k_load ?_); refine st_loadCells rfl _ _ rfl _ rfl a39 x.cells (by rw [Hl.out]; exact s39) Hc.out ?_; (intro K hK; go_simp)))
        refine (pl1 HF x s).mono ?_
        rintro e w ⟨rfl, HF⟩
        go_wp2_with fail
        go_ret2
        refine ⟨?_, HF.ext 0 rfl, HF.lift0 H0.out⟩
        unfold plB
        rw [Hp.out, Hcm.out, decide_eq_true hpl, Bool.true_and]
        rfl
      · have gp : ¬ (p : Int) < row.length := by omega
        go_wp2_with fail
        go_ret2
        refine ⟨?_, HF.ext 0 rfl, HF.lift0 H0.out⟩
        unfold plB
        rw [Hp.out, decide_eq_false hpl, Bool.false_and]
        rfl

set_option maxRecDepth 1000000 in
theorem bsL {v : Value} {row : List La} (hsz : row.length ≤ 140737488355328) (hv : RecsAt w v 7 (row.map La.cells)) (s : Int) (H : At w0 L w) :
    Calls Try.prog 52 #[v, .int .i64 s, .func (.func 53) #[] #[]] w (fun e w' => e = .returned (.tuple #[.int .i64 (seI row s : Nat), .bool (seB row s)]) ∧ Ext w w' ∧ At w0 L w') := by
  obtain ⟨ad, cap, rfl, c1, c2, c3⟩ := hv.value
  rw [List.length_map] at c1 c3 hv ⊢
  have Hv := Lib.hid hv
  have H0 := Lib.hid H
  have HF := Lib.hid (At.of w)
  clear hv H
  go_enter Try.func52, Try.ntmps52
  go_wp2_with fail
  go_loopw [9, 10] (fun a b wr => ∃ p q : Nat, p ≤ q ∧ q ≤ row.length ∧ a = .int .i64 p ∧ b = .int .i64 q ∧ Hid (bsI (fun j => decide (cmpL row s j < 0)) p q = seI row s) ∧ At w [Arg w] wr) (fun a b _ => (intOf b).toNat - (intOf a).toNat)
  case atStart => exact ⟨0, row.length, Nat.zero_le _, Nat.le_refl _, rfl, rfl, Lib.hid rfl, HF.out⟩
  case round =>
    clear HF
    obtain ⟨p, q, hpq, hq, rfl, rfl, HI, HF⟩ := hrel
    by_cases hlt : p < q
    · have g1 : (p : Int) < q := by omega
      have hmid : (p + q) / 2 < row.length := by omega
      obtain ⟨x, hx⟩ : ∃ x, row[(p + q) / 2]? = some x := ⟨_, List.getElem?_eq_getElem hmid⟩
      obtain ⟨b, rfl⟩ := c3 (by omega)
      have hc := fun j u hj => (HF.ext 0 rfl).cell (recs_get Hv.out hx j u hj)
      have Hc := Lib.hid hc
      have Hcm := Lib.hid (cmpL_at (c := s) hx)
      have Hl := Lib.hid (show x.cells.length = 7 from rfl)
      clear hc hx
      by_cases hxn : cmpI x.cl s < 0
      · go_wp2_with (first | ((with_reducible refine k_load ?_); refine st_loadCells rfl _ _ rfl _ rfl a53 x.cells (by rw [Hl.out]; exact s53) Hc.out ?_; (intro K hK; go_simp)))
        refine (se1 HF x s).mono ?_
        rintro e w ⟨rfl, HF⟩
        go_wp2_with fail
        go_roundw
        case rel => exact ⟨(p + q) / 2 + 1, q, by omega, hq, by rw [show ((p : Int) + (q : Int)) / 2 + 1 = (((p + q) / 2 + 1 : Nat) : Int) by omega], rfl, Lib.hid (by rw [← HI.out, bsI_lt hlt (by show decide (cmpL row s _ < 0) = true; rw [Hcm.out]; exact decide_eq_true hxn)]), HF⟩
        case measure => simp [intOf]; omega
      · go_wp2_with (first | ((with_reducible refine k_load ?_); refine st_loadCells rfl _ _ rfl _ rfl a53 x.cells (by rw [Hl.out]; exact s53) Hc.out ?_; (intro K hK; go_simp)))
        refine (se1 HF x s).mono ?_
        rintro e w ⟨rfl, HF⟩
        go_wp2_with fail
        go_roundw
        case rel => exact ⟨p, (p + q) / 2, by omega, by omega, rfl, by rw [show ((p : Int) + (q : Int)) / 2 = (((p + q) / 2 : Nat) : Int) by omega], Lib.hid (by rw [← HI.out, bsI_ge hlt (by show decide (cmpL row s _ < 0) = false; rw [Hcm.out]; exact decide_eq_false (by omega))]), HF⟩
        case measure => simp [intOf]; omega
    · have g1 : ¬ (p : Int) < q := by omega
      have Hp := Lib.hid (show seI row s = p by rw [← HI.out, bsI_end hlt])
      clear HI
      by_cases hpl : p < row.length
      · have gp : (p : Int) < row.length := by omega
        obtain ⟨x, hx⟩ : ∃ x, row[p]? = some x := ⟨_, List.getElem?_eq_getElem hpl⟩
        obtain ⟨b, rfl⟩ := c3 (by omega)
        have hc := fun j u hj => (HF.ext 0 rfl).cell (recs_get Hv.out hx j u hj)
        have Hc := Lib.hid hc
        have Hcm := Lib.hid (cmpL_at (c := s) hx)
        have Hl := Lib.hid (show x.cells.length = 7 from rfl)
        clear hc hx
        go_wp2_with (first | ((with_reducible refine k_load ?_); refine st_loadCells rfl _ _ rfl _ rfl a53 x.cells (by rw [Hl.out]; exact s53) Hc.out ?_; (intro K hK; go_simp)))
        refine (se1 HF x s).mono ?_
        rintro e w ⟨rfl, HF⟩
        go_wp2_with fail
        go_ret2
        refine ⟨?_, HF.ext 0 rfl, HF.lift0 H0.out⟩
        unfold seB
        rw [Hp.out, Hcm.out, decide_eq_true hpl, Bool.true_and]
        rfl
      · have gp : ¬ (p : Int) < row.length := by omega
        go_wp2_with fail
        go_ret2
        refine ⟨?_, HF.ext 0 rfl, HF.lift0 H0.out⟩
        unfold seB
        rw [Hp.out, decide_eq_false hpl, Bool.false_and]
        rfl

theorem place {v : Value} {row : List En} (hsz : row.length ≤ 140737488355328) (hv : RecsAt w v 4 (row.map En.cells)) (s : ByteArray) (H : At w0 L w) :
    Calls Try.prog 37 #[v, .string s] w (fun e w' => e = .returned (.tuple #[.int .i64 (plI row s : Nat), .bool (plB row s)]) ∧ Ext w w' ∧ At w0 L w') := by
  have Hv := Lib.hid hv
  clear hv
  go_enter Try.func37, Try.ntmps37
  go_wp2_with fail
  refine (bsE hsz Hv.out s H).mono ?_
  rintro e w2 ⟨rfl, he, H⟩
  have He := Lib.hid he
  clear he
  go_wp2_with fail
  go_ret2
  exact ⟨rfl, He.out, H⟩

theorem seat {v : Value} {row : List La} (hsz : row.length ≤ 140737488355328) (hv : RecsAt w v 7 (row.map La.cells)) (s : Int) (H : At w0 L w) :
    Calls Try.prog 38 #[v, .int .i64 s] w (fun e w' => e = .returned (.tuple #[.int .i64 (seI row s : Nat), .bool (seB row s)]) ∧ Ext w w' ∧ At w0 L w') := by
  have Hv := Lib.hid hv
  clear hv
  go_enter Try.func38, Try.ntmps38
  go_wp2_with fail
  refine (bsL hsz Hv.out s H).mono ?_
  rintro e w2 ⟨rfl, he, H⟩
  have He := Lib.hid he
  clear he
  go_wp2_with fail
  go_ret2
  exact ⟨rfl, He.out, H⟩
end
end Bk
end Go.Proofs.Ytcofcikdknmggaa
