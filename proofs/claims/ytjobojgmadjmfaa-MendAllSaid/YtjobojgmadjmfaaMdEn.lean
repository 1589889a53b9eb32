/-
  The statements' small functions of mends that end: a number of a range, a trimmed bucket, the order of stamps, what is known, the edge gone through.
  What a server holds of a bucket, made out of three numbers' worth: trimmed up to one instance, the next ones known, some more behind a gap.
  What is decided is what was decided, and a trimmed bucket what was trimmed.
  Mends that end, as functions of the data: what a mend lays down is new and lowers nothing; a mend of a bucket ends behind so many rounds; then the one who asked knows what either knew.
  The core of what is owned: a resource made exact, with a world that holds it alone; what is read there is read wherever it is. Whatever the program.
  A mend played to its end, within the statements.
  Numbers and rows of numbers as arguments; records read out of what was handed in; what is held, out of what holds it.
-/
import Derived.Test.YtjobojgmadjmfaaMdRowL
import Derived.IntWalk
import Derived.Test.YtjobojgmadjmfaaEng
section MgMdEnA
namespace Go.Proofs.Ytjobojgmadjmfaa
open Go.Hp Go.RowKit
set_option linter.unusedVariables false
set_option linter.unusedSimpArgs false
set_option maxRecDepth 100000
set_option maxHeartbeats 2000000
namespace Md

/-- A number of 0 to n - 1. -/
def roundS (v n : Int) : Int := v % n

theorem roundS_lt {v n : Int} (h : 1 ≤ n) : 0 ≤ roundS v n ∧ roundS v n < n := ⟨Int.emod_nonneg _ (by omega), Int.emod_lt_of_pos _ (by omega)⟩

theorem tmod_pos {v n : Int} (h : 1 ≤ n) (h2 : ¬ v.tmod n < 0) : v.tmod n = roundS v n := by
  unfold roundS
  rw [Int.tmod_eq_emod] at h2 ⊢
  have := Int.emod_lt_of_pos v (show 0 < n by omega)
  have := Int.emod_nonneg v (show n ≠ 0 by omega)
  split
  · omega
  · rename_i hc
    rw [if_neg hc] at h2
    have : (n.natAbs : Int) = n := by omega
    omega

theorem tmod_neg {v n : Int} (h : 1 ≤ n) (h2 : v.tmod n < 0) : v.tmod n + n = roundS v n := by
  unfold roundS
  rw [Int.tmod_eq_emod] at h2 ⊢
  have := Int.emod_lt_of_pos v (show 0 < n by omega)
  have := Int.emod_nonneg v (show n ≠ 0 by omega)
  split
  · rename_i hc
    rw [if_pos hc] at h2
    omega
  · have : (n.natAbs : Int) = n := by omega
    omega

section
variable {w0 w : World} {L : List HProp}

theorem tmod_bound {v n : Int} (h : 1 ≤ n) : -n < v.tmod n ∧ v.tmod n < n := by
  have h1 := Int.emod_lt_of_pos v (show 0 < n by omega)
  have h2 := Int.emod_nonneg v (show n ≠ 0 by omega)
  rw [Int.tmod_eq_emod]
  have : (n.natAbs : Int) = n := by omega
  split
  · omega
  · rename_i hc
    have : ¬ n ∣ v := fun e => hc (.inr e)
    have : v % n ≠ 0 := fun e => this (Int.dvd_of_emod_eq_zero e)
    omega

theorem round {n : Int} (h1 : 1 ≤ n) (h2 : n ≤ 2199023255552) (v : Int) (H : At w0 L w) : Calls Try.prog 25 #[.int .i64 v, .int .i64 n] w (fun e w' => e = .returned (.int .i64 (roundS v n)) ∧ At w0 L w') := by
  have g1 : ¬ n < 1 := by omega
  have g0 : ¬ n = 0 := by omega
  have hb := tmod_bound (v := v) h1
  have hw1 : IntKind.i64.wrap (v.tmod n) = v.tmod n := IntWalk.i64_in _ (by omega)
  by_cases h3 : v.tmod n < 0
  · have hs := Lib.hid (tmod_neg h1 h3)
    have hw2 : IntKind.i64.wrap (v.tmod n + n) = v.tmod n + n := IntWalk.i64_in _ (by omega)
    go_enter Try.func25, Try.ntmps25
    go_wp2_with fail
    go_ret
    exact ⟨by rw [hs.out]; rfl, H⟩
  · have hs := Lib.hid (tmod_pos h1 h3)
    go_enter Try.func25, Try.ntmps25
    go_wp2_with fail
    go_ret
    exact ⟨by rw [hs.out]; rfl, H⟩

theorem belowW (H : At w0 L w) (an ac bn bc : Int) : Calls Try.prog 49 #[.agg #[.int .i64 an, .int .i64 ac], .agg #[.int .i64 bn, .int .i64 bc]] w (Ret w0 (.bool (lessS an ac bn bc)) L) := by
  have H0 := Lib.hid H
  by_cases h1 : an < bn
  · go_enter Try.func49, Try.ntmps49
    go_wp2_with (first | ((with_reducible refine k_box ?_); refine st_box rfl _ _ rfl _ rfl H ?_; (clear H; intro g w H K hK; simp only [Value.cells] at H; go_simp)) | ((with_reducible refine k_load ?_); (first | refine st_load rfl _ _ rfl _ _ rfl ?_ H 0 rfl rfl ?_ | refine st_load rfl _ _ rfl _ _ rfl ?_ H 1 rfl rfl ?_); (kernel_rfl); (intro K hK; go_simp)))
    go_ret
    exact ⟨by simp [lessS, h1], H.drop.drop⟩
  · by_cases h2 : an = bn
    · subst h2
      by_cases h3 : ac < bc
      · go_enter Try.func49, Try.ntmps49
        go_wp2_with (first | ((with_reducible refine k_box ?_); refine st_box rfl _ _ rfl _ rfl H ?_; (clear H; intro g w H K hK; simp only [Value.cells] at H; go_simp)) | ((with_reducible refine k_load ?_); (first | refine st_load rfl _ _ rfl _ _ rfl ?_ H 0 rfl rfl ?_ | refine st_load rfl _ _ rfl _ _ rfl ?_ H 1 rfl rfl ?_); (kernel_rfl); (intro K hK; go_simp)))
        go_ret
        exact ⟨by simp [lessS, h3], H.drop.drop⟩
      · go_enter Try.func49, Try.ntmps49
        go_wp2_with (first | ((with_reducible refine k_box ?_); refine st_box rfl _ _ rfl _ rfl H ?_; (clear H; intro g w H K hK; simp only [Value.cells] at H; go_simp)) | ((with_reducible refine k_load ?_); (first | refine st_load rfl _ _ rfl _ _ rfl ?_ H 0 rfl rfl ?_ | refine st_load rfl _ _ rfl _ _ rfl ?_ H 1 rfl rfl ?_); (kernel_rfl); (intro K hK; go_simp)))
        go_ret
        exact ⟨by simp [lessS, h3], H.drop.drop⟩
    · have hb : (an == bn) = false := by simpa using h2
      go_enter Try.func49, Try.ntmps49
      go_wp2_with (first | ((with_reducible refine k_box ?_); refine st_box rfl _ _ rfl _ rfl H ?_; (clear H; intro g w H K hK; simp only [Value.cells] at H; go_simp)) | ((with_reducible refine k_load ?_); (first | refine st_load rfl _ _ rfl _ _ rfl ?_ H 0 rfl rfl ?_ | refine st_load rfl _ _ rfl _ _ rfl ?_ H 1 rfl rfl ?_); (kernel_rfl); (intro K hK; go_simp)))
      go_ret
      exact ⟨by simp [lessS, h1, h2], H.drop.drop⟩

theorem zz71 : zeroT Try.prog 71 = some (.agg #[.int .i64 0, .int .i64 0, .int .i64 0, .int .i64 0, .int .i64 0, .int .i64 0, .slice none 0 0, .int .i64 0, .int .i64 0, .int .i64 0, .int .i64 0, .int .i64 0, .int .i64 0, .int .i64 0, .string ⟨#[]⟩, .int .i64 0, .int .i64 0, .int .i64 0, .int .i64 0, .int .i64 0, .bool false, .int .i64 0, .slice none 0 0, .slice none 0 0]) := by kernel_rfl

theorem plain (c : Cg) {va ve vl : Value} (ha : ∃ ad n cap, va = .slice ad n cap) (he : ∃ ad n cap, ve = .slice ad n cap) (hl : ∃ ad n cap, vl = .slice ad n cap) (H : At w0 L w) : Calls Try.prog 48 #[.agg (c.cells va ve vl).toArray] w (fun e w' => e = .returned (.agg ((lcOf c).cells va ve vl)) ∧ At w0 L w') := by
  obtain ⟨a1, a2, a3, rfl⟩ := ha
  obtain ⟨b1, b2, b3, rfl⟩ := he
  obtain ⟨c1, c2, c3, rfl⟩ := hl
  obtain ⟨W, rfl⟩ : ∃ W : World, W = w := ⟨_, rfl⟩
  have HF := At.of W
  have H0 := Lib.hid H
  clear H
  rw [lcOf_cells]
  simp only [Cg.cells]
  go_enter Try.func48, Try.ntmps48
  go_wp2_with (first | ((with_reducible refine k_box (T := 87) ?_); refine st_box rfl _ _ rfl _ rfl HF ?_; (clear HF; intro g1 w HF K hK; simp only [Value.cells, Act.eval, Value.cells, Array.getD_eq_getD_getElem?, List.getElem?_toArray, List.getElem?_cons_succ, List.getElem?_cons_zero, Option.getD_some] at HF; go_simp)) | ((with_reducible refine k_alloc (T := 71) ?_); refine st_alloc rfl _ rfl _ zz71 _ rfl HF ?_; (clear HF; intro g2 w HF K hK; simp only [Value.cells] at HF; go_simp)) | ((with_reducible refine k_load (T := 25) ?_); refine st_row rfl _ _ rfl _ rfl a25 4 s25 HF 1 rfl rfl ?_; (intro K hK; go_simp)) | ((with_reducible refine k_load (T := 25) ?_); refine st_loads rfl _ _ rfl _ _ rfl a25 4 s25 HF 1 rfl ?_ ?_; (simp); (intro K hK; go_simp)) | ((with_reducible refine k_load (T := 41) ?_); refine st_row rfl _ _ rfl _ rfl a41 3 s41 HF 1 rfl rfl ?_; (intro K hK; go_simp)) | ((with_reducible refine k_load (T := 41) ?_); refine st_loads rfl _ _ rfl _ _ rfl a41 3 s41 HF 1 rfl ?_ ?_; (simp); (intro K hK; go_simp)) | ((with_reducible refine k_load (T := 69) ?_); refine st_row rfl _ _ rfl _ rfl a69 14 s69 HF 1 rfl rfl ?_; (intro K hK; go_simp)) | ((with_reducible refine k_load (T := 69) ?_); refine st_loads rfl _ _ rfl _ _ rfl a69 14 s69 HF 1 rfl ?_ ?_; (simp); (intro K hK; go_simp)) | ((with_reducible refine k_load (T := 36) ?_); refine st_row rfl _ _ rfl _ rfl a36 3 s36 HF 1 rfl rfl ?_; (intro K hK; go_simp)) | ((with_reducible refine k_load (T := 36) ?_); refine st_loads rfl _ _ rfl _ _ rfl a36 3 s36 HF 1 rfl ?_ ?_; (simp); (intro K hK; go_simp)) | ((with_reducible refine k_store (T := 71) ?_); refine st_put rfl _ _ _ rfl _ rfl _ rfl ?_ s71 HF 0 rfl rfl ?_; (simp [Value.oneCell']); (clear HF; intro w HF K hK; simp only [List.set_cons_zero, List.set_cons_succ, Act.eval, Value.cells, Array.getD_eq_getD_getElem?, List.getElem?_toArray, List.getElem?_cons_succ, List.getElem?_cons_zero, Option.getD_some] at HF; go_simp)))
  refine bodyPost_ret (results_cell rfl rfl a71 s71 (HF.get 0 rfl) rfl) rfl ?_
  exact ⟨rfl, (HF.sel 3 [2]).lift0 H0.out⟩

/-- Has it trimmed the instance, or does it know it as decided? -/
def knowsS (h : Hd) (n : Int) : Bool := decide (n ≤ h.upto) || (decS h n).isSome

theorem at_dec {h : Hd} (hr : Rising h.row) (hok : h.Ok) (n : Int) : (atS h n)[13]? = some (.bool (decS h n).isSome) ∧ (atS h n).length = 14 := by
  unfold atS
  cases hf : h.row.find? (·.n == n) with
  | none =>
    have : decS h n = none := by
      unfold decS
      rw [Option.map_eq_none_iff, List.find?_eq_none]
      intro p hp
      rw [List.find?_eq_none] at hf
      have := hf p hp
      simp at this
      simp [this]
    rw [this]
    exact ⟨rfl, rfl⟩
  | some p =>
    have hm := List.mem_of_find?_eq_some hf
    have hn : p.n = n := by simpa using List.find?_some hf
    obtain ⟨k, hk⟩ := List.getElem?_of_mem hm
    have e1 := (hok.row p hm).pa.len
    have e2 := (hok.row p hm).cmd.len
    rw [dec_some hr hk hn]
    simp only [Option.map_some, Option.getD_some]
    refine ⟨?_, by simp [Pl.inst, e1, e2]; rfl⟩
    unfold Pl.inst
    rw [List.getElem?_append_right (by rw [e1]; decide), e1, List.getElem?_append_right (by rw [e2]; decide), e2]
    cases p.dec <;> rfl

/-- The cells of what stands at an instance, one by one. -/
theorem at_cells {h : Hd} (hr : Rising h.row) (hok : h.Ok) (n : Int) : ∃ x0 x1 x2 x3 x4 x5 x6 x7 x8 x9 x10 x11 x12 : Value, atS h n = [x0, x1, x2, x3, x4, x5, x6, x7, x8, x9, x10, x11, x12, .bool (decS h n).isSome] := by
  obtain ⟨h1, h2⟩ := at_dec hr hok n
  match atS h n, h1, h2 with
  | [x0, x1, x2, x3, x4, x5, x6, x7, x8, x9, x10, x11, x12, x13], h1, _ => exact ⟨x0, x1, x2, x3, x4, x5, x6, x7, x8, x9, x10, x11, x12, by simpa using h1⟩

theorem inst_dec (x0 x1 x2 x3 x4 x5 x6 x7 x8 x9 x10 x11 x12 : Value) (b : Bool) (w : World) : (Instr.field 69 (.agg #[x0, x1, x2, x3, x4, x5, x6, x7, x8, x9, x10, x11, x12, .bool b]) 3).run Try.prog w = .ok (.bool b) w := by kernel_rfl

theorem knows {h : Hd} {vd ve vl vr : Value} (hr : Rising h.row) (hok : h.Ok) (hsz : h.row.length ≤ 140737488355328) (hv : HdAt w h vd ve vl vr) (n : Int) (H : At w0 L w) :
    Calls Try.prog 29 #[.agg (hdV h vd ve vl vr), .int .i64 n] w (fun e w' => e = .returned (.bool (knowsS h n)) ∧ At w0 L w') := by
  obtain ⟨W, rfl⟩ : ∃ W : World, W = w := ⟨_, rfl⟩
  have HF := At.of W
  have H0 := Lib.hid H
  have Hv := Lib.hid hv.r
  clear H hv
  by_cases h1 : n ≤ h.upto
  · have hs := Lib.hid (show knowsS h n = true by simp [knowsS, h1])
    simp only [hdV]
    go_enter Try.func29, Try.ntmps29
    go_wp2_with (first | ((with_reducible refine k_box (T := 44) ?_); refine st_box rfl _ _ rfl _ rfl HF ?_; (clear HF; intro g1 w HF K hK; simp only [Value.cells, Act.eval, Value.cells, Array.getD_eq_getD_getElem?, List.getElem?_toArray, List.getElem?_cons_succ, List.getElem?_cons_zero, Option.getD_some] at HF; go_simp)) | ((with_reducible refine k_load ?_); refine st_load rfl _ _ rfl _ _ rfl ?_ HF 0 rfl rfl ?_; (kernel_rfl); (intro K hK; go_simp)))
    go_ret
    exact ⟨by rw [hs.out]; rfl, (HF.sel 2 [1]).lift0 H0.out⟩
  · have hs := Lib.hid (show knowsS h n = (decS h n).isSome by simp [knowsS, h1])
    obtain ⟨x0, x1, x2, x3, x4, x5, x6, x7, x8, x9, x10, x11, x12, hx⟩ := at_cells hr hok n
    have Hx := Lib.hid hx
    clear hx
    have hfd := fun w => inst_dec x0 x1 x2 x3 x4 x5 x6 x7 x8 x9 x10 x11 x12 (decS h n).isSome w
    simp only [hdV]
    go_enter Try.func29, Try.ntmps29
    go_wp2_with (first | ((with_reducible refine k_box (T := 44) ?_); refine st_box rfl _ _ rfl _ rfl HF ?_; (clear HF; intro g1 w HF K hK; simp only [Value.cells, Act.eval, Value.cells, Array.getD_eq_getD_getElem?, List.getElem?_toArray, List.getElem?_cons_succ, List.getElem?_cons_zero, Option.getD_some] at HF; go_simp)) | ((with_reducible refine k_load (T := 44) ?_); refine st_row rfl _ _ rfl _ rfl a44 7 s44 HF 0 rfl rfl ?_; (intro K hK; go_simp)) | ((with_reducible refine k_load (T := 44) ?_); refine st_loads rfl _ _ rfl _ _ rfl a44 7 s44 HF 0 rfl ?_ ?_; (simp); (intro K hK; go_simp)) | ((with_reducible refine k_load ?_); refine st_load rfl _ _ rfl _ _ rfl ?_ HF 0 rfl rfl ?_; (kernel_rfl); (intro K hK; go_simp)))
    refine (rat hok hsz (Hv.out.ext (HF.ext 1 rfl)) n HF).mono ?_
    rintro e w2 ⟨rfl, HF2⟩
    rw [Hx.out]
    go_wp2_with fail
    go_ret
    exact ⟨by rw [hs.out]; rfl, (HF2.sel 2 [1]).lift0 H0.out⟩

theorem edge_knows {h : Hd} (hm : May h) {i : Int} (h1 : i ≤ edgeS h) : knowsS h i = true := by
  unfold knowsS
  by_cases h2 : i ≤ h.upto
  · simp [h2]
  · obtain ⟨c, hc⟩ := edge_some hm (i := (i - 1 - h.upto).toNat) (by omega)
    have e : h.upto + ((i - 1 - h.upto).toNat : Int) + 1 = i := by omega
    rw [e] at hc
    simp [hc]

theorem edge_not {h : Hd} (hm : May h) : knowsS h (edgeS h + 1) = false := by
  have hb := edge_bound hm
  have h2 := edge_none hm (i := (edgeS h - h.upto).toNat) (by omega)
  have e : h.upto + ((edgeS h - h.upto).toNat : Int) + 1 = edgeS h + 1 := by omega
  rw [e] at h2
  unfold knowsS
  rw [h2]
  simp
  omega

set_option maxHeartbeats 4000000 in
theorem edgeL {h : Hd} {vd ve vl vr : Value} (hm : May h) (hok : h.Ok) (hsz : h.row.length ≤ 140737488355328) (hv : HdAt w h vd ve vl vr) (H : At w0 L w) :
    Calls Try.prog 27 #[.agg (hdV h vd ve vl vr)] w (fun e w' => e = .returned (.int .i64 (edgeS h)) ∧ At w0 L w') := by
  obtain ⟨W, rfl⟩ : ∃ W : World, W = w := ⟨_, rfl⟩
  have HF := At.of W
  have H0 := Lib.hid H
  have Hv := Lib.hid hv
  obtain ⟨ad, cap, hvr, c1, c2, c3⟩ := hv.r.value
  rw [List.length_map] at hvr
  have HB := Lib.hid (edge_bound hm)
  have HL := Lib.hid (show edgeS h ≤ h.upto + h.row.length from (edgeG_le _ _).2)
  have HK := Lib.hid (fun (i : Int) (h1 : i ≤ edgeS h) => edge_knows hm h1)
  have HN := Lib.hid (edge_not hm)
  have HU := Lib.hid hm.u0
  have HR := Lib.hid hm.rise
  clear H hv c1 c2 c3 hm
  subst hvr
  simp only [hdV]
  go_enter Try.func27, Try.ntmps27
  go_wp2_with (first | ((with_reducible refine k_box (T := 44) ?_); refine st_box rfl _ _ rfl _ rfl HF ?_; (clear HF; intro g1 w HF K hK; simp only [Value.cells, Act.eval, Value.cells, Array.getD_eq_getD_getElem?, List.getElem?_toArray, List.getElem?_cons_succ, List.getElem?_cons_zero, Option.getD_some] at HF; go_simp)))
  go_loopw [3] (fun a wr => ∃ i : Nat, (i : Int) ≤ edgeS h ∧ a = .int .i64 i ∧ At W (Blk g1 (.cells #[.int .i64 h.sn, .int .i64 h.sc, vd, .int .i64 h.upto, ve, vl, .slice ad h.row.length cap] 44 (0, 0)) :: [Arg W]) wr) (fun a _ => (edgeS h - intOf a).toNat)
  case atStart => exact ⟨0, by have := HB.out.1; have := HU.out; simp; omega, rfl, HF⟩
  case round =>
    clear HF
    obtain ⟨i, hi, rfl, HF⟩ := hrel
    have b1 : (i : Int) ≤ 1048576 := by have := HB.out.2; omega
    have b0 : 0 ≤ h.upto := HU.out
    have b2 : h.upto ≤ 1048576 := by have := HB.out; omega
    by_cases hu : (i : Int) < h.upto
    · go_wp2_with (first | ((with_reducible refine k_load ?_); refine st_load rfl _ _ rfl _ _ rfl ?_ HF 0 rfl rfl ?_; (kernel_rfl); (intro K hK; go_simp)))
      go_roundw
      case rel => exact ⟨i + 1, by have := HB.out.1; simp; omega, by simp, HF⟩
      case measure => have := HB.out.1; simp [intOf]; omega
    · have g2x : (i : Int) ≤ h.upto + h.row.length := by have := HL.out; omega
      rcases Int.lt_or_eq_of_le hi with hlt | heq
      · have hk := Lib.hid (HK.out (i + 1) (by omega))
        go_wp2_with (first | ((with_reducible refine k_load (T := 44) ?_); refine st_row rfl _ _ rfl _ rfl a44 7 s44 HF 0 rfl rfl ?_; (intro K hK; go_simp)) | ((with_reducible refine k_load (T := 44) ?_); refine st_loads rfl _ _ rfl _ _ rfl a44 7 s44 HF 0 rfl ?_ ?_; (simp); (intro K hK; go_simp)) | ((with_reducible refine k_load ?_); refine st_load rfl _ _ rfl _ _ rfl ?_ HF 0 rfl rfl ?_; (kernel_rfl); (intro K hK; go_simp)))
        refine (knows HR.out hok hsz (Hv.out.ext (HF.ext 1 rfl)) (i + 1) HF).mono ?_
        rintro e w3 ⟨rfl, H3⟩
        rw [hk.out]
        replace HF := H3
        clear H3
        go_wp2_with fail
        go_roundw
        case rel => exact ⟨i + 1, by simp; omega, by simp, HF⟩
        case measure => simp [intOf]; omega
      · have hk := Lib.hid (show knowsS h (i + 1) = false by rw [heq]; exact HN.out)
        have He := Lib.hid heq
        clear heq
        go_wp2_with (first | ((with_reducible refine k_load (T := 44) ?_); refine st_row rfl _ _ rfl _ rfl a44 7 s44 HF 0 rfl rfl ?_; (intro K hK; go_simp)) | ((with_reducible refine k_load (T := 44) ?_); refine st_loads rfl _ _ rfl _ _ rfl a44 7 s44 HF 0 rfl ?_ ?_; (simp); (intro K hK; go_simp)) | ((with_reducible refine k_load ?_); refine st_load rfl _ _ rfl _ _ rfl ?_ HF 0 rfl rfl ?_; (kernel_rfl); (intro K hK; go_simp)))
        refine (knows HR.out hok hsz (Hv.out.ext (HF.ext 1 rfl)) (i + 1) HF).mono ?_
        rintro e w3 ⟨rfl, H3⟩
        rw [hk.out]
        replace HF := H3
        clear H3
        go_wp2_with fail
        go_ret
        exact ⟨by rw [← He.out]; rfl, (HF.sel 2 [1]).lift0 H0.out⟩
end
end Md
end Go.Proofs.Ytjobojgmadjmfaa
end MgMdEnA
section MgMdEnH
namespace Go.Proofs.Ytjobojgmadjmfaa
open Go.Hp Go.RowKit
set_option linter.unusedVariables false
set_option linter.unusedSimpArgs false
set_option maxRecDepth 100000
set_option maxHeartbeats 8000000
namespace Md

def bhd : ByteArray := ⟨#[98, 101, 104, 105, 110, 100]⟩
def trimE (u : Int) : List (List Value) := if u < 1 then [] else [[.string bhd, .int .i64 1, .int .i64 u, .int .i64 0]]
def trimU (u : Int) : Int := if u < 1 then 0 else u
def cmL (n : Int) : Cm := ⟨4, 1, n, ⟨#[]⟩, 0, 0, 0, 0, 0⟩

/-- What is held, as the statements' own makers make it. -/
structure PlainH (u top : Int) (h : Hd) : Prop where
  may : May h
  ok : h.Ok
  up : h.upto = u
  e : h.ents = trimE u
  l : h.lasts = []
  r : ∀ p ∈ h.row, (p.dec = true → p.cmd = (cmL p.n).cells) ∧ p.n ≤ top

section
variable {w0 w : World} {L : List HProp}

theorem trim (u : Int) (H : At w0 L w) : Calls Try.prog 47 #[.int .i64 u] w (fun e w' => ∃ ad cap, e = .returned (.agg #[.int .i64 (trimU u), .slice ad (trimE u).length cap, .slice none 0 0]) ∧ At w0 (Hold (.slice ad (trimE u).length cap) (trimE u).length (trimE u).flatten :: L) w') := by
  obtain ⟨W, rfl⟩ : ∃ W : World, W = w := ⟨_, rfl⟩
  have HF := At.of W
  have H0 := Lib.hid H
  clear H
  by_cases h1 : u < 1
  · have e1 : trimU u = 0 := if_pos h1
    have e2 : trimE u = [] := if_pos h1
    rw [e1, e2]
    clear e1 e2
    go_enter Try.func47, Try.ntmps47
    go_wp2_with (first | ((with_reducible refine k_alloc (T := 36) ?_); refine st_alloc rfl _ rfl _ z36 _ rfl HF ?_; (clear HF; intro g2 w HF K hK; simp only [Value.cells] at HF; go_simp)) | ((with_reducible refine k_store (T := 36) ?_); refine st_put rfl _ _ _ rfl _ rfl _ rfl ?_ s36 HF 0 rfl rfl ?_; (simp [Value.oneCell']); (clear HF; intro w HF K hK; simp only [List.set_cons_zero, List.set_cons_succ, Act.eval, Value.cells, Array.getD_eq_getD_getElem?, List.getElem?_toArray, List.getElem?_cons_succ, List.getElem?_cons_zero, Option.getD_some] at HF; go_simp)))
    refine bodyPost_ret (results_cell rfl rfl a36 s36 (HF.get 0 rfl) rfl) rfl ?_
    exact ⟨none, 0, rfl, hold_of own_nil0 ((HF.sel 2 [1]).lift0 H0.out).addEmp⟩
  · have e1 : trimU u = u := if_neg h1
    have e2 : trimE u = [[.string bhd, .int .i64 1, .int .i64 u, .int .i64 0]] := if_neg h1
    rw [e1, e2]
    clear e1 e2
    go_enter Try.func47, Try.ntmps47
    go_wp2_with (first | ((with_reducible refine k_alloc (T := 36) ?_); refine st_alloc rfl _ rfl _ z36 _ rfl HF ?_; (clear HF; intro g2 w HF K hK; simp only [Value.cells] at HF; go_simp)) | ((with_reducible refine k_lit ?_); refine st_lit1 rfl _ _ rfl ([.string bhd, .int .i64 1, .int .i64 u, .int .i64 0] : List Value).toArray rfl 101 Try.underlying33 4 s101 #[.string ⟨#[]⟩, .int .i64 0, .int .i64 0, .int .i64 0] z101 rfl rfl (by decide) (by decide) HF ?_; (clear HF; intro gl w6 HF K hK; go_simp))        | ((with_reducible refine k_store (T := 36) ?_); refine st_put rfl _ _ _ rfl _ rfl _ rfl ?_ s36 HF 1 rfl rfl ?_; (simp [Value.oneCell']); (clear HF; intro w HF K hK; simp only [List.set_cons_zero, List.set_cons_succ, Act.eval, Value.cells, Array.getD_eq_getD_getElem?, List.getElem?_toArray, List.getElem?_cons_succ, List.getElem?_cons_zero, Option.getD_some] at HF; go_simp)))
    refine bodyPost_ret (results_cell rfl rfl a36 s36 (HF.get 1 rfl) rfl) rfl ?_
    refine ⟨some ⟨gl, 0, none⟩, 1, rfl, ?_⟩
    have HO : At W (OwnRow 101 4 (.slice (some ⟨gl, 0, none⟩) 1 1) 1 [.string bhd, .int .i64 1, .int .i64 u, .int .i64 0] :: Arg W :: []) _ := own_mk (HF.sel 3 [0, 2]) (Nat.le_refl _) (by simp [maxLen]) rfl rfl rfl
    exact hold_of own_own (HO.lift1 H0.out)

def plD (n : Int) : Pl := ⟨n, [.int .i64 0, .int .i64 0, .int .i64 0, .int .i64 0], (cmL n).cells, true⟩
def rowD (u : Int) (k : Nat) : List Pl := (List.range k).map fun (j : Nat) => plD (u + 1 + j)
def hdD (u : Int) (k : Nat) : Hd := ⟨0, 0, [], u, trimE u, [], rowD u k⟩

theorem rowD_succ (u : Int) (k : Nat) : rowD u (k + 1) = rowD u k ++ [plD (u + 1 + k)] := by simp [rowD, List.range_succ]
theorem rowD_len (u : Int) (k : Nat) : (rowD u k).length = k := by simp [rowD]

theorem in_of {n : Int} (h1 : -1099511627776 ≤ n) (h2 : n ≤ 1099511627776) : In64 n := ⟨by omega, by omega⟩

theorem plain_D {u : Int} {k : Nat} (h0 : 0 ≤ u) (h1 : u < 300) (hk : k < 200) : PlainH u (u + k + 20) (hdD u k) := by
  have hmem : ∀ p ∈ rowD u k, ∃ j : Nat, j < k ∧ p = plD (u + 1 + j) := fun p hp => by
    unfold rowD at hp
    obtain ⟨j, hj, rfl⟩ := List.mem_map.1 hp
    exact ⟨j, List.mem_range.1 hj, rfl⟩
  refine ⟨⟨?_, ?_, ?_, ?_, ?_, ?_, ?_⟩, ⟨in0, in0, ?_, ?_, ?_, ?_⟩, rfl, rfl, rfl, ?_⟩
  · exact h0
  · show u ≤ _; omega
  · intro i j p q hij hp hq
    have hp' : (rowD u k)[i]? = some p := hp
    have hq' : (rowD u k)[j]? = some q := hq
    unfold rowD at hp' hq'
    rw [List.getElem?_map] at hp' hq'
    have e1 := (List.getElem?_eq_some_iff.1 hp).1
    have e2 := (List.getElem?_eq_some_iff.1 hq).1
    have e1 : i < k := by simpa [hdD, rowD] using e1
    have e2 : j < k := by simpa [hdD, rowD] using e2
    rw [List.getElem?_range e1] at hp'
    rw [List.getElem?_range e2] at hq'
    simp at hp' hq'
    subst hp' hq'
    show u + 1 + (i : Int) < u + 1 + (j : Int)
    omega
  · intro p hp
    obtain ⟨j, hj, rfl⟩ := hmem p hp
    show u < u + 1 + (j : Int)
    omega
  · intro p hp
    obtain ⟨j, hj, rfl⟩ := hmem p hp
    show u + 1 + (j : Int) ≤ _
    omega
  · intro hz
    have hz : u = 0 := hz
    have : u < 1 := by omega
    exact ⟨if_pos this, rfl⟩
  · intro p hp _ hc
    obtain ⟨j, hj, rfl⟩ := hmem p hp
    have hc : (cmL (u + 1 + j)).cells = zc := hc
    simp [cmL, Cm.cells, zc] at hc
  · show In64 u; exact in_of (by omega) (by omega)
  · intro r hr
    have hr : r ∈ trimE u := hr
    unfold trimE at hr
    split at hr
    · cases hr
    · obtain rfl := List.mem_singleton.1 hr
      exact ⟨⟨_, rfl⟩, ⟨_, rfl⟩, ⟨_, rfl⟩, ⟨_, rfl⟩, trivial⟩
  · intro r hr; cases hr
  · intro p hp
    obtain ⟨j, hj, rfl⟩ := hmem p hp
    exact ⟨in_of (by show -1099511627776 ≤ u + 1 + (j : Int); omega) (by show u + 1 + (j : Int) ≤ _; omega), ⟨⟨_, rfl⟩, ⟨_, rfl⟩, ⟨_, rfl⟩, ⟨_, rfl⟩, trivial⟩, (cmL _).fits⟩
  · intro p hp
    obtain ⟨j, hj, rfl⟩ := hmem p hp
    exact ⟨fun _ => rfl, by show u + 1 + (j : Int) ≤ _; omega⟩

/-- One more instance, laid down. -/
def lcI (n : Int) (pa : Int × Int × Int × Int) (dec : Bool) : Lc := ⟨3, 0, n, 0, 0, 0, [], pa.1, pa.2.1, pa.2.2.1, pa.2.2.2, cmL n, dec, 0, [], []⟩

theorem plain_laid {u top : Int} {h : Hd} (hp : PlainH u top h) {n : Int} (h1 : u < n) (h2 : n ≤ top) (h3 : top ≤ 1048576) (pa : Int × Int × Int × Int) (dec : Bool) : PlainH u top (laidS h (lcI n pa dec)) := by
  have hu := hp.up
  have hu0 := hp.may.u0
  have e : laidS h (lcI n pa dec) = { h with row := ins (lcI n pa dec).pl h.row } := by
    have k1 : ¬ (lcI n pa dec).kk = 1 := fun e => absurd (show (3 : Int) = 1 from e) (by decide)
    have k2 : ¬ (lcI n pa dec).kk = 2 := fun e => absurd (show (3 : Int) = 2 from e) (by decide)
    unfold laidS
    rw [if_neg k1, if_neg k2, laidRow_inst hp.may.lo]
  have hm : May (laidS h (lcI n pa dec)) := laid_may hp.may (fun e => absurd (show (3 : Int) = 2 from e) (by decide)) (fun _ _ => ⟨by show h.upto < n; omega, by show n ≤ _; omega, fun _ hc => by
    have hc : (cmL n).cells = zc := hc
    simp [cmL, Cm.cells, zc] at hc⟩)
  rw [e] at hm ⊢
  refine ⟨hm, ⟨hp.ok.sn, hp.ok.sc, hp.ok.upto, hp.ok.ents, hp.ok.lasts, fun p hq => ?_⟩, hp.up, hp.e, hp.l, fun p hq => ?_⟩
  · rcases ins_mem hq with rfl | hq
    · exact ⟨in_of (by show -1099511627776 ≤ n; omega) (by show n ≤ _; omega), ⟨⟨_, rfl⟩, ⟨_, rfl⟩, ⟨_, rfl⟩, ⟨_, rfl⟩, trivial⟩, (cmL _).fits⟩
    · exact hp.ok.row p hq
  · rcases ins_mem hq with rfl | hq
    · exact ⟨fun _ => rfl, h2⟩
    · exact hp.r p hq

/-- What holds hands back. -/
def HoPost (w0 : World) (L : List HProp) (u m : Int) (e : Ending) (w' : World) : Prop := ∃ h ve vr, e = .returned (.agg (hdV h nl ve nl vr)) ∧ PlainH u (u + m + 20) h ∧ h.sn = 0 ∧ h.sc = 0 ∧ h.data = [] ∧ At w0 (Hold ve h.ents.length h.ents.flatten :: Hold vr h.row.length (h.row.map Pl.cells).flatten :: L) w'

theorem laidI_keeps {h : Hd} {n : Int} {pa : Int × Int × Int × Int} {dec : Bool} : (laidS h (lcI n pa dec)).sn = h.sn ∧ (laidS h (lcI n pa dec)).sc = h.sc ∧ (laidS h (lcI n pa dec)).data = h.data ∧ (laidS h (lcI n pa dec)).upto = h.upto ∧ (laidS h (lcI n pa dec)).ents = h.ents ∧ (laidS h (lcI n pa dec)).lasts = h.lasts := by
  have k1 : ¬ (lcI n pa dec).kk = 1 := fun e => absurd (show (3 : Int) = 1 from e) (by decide)
  have k2 : ¬ (lcI n pa dec).kk = 2 := fun e => absurd (show (3 : Int) = 2 from e) (by decide)
  unfold laidS
  rw [if_neg k1, if_neg k2]
  exact ⟨rfl, rfl, rfl, rfl, rfl, rfl⟩

theorem hdAt_of {h : Hd} {ve vr : Value} {u top : Int} (hp : PlainH u top h) (hd : h.data = []) (H1 : RowAt w ve (trimE u).length (trimE u).flatten) (H2 : RowAt w vr h.row.length (h.row.map Pl.cells).flatten) : HdAt w h nl ve nl vr := by
  refine ⟨?_, ⟨?_, fun r hr => ?_⟩, ?_, ⟨by rw [List.length_map]; exact H2, len15 hp.ok⟩⟩
  · rw [hd]; exact nil_row (n := 0)
  · rw [hp.e]; exact H1
  · exact (hp.ok.ents r hr).len
  · rw [hp.l]; exact nil_recs

theorem laidI_call {h : Hd} {ve vr : Value} {u top : Int} (hp : PlainH u top h) (hd : h.data = []) (H1 : RowAt w ve (trimE u).length (trimE u).flatten) (H2 : RowAt w vr h.row.length (h.row.map Pl.cells).flatten) (n : Int) (pa : Int × Int × Int × Int) (dec : Bool) (H : At w0 L w) :
    Calls Try.prog 23 #[.agg (hdV h nl ve nl vr), .agg ((lcI n pa dec).cells nl nl nl)] w (fun e w' => ∃ ad cap, e = .returned (.agg (hdV (laidS h (lcI n pa dec)) nl ve nl (.slice ad (laidS h (lcI n pa dec)).row.length cap))) ∧ At w0 (Hold (.slice ad (laidS h (lcI n pa dec)).row.length cap) (laidS h (lcI n pa dec)).row.length ((laidS h (lcI n pa dec)).row.map Pl.cells).flatten :: L) w') := by
  have hl := may_len hp.may
  refine (rlaid (h := h) (c := lcI n pa dec) hp.ok (by omega) (hdAt_of hp hd H1 H2) (nil_row (n := 0)) nil_recs nil_recs H).mono ?_
  rintro e w' ⟨vr', rfl, H3⟩
  have k1 : ¬ (lcI n pa dec).kk = 1 := fun e => absurd (show (3 : Int) = 1 from e) (by decide)
  have k2 : ¬ (lcI n pa dec).kk = 2 := fun e => absurd (show (3 : Int) = 2 from e) (by decide)
  rw [if_neg k1] at H3
  rw [if_neg k1, if_neg k2, if_neg k2]
  obtain ⟨ad, cap, rfl, -⟩ := hold_at H3
  exact ⟨ad, cap, rfl, H3⟩

theorem holds {u m : Int} (u0 : 0 ≤ u) (u1 : u < 300) (m0 : 0 ≤ m) (m1 : m < 200) {vo : Value} {odd : List Int} (hv : RowAt w vo odd.length (odd.map (Value.int .i64))) (hin : ∀ x ∈ odd, In64 x) (H : At w0 L w) :
    Calls Try.prog 24 #[.int .i64 u, .int .i64 m, vo] w (HoPost w0 L u m) := by
  obtain ⟨W, rfl⟩ : ∃ W : World, W = w := ⟨_, rfl⟩
  have HF := At.of W
  have H0 := Lib.hid H
  obtain ⟨ado, capo, rfl, o1, o2, o3, o4⟩ := hv
  obtain ⟨M, rfl⟩ : ∃ M : Nat, m = M := ⟨m.toNat, by omega⟩
  have O3 := Lib.hid o3
  have O4 := Lib.hid o4
  have Hin := Lib.hid hin
  have OL := Lib.hid (show odd.length ≤ 9223372036854775807 by simp only [maxLen] at o2; omega)
  clear H o1 o2 o3 o4 hin
  have ol := OL.out
  go_enter Try.func24, Try.ntmps24
  go_wp2_with (first | ((with_reducible refine k_alloc (T := 44) ?_); refine st_alloc rfl _ rfl _ z44 _ rfl HF ?_; (clear HF; intro g6 w HF K hK; simp only [Value.cells] at HF; go_simp)))
  refine (trim u HF).mono ?_
  rintro e w1 ⟨ade, cape, rfl, H1⟩
  rw [show trimU u = u from by unfold trimU; split <;> omega]
  replace HF := H1
  clear H1
  go_wp2_with (first | ((with_reducible refine k_alloc (T := 44) ?_); refine st_alloc rfl _ rfl _ z44 _ rfl HF ?_; (clear HF; intro g7 w HF K hK; simp only [Value.cells] at HF; go_simp)) | ((with_reducible refine k_store (T := 44) ?_); refine st_put rfl _ _ _ rfl _ rfl _ rfl ?_ s44 HF 0 rfl rfl ?_; (simp [Value.oneCell']); (clear HF; intro w HF K hK; simp only [List.set_cons_zero, List.set_cons_succ, Act.eval, Value.cells, Array.getD_eq_getD_getElem?, List.getElem?_toArray, List.getElem?_cons_succ, List.getElem?_cons_zero, Option.getD_some] at HF; go_simp)))
  go_loopw [8] (fun a wr => ∃ k : Nat, k ≤ M ∧ a = .int .i64 (u + 1 + k) ∧ ∃ vo, At W (OwnRow 88 15 vo (rowD u k).length ((rowD u k).map Pl.cells).flatten :: Blk g7 (.cells #[.int .i64 0, .int .i64 0, nl, .int .i64 u, .slice ade (trimE u).length cape, nl, vo] 44 (0, 0)) :: Hold (.slice ade (trimE u).length cape) (trimE u).length (trimE u).flatten :: Blk g6 (.cells #[.int .i64 0, .int .i64 0, nl, .int .i64 0, nl, nl, nl] 44 (0, 0)) :: Arg W :: []) wr) (fun a _ => (u + 1 + M - intOf a).toNat)
  case atStart => exact ⟨0, Nat.zero_le _, by simp, nl, own_nil (HF.sel 4 [0, 1, 2, 3]) 88 15⟩
  case round =>
    clear HF
    obtain ⟨k, hk, rfl, vo, HF⟩ := hrel
    obtain ⟨va2, vcap, hvc, -⟩ := own_value HF
    subst hvc
    by_cases hlt : k < M
    · have g1x : u + 1 + (k : Int) ≤ u + M := by omega
      have hlen : (rowD u k).length ≤ 200 := by rw [rowD_len]; omega
      go_wp2_with (first | ((with_reducible refine k_load ?_); refine st_load rfl _ _ rfl _ _ rfl ?_ HF 1 rfl rfl ?_; (kernel_rfl); (intro K hK; go_simp)) | ((with_reducible refine k_lit ?_); refine st_lit1 rfl _ _ rfl ([.int .i64 (u + 1 + k), .int .i64 0, .int .i64 0, .int .i64 0, .int .i64 0, .int .i64 4, .int .i64 1, .int .i64 (u + 1 + k), .string ⟨#[]⟩, .int .i64 0, .int .i64 0, .int .i64 0, .int .i64 0, .int .i64 0, .bool true] : List Value).toArray rfl 88 Try.underlying42 15 s88 zP.toArray ?_ rfl rfl (by decide) (by decide) HF ?_; (kernel_rfl); (clear HF; intro gl w6 HF K hK; replace HF : At W (OwnRow _ _ _ _ _ :: _) w6 := HF.pick 1 rfl; go_simp))         | ((with_reducible refine k_builtin ?_); refine st_append rfl _ _ _ rfl 88 Try.underlying42 15 s88 128 ?_ (.agg zP.toArray) ?_ rfl _ _ _ rfl HF (some ⟨gl, 0, none⟩) 1 1 ([.int .i64 (u + 1 + k), .int .i64 0, .int .i64 0, .int .i64 0, .int .i64 0, .int .i64 4, .int .i64 1, .int .i64 (u + 1 + k), .string ⟨#[]⟩, .int .i64 0, .int .i64 0, .int .i64 0, .int .i64 0, .int .i64 0, .bool true] : List Value) rfl rfl ?_ ?_ ?_ ?_ ?_; (kernel_rfl); (kernel_rfl); (intro _; exact ⟨_, rfl, cells_of (HF.get 1 rfl)⟩); (simp [Value.oneCell']); (simp only [maxLen]; omega); (omega); (clear HF; intro vc2 w7 HF K hK; have ho2 := own_one HF; go_simp))         | ((with_reducible refine k_store (T := 42) ?_); refine st_store rfl _ _ _ rfl _ _ rfl _ rfl ho2 ?_ HF 2 rfl ?_ ?_; (kernel_rfl); (simp); (clear HF; intro w8 HF K hK; simp only [List.set_cons_zero, List.set_cons_succ, List.setIfInBounds_toArray, Act.eval, Value.cells, Array.getD_eq_getD_getElem?, List.getElem?_toArray, List.getElem?_cons_succ, List.getElem?_cons_zero, Option.getD_some] at HF; go_simp)))
      go_roundw
      case rel =>
        refine ⟨k + 1, by omega, by go_num, vc2, ?_⟩
        rw [rowD_succ]
        simp only [List.length_append, List.map_append, List.flatten_append, List.map_cons, List.map_nil, List.flatten_cons, List.flatten_nil, List.append_nil, List.length_cons, List.length_nil, Nat.zero_add]
        exact HF.sel 6 [0, 2, 3, 4, 5]
      case measure => simp [intOf]; omega
    · have g1x : ¬ u + 1 + (k : Int) ≤ u + M := by omega
      obtain rfl : k = M := by omega
      have hPl := Lib.hid (plain_D u0 u1 (by omega : k < 200))
      clear hlt hk
      go_wp2_with fail
      have HG : At W (Hold (.slice va2 (rowD u k).length vcap) (hdD u k).row.length ((hdD u k).row.map Pl.cells).flatten :: Blk g7 (.cells #[.int .i64 0, .int .i64 0, nl, .int .i64 u, .slice ade (trimE u).length cape, nl, .slice va2 (rowD u k).length vcap] 44 (0, 0)) :: Hold (.slice ade (trimE u).length cape) (trimE u).length (trimE u).flatten :: Blk g6 (.cells #[.int .i64 0, .int .i64 0, nl, .int .i64 0, nl, nl, nl] 44 (0, 0)) :: Arg W :: []) _ := hold_of own_own HF
      clear HF g1x
      go_loopw [9] (fun a wr => ∃ (i : Nat) (h : Hd) (vr : Value), i ≤ odd.length ∧ a = .int .i64 i ∧ PlainH u (u + k + 20) h ∧ h.sn = 0 ∧ h.sc = 0 ∧ h.data = [] ∧ At W (Hold vr h.row.length (h.row.map Pl.cells).flatten :: Blk g7 (.cells #[.int .i64 h.sn, .int .i64 h.sc, nl, .int .i64 h.upto, .slice ade (trimE u).length cape, nl, vr] 44 (0, 0)) :: Hold (.slice ade (trimE u).length cape) (trimE u).length (trimE u).flatten :: Blk g6 (.cells #[.int .i64 0, .int .i64 0, nl, .int .i64 0, nl, nl, nl] 44 (0, 0)) :: Arg W :: []) wr) (fun a _ => odd.length - (intOf a).toNat)
      case atStart => exact ⟨0, hdD u k, _, Nat.zero_le _, rfl, hPl.out, rfl, rfl, rfl, HG⟩
      case round =>
        clear HG hPl
        obtain ⟨i, h, vr, hi, rfl, hp, q1, q2, q3, HF⟩ := hrel
        have Hp := Lib.hid hp
        have Q := Lib.hid (And.intro q1 (And.intro q2 q3))
        clear hp q1 q2 q3
        obtain ⟨adr, capr, hvr, -⟩ := hold_at HF
        subst hvr
        by_cases hlt : i < odd.length
        · have g2x : (i : Int) < odd.length := by omega
          obtain ⟨x, hx⟩ : ∃ x, odd[i]? = some x := ⟨_, List.getElem?_eq_getElem hlt⟩
          obtain ⟨b, rfl⟩ := O3.out (by omega)
          have Hx := Lib.hid (O4.out b rfl i (.int .i64 x) (by rw [List.getElem?_map, hx]; rfl))
          have hxin := Hin.out x (List.mem_of_getElem? hx)
          have hq : -2305843009213693952 ≤ x.tdiv 4 ∧ x.tdiv 4 ≤ 2305843009213693952 := by
            obtain ⟨x1, x2⟩ := hxin
            have e1 : Int.sign 4 = 1 := rfl
            rw [Int.tdiv_eq_ediv, e1]
            split <;> omega
          have hwq : IntKind.i64.wrap (x.tdiv 4) = x.tdiv 4 := IntWalk.i64_in _ (by omega)
          clear hx hxin hq
          go_wp2_with (first | ((with_reducible refine k_load (T := 3) ?_); refine st_load1 rfl _ _ rfl _ rfl ?_ ((HF.ext 4 rfl).cell Hx.out) ?_; (kernel_rfl); (intro K hK; go_simp)))
          refine (round (by decide) (by decide) (x.tdiv 4) HF).mono ?_
          rintro e w2 ⟨rfl, H1⟩
          replace HF := H1
          clear H1 hwq
          obtain ⟨r0, r1⟩ := roundS_lt (v := x.tdiv 4) (n := 20) (by decide)
          generalize roundS (x.tdiv 4) 20 = r at *
          go_wp2_with (first | ((with_reducible refine k_load (T := 3) ?_); refine st_load1 rfl _ _ rfl _ rfl ?_ ((HF.ext 4 rfl).cell Hx.out) ?_; (kernel_rfl); (intro K hK; go_simp)))
          refine (round (by decide) (by decide) x HF).mono ?_
          rintro e w3 ⟨rfl, H1⟩
          replace HF := H1
          clear H1
          generalize roundS x 4 = r2 at *
          have hp1 := fun (pa : Int × Int × Int × Int) (dec : Bool) => plain_laid Hp.out (n := u + k + 1 + r) (by omega) (by omega) (by omega) pa dec
          have Hp1 := Lib.hid hp1
          have Hlen := Lib.hid (show h.row.length ≤ 140737488355328 by have := may_len Hp.out.may; omega)
          obtain ⟨x0, x1, x2, x3, x4, x5, x6, x7, x8, x9, x10, x11, x12, hxa⟩ := at_cells Hp.out.may.rise Hp.out.ok (u + k + 1 + r)
          have Hxa := Lib.hid hxa
          clear hxa hp1
          by_cases hd : 1 < r2
          · have hdb : decide (1 < r2) = true := by simpa using hd
            clear hd
            have hfd := fun w => inst_dec x0 x1 x2 x3 x4 x5 x6 x7 x8 x9 x10 x11 x12 (decS h (u + k + 1 + r)).isSome w
            cases hds : (decS h (u + k + 1 + r)).isSome with
            | true =>
              rw [hds] at Hxa hfd
              clear hds
              go_wp2_with (first | ((with_reducible refine k_alloc (T := 69) ?_); refine st_alloc rfl _ rfl _ z69 #[.int .i64 0, .int .i64 0, .int .i64 0, .int .i64 0, .int .i64 0, .int .i64 0, .int .i64 0, .string ⟨#[]⟩, .int .i64 0, .int .i64 0, .int .i64 0, .int .i64 0, .int .i64 0, .bool false] rfl HF ?_; (clear HF; intro g11 w HF K hK; go_simp)) | ((with_reducible refine k_store (T := 69) ?_); refine st_put rfl _ _ _ rfl _ rfl _ rfl ?_ s69 HF 0 rfl rfl ?_; (simp [Value.oneCell']); (clear HF; intro w HF K hK; simp only [List.set_cons_zero, List.set_cons_succ, Act.eval, Value.cells, Array.getD_eq_getD_getElem?, List.getElem?_toArray, List.getElem?_cons_succ, List.getElem?_cons_zero, Option.getD_some] at HF; go_simp)) | ((with_reducible refine k_store (T := 27) ?_); refine st_stores rfl _ _ _ rfl _ _ rfl _ rfl ?_ s27 HF 0 rfl ?_ ?_; (simp [Value.oneCell']); (simp); (clear HF; intro w HF K hK; simp only [List.set_cons_zero, List.set_cons_succ, List.take_succ_cons, List.take_zero, List.drop_succ_cons, List.drop_zero, List.cons_append, List.nil_append, List.size_toArray, List.length_cons, List.length_nil, Nat.reduceAdd, Act.eval, Value.cells, Array.getD_eq_getD_getElem?, List.getElem?_toArray, List.getElem?_cons_succ, List.getElem?_cons_zero, Option.getD_some] at HF; go_simp)) | ((with_reducible refine k_load (T := 44) ?_); refine st_row rfl _ _ rfl _ rfl a44 7 s44 HF 2 rfl rfl ?_; (intro K hK; go_simp)) | ((with_reducible refine k_load (T := 44) ?_); refine st_loads rfl _ _ rfl _ _ rfl a44 7 s44 HF 2 rfl ?_ ?_; (simp); (intro K hK; go_simp)) | ((with_reducible refine k_load ?_); refine st_load rfl _ _ rfl _ _ rfl ?_ HF 0 rfl rfl ?_; (kernel_rfl); (intro K hK; go_simp)))
              refine (rat Hp.out.ok Hlen.out (hdAt_of Hp.out Q.out.2.2 (hold_at (HF.pick 3 rfl)) (hold_at (HF.pick 1 rfl))).r (u + k + 1 + r) HF).mono ?_
              rintro e w5 ⟨rfl, H1⟩
              replace HF := H1
              clear H1
              rw [Hxa.out]
              go_wp2_with fail
              go_roundw
              case rel => exact ⟨i + 1, h, _, by omega, by go_num, Hp.out, Q.out.1, Q.out.2.1, Q.out.2.2, HF.sel 6 [1, 2, 3, 4, 5]⟩
              case measure => simp [intOf]; omega
            | false =>
              rw [hds] at Hxa hfd
              clear hds
              go_wp2_with (first | ((with_reducible refine k_alloc (T := 69) ?_); refine st_alloc rfl _ rfl _ z69 #[.int .i64 0, .int .i64 0, .int .i64 0, .int .i64 0, .int .i64 0, .int .i64 0, .int .i64 0, .string ⟨#[]⟩, .int .i64 0, .int .i64 0, .int .i64 0, .int .i64 0, .int .i64 0, .bool false] rfl HF ?_; (clear HF; intro g11 w HF K hK; go_simp)) | ((with_reducible refine k_store (T := 69) ?_); refine st_put rfl _ _ _ rfl _ rfl _ rfl ?_ s69 HF 0 rfl rfl ?_; (simp [Value.oneCell']); (clear HF; intro w HF K hK; simp only [List.set_cons_zero, List.set_cons_succ, Act.eval, Value.cells, Array.getD_eq_getD_getElem?, List.getElem?_toArray, List.getElem?_cons_succ, List.getElem?_cons_zero, Option.getD_some] at HF; go_simp)) | ((with_reducible refine k_store (T := 27) ?_); refine st_stores rfl _ _ _ rfl _ _ rfl _ rfl ?_ s27 HF 0 rfl ?_ ?_; (simp [Value.oneCell']); (simp); (clear HF; intro w HF K hK; simp only [List.set_cons_zero, List.set_cons_succ, List.take_succ_cons, List.take_zero, List.drop_succ_cons, List.drop_zero, List.cons_append, List.nil_append, List.size_toArray, List.length_cons, List.length_nil, Nat.reduceAdd, Act.eval, Value.cells, Array.getD_eq_getD_getElem?, List.getElem?_toArray, List.getElem?_cons_succ, List.getElem?_cons_zero, Option.getD_some] at HF; go_simp)) | ((with_reducible refine k_load (T := 44) ?_); refine st_row rfl _ _ rfl _ rfl a44 7 s44 HF 2 rfl rfl ?_; (intro K hK; go_simp)) | ((with_reducible refine k_load (T := 44) ?_); refine st_loads rfl _ _ rfl _ _ rfl a44 7 s44 HF 2 rfl ?_ ?_; (simp); (intro K hK; go_simp)) | ((with_reducible refine k_load ?_); refine st_load rfl _ _ rfl _ _ rfl ?_ HF 0 rfl rfl ?_; (kernel_rfl); (intro K hK; go_simp)))
              refine (rat Hp.out.ok Hlen.out (hdAt_of Hp.out Q.out.2.2 (hold_at (HF.pick 3 rfl)) (hold_at (HF.pick 1 rfl))).r (u + k + 1 + r) HF).mono ?_
              rintro e w5 ⟨rfl, H1⟩
              replace HF := H1
              clear H1
              rw [Hxa.out]
              go_wp2_with (first | ((with_reducible refine k_load (T := 44) ?_); refine st_row rfl _ _ rfl _ rfl a44 7 s44 HF 2 rfl rfl ?_; (intro K hK; go_simp)) | ((with_reducible refine k_load (T := 44) ?_); refine st_loads rfl _ _ rfl _ _ rfl a44 7 s44 HF 2 rfl ?_ ?_; (simp); (intro K hK; go_simp)) | ((with_reducible refine k_load (T := 69) ?_); refine st_row rfl _ _ rfl _ rfl a69 14 s69 HF 0 rfl rfl ?_; (intro K hK; go_simp)) | ((with_reducible refine k_load (T := 69) ?_); refine st_loads rfl _ _ rfl _ _ rfl a69 14 s69 HF 0 rfl ?_ ?_; (simp); (intro K hK; go_simp)) | ((with_reducible refine k_load ?_); refine st_load rfl _ _ rfl _ _ rfl ?_ HF 0 rfl rfl ?_; (kernel_rfl); (intro K hK; go_simp)))
              refine (laidI_call Hp.out Q.out.2.2 (hold_at (HF.pick 3 rfl)) (hold_at (HF.pick 1 rfl)) (u + k + 1 + r) (0, 0, 0, 0) true HF).mono ?_
              rintro e w6 ⟨ad3, cap3, rfl, H1⟩
              replace HF := H1
              clear H1
              simp only [hdV]
              go_wp2_with (first | ((with_reducible refine k_store (T := 44) ?_); refine st_put rfl _ _ _ rfl _ rfl _ rfl ?_ s44 HF 3 rfl rfl ?_; (simp [Value.oneCell']); (clear HF; intro w HF K hK; simp only [List.set_cons_zero, List.set_cons_succ, Act.eval, Value.cells, Array.getD_eq_getD_getElem?, List.getElem?_toArray, List.getElem?_cons_succ, List.getElem?_cons_zero, Option.getD_some] at HF; go_simp)))
              go_roundw
              case rel => exact ⟨i + 1, laidS h (lcI (u + k + 1 + r) (0, 0, 0, 0) true), _, by omega, by go_num, Hp1.out _ _, laidI_keeps.1.trans Q.out.1, laidI_keeps.2.1.trans Q.out.2.1, laidI_keeps.2.2.1.trans Q.out.2.2, HF.sel 7 [0, 3, 4, 5, 6]⟩
              case measure => simp [intOf]; omega
          · have hdb : decide (1 < r2) = false := by simpa using hd
            clear hd
            have hfd := fun w => inst_dec x0 x1 x2 x3 x4 x5 x6 x7 x8 x9 x10 x11 x12 (decS h (u + k + 1 + r)).isSome w
            cases hds : (decS h (u + k + 1 + r)).isSome with
            | true =>
              rw [hds] at Hxa hfd
              clear hds
              go_wp2_with (first | ((with_reducible refine k_alloc (T := 69) ?_); refine st_alloc rfl _ rfl _ z69 #[.int .i64 0, .int .i64 0, .int .i64 0, .int .i64 0, .int .i64 0, .int .i64 0, .int .i64 0, .string ⟨#[]⟩, .int .i64 0, .int .i64 0, .int .i64 0, .int .i64 0, .int .i64 0, .bool false] rfl HF ?_; (clear HF; intro g11 w HF K hK; go_simp)) | ((with_reducible refine k_store (T := 69) ?_); refine st_put rfl _ _ _ rfl _ rfl _ rfl ?_ s69 HF 0 rfl rfl ?_; (simp [Value.oneCell']); (clear HF; intro w HF K hK; simp only [List.set_cons_zero, List.set_cons_succ, Act.eval, Value.cells, Array.getD_eq_getD_getElem?, List.getElem?_toArray, List.getElem?_cons_succ, List.getElem?_cons_zero, Option.getD_some] at HF; go_simp)) | ((with_reducible refine k_store (T := 27) ?_); refine st_stores rfl _ _ _ rfl _ _ rfl _ rfl ?_ s27 HF 0 rfl ?_ ?_; (simp [Value.oneCell']); (simp); (clear HF; intro w HF K hK; simp only [List.set_cons_zero, List.set_cons_succ, List.take_succ_cons, List.take_zero, List.drop_succ_cons, List.drop_zero, List.cons_append, List.nil_append, List.size_toArray, List.length_cons, List.length_nil, Nat.reduceAdd, Act.eval, Value.cells, Array.getD_eq_getD_getElem?, List.getElem?_toArray, List.getElem?_cons_succ, List.getElem?_cons_zero, Option.getD_some] at HF; go_simp)) | ((with_reducible refine k_load (T := 44) ?_); refine st_row rfl _ _ rfl _ rfl a44 7 s44 HF 2 rfl rfl ?_; (intro K hK; go_simp)) | ((with_reducible refine k_load (T := 44) ?_); refine st_loads rfl _ _ rfl _ _ rfl a44 7 s44 HF 2 rfl ?_ ?_; (simp); (intro K hK; go_simp)) | ((with_reducible refine k_load ?_); refine st_load rfl _ _ rfl _ _ rfl ?_ HF 0 rfl rfl ?_; (kernel_rfl); (intro K hK; go_simp)))
              refine (rat Hp.out.ok Hlen.out (hdAt_of Hp.out Q.out.2.2 (hold_at (HF.pick 3 rfl)) (hold_at (HF.pick 1 rfl))).r (u + k + 1 + r) HF).mono ?_
              rintro e w5 ⟨rfl, H1⟩
              replace HF := H1
              clear H1
              rw [Hxa.out]
              go_wp2_with fail
              go_roundw
              case rel => exact ⟨i + 1, h, _, by omega, by go_num, Hp.out, Q.out.1, Q.out.2.1, Q.out.2.2, HF.sel 6 [1, 2, 3, 4, 5]⟩
              case measure => simp [intOf]; omega
            | false =>
              rw [hds] at Hxa hfd
              clear hds
              go_wp2_with (first | ((with_reducible refine k_alloc (T := 69) ?_); refine st_alloc rfl _ rfl _ z69 #[.int .i64 0, .int .i64 0, .int .i64 0, .int .i64 0, .int .i64 0, .int .i64 0, .int .i64 0, .string ⟨#[]⟩, .int .i64 0, .int .i64 0, .int .i64 0, .int .i64 0, .int .i64 0, .bool false] rfl HF ?_; (clear HF; intro g11 w HF K hK; go_simp)) | ((with_reducible refine k_store (T := 69) ?_); refine st_put rfl _ _ _ rfl _ rfl _ rfl ?_ s69 HF 0 rfl rfl ?_; (simp [Value.oneCell']); (clear HF; intro w HF K hK; simp only [List.set_cons_zero, List.set_cons_succ, Act.eval, Value.cells, Array.getD_eq_getD_getElem?, List.getElem?_toArray, List.getElem?_cons_succ, List.getElem?_cons_zero, Option.getD_some] at HF; go_simp)) | ((with_reducible refine k_store (T := 27) ?_); refine st_stores rfl _ _ _ rfl _ _ rfl _ rfl ?_ s27 HF 0 rfl ?_ ?_; (simp [Value.oneCell']); (simp); (clear HF; intro w HF K hK; simp only [List.set_cons_zero, List.set_cons_succ, List.take_succ_cons, List.take_zero, List.drop_succ_cons, List.drop_zero, List.cons_append, List.nil_append, List.size_toArray, List.length_cons, List.length_nil, Nat.reduceAdd, Act.eval, Value.cells, Array.getD_eq_getD_getElem?, List.getElem?_toArray, List.getElem?_cons_succ, List.getElem?_cons_zero, Option.getD_some] at HF; go_simp)) | ((with_reducible refine k_load (T := 44) ?_); refine st_row rfl _ _ rfl _ rfl a44 7 s44 HF 2 rfl rfl ?_; (intro K hK; go_simp)) | ((with_reducible refine k_load (T := 44) ?_); refine st_loads rfl _ _ rfl _ _ rfl a44 7 s44 HF 2 rfl ?_ ?_; (simp); (intro K hK; go_simp)) | ((with_reducible refine k_load ?_); refine st_load rfl _ _ rfl _ _ rfl ?_ HF 0 rfl rfl ?_; (kernel_rfl); (intro K hK; go_simp)))
              refine (rat Hp.out.ok Hlen.out (hdAt_of Hp.out Q.out.2.2 (hold_at (HF.pick 3 rfl)) (hold_at (HF.pick 1 rfl))).r (u + k + 1 + r) HF).mono ?_
              rintro e w5 ⟨rfl, H1⟩
              replace HF := H1
              clear H1
              rw [Hxa.out]
              go_wp2_with (first | ((with_reducible refine k_load (T := 44) ?_); refine st_row rfl _ _ rfl _ rfl a44 7 s44 HF 2 rfl rfl ?_; (intro K hK; go_simp)) | ((with_reducible refine k_load (T := 44) ?_); refine st_loads rfl _ _ rfl _ _ rfl a44 7 s44 HF 2 rfl ?_ ?_; (simp); (intro K hK; go_simp)) | ((with_reducible refine k_load (T := 69) ?_); refine st_row rfl _ _ rfl _ rfl a69 14 s69 HF 0 rfl rfl ?_; (intro K hK; go_simp)) | ((with_reducible refine k_load (T := 69) ?_); refine st_loads rfl _ _ rfl _ _ rfl a69 14 s69 HF 0 rfl ?_ ?_; (simp); (intro K hK; go_simp)) | ((with_reducible refine k_load ?_); refine st_load rfl _ _ rfl _ _ rfl ?_ HF 0 rfl rfl ?_; (kernel_rfl); (intro K hK; go_simp)))
              refine (laidI_call Hp.out Q.out.2.2 (hold_at (HF.pick 3 rfl)) (hold_at (HF.pick 1 rfl)) (u + k + 1 + r) (3, 2, 2, 2) false HF).mono ?_
              rintro e w6 ⟨ad3, cap3, rfl, H1⟩
              replace HF := H1
              clear H1
              simp only [hdV]
              go_wp2_with (first | ((with_reducible refine k_store (T := 44) ?_); refine st_put rfl _ _ _ rfl _ rfl _ rfl ?_ s44 HF 3 rfl rfl ?_; (simp [Value.oneCell']); (clear HF; intro w HF K hK; simp only [List.set_cons_zero, List.set_cons_succ, Act.eval, Value.cells, Array.getD_eq_getD_getElem?, List.getElem?_toArray, List.getElem?_cons_succ, List.getElem?_cons_zero, Option.getD_some] at HF; go_simp)))
              go_roundw
              case rel => exact ⟨i + 1, laidS h (lcI (u + k + 1 + r) (3, 2, 2, 2) false), _, by omega, by go_num, Hp1.out _ _, laidI_keeps.1.trans Q.out.1, laidI_keeps.2.1.trans Q.out.2.1, laidI_keeps.2.2.1.trans Q.out.2.2, HF.sel 7 [0, 3, 4, 5, 6]⟩
              case measure => simp [intOf]; omega
        · have g2x : ¬ (i : Int) < odd.length := by omega
          go_wp2_with (first | ((with_reducible refine k_load (T := 44) ?_); refine st_row rfl _ _ rfl _ rfl a44 7 s44 HF 1 rfl rfl ?_; (intro K hK; go_simp)) | ((with_reducible refine k_load (T := 44) ?_); refine st_loads rfl _ _ rfl _ _ rfl a44 7 s44 HF 1 rfl ?_ ?_; (simp); (intro K hK; go_simp)) | ((with_reducible refine k_store (T := 44) ?_); refine st_put rfl _ _ _ rfl _ rfl _ rfl ?_ s44 HF 3 rfl rfl ?_; (simp [Value.oneCell']); (clear HF; intro w HF K hK; simp only [List.set_cons_zero, List.set_cons_succ, Act.eval, Value.cells, Array.getD_eq_getD_getElem?, List.getElem?_toArray, List.getElem?_cons_succ, List.getElem?_cons_zero, Option.getD_some] at HF; go_simp)))
          refine bodyPost_ret (results_cell rfl rfl a44 s44 (HF.get 3 rfl) rfl) rfl ?_
          refine ⟨h, .slice ade (trimE u).length cape, .slice adr h.row.length capr, ?_, Hp.out, Q.out.1, Q.out.2.1, Q.out.2.2, ?_⟩
          · rfl
          · rw [Hp.out.e]
            exact (show At W ([Hold _ _ _, Hold _ _ _] ++ [Arg W]) _ from HF.sel 5 [2, 0, 4]).lift H0.out
end
end Md
end Go.Proofs.Ytjobojgmadjmfaa
end MgMdEnH
section MgMdEnB
namespace Go.Proofs.Ytjobojgmadjmfaa
open Go.Hp Go.RowKit
set_option linter.unusedVariables false
set_option linter.unusedSimpArgs false
set_option maxRecDepth 100000
set_option maxHeartbeats 8000000
namespace Md
section
variable {w0 w : World} {L : List HProp}

def TrR (u : Int) (v : Value) : HProp := fun hp => v = .agg #[.int .i64 u, comp v 1, nl] ∧ Hold (comp v 1) (trimE u).length (trimE u).flatten hp

theorem right {h : Hd} {vd ve vl vr : Value} {u top : Int} (hp : PlainH u top h) (hv : HdAt w h vd ve vl vr) (H : At w0 L w) :
    Calls Try.prog 30 #[.agg (hdV h vd ve vl vr)] w (fun e w' => e = .returned (.bool true) ∧ At w0 L w') := by
  obtain ⟨W, rfl⟩ : ∃ W : World, W = w := ⟨_, rfl⟩
  have HF := At.of W
  have H0 := Lib.hid H
  have hlen := may_len hp.may
  obtain ⟨ad, cap, hvr, c1, c2, c3⟩ := hv.r.value
  rw [List.length_map] at hvr c1 c3
  have C3 := Lib.hid c3
  have Hv := Lib.hid hv
  have Hp := Lib.hid hp
  have hor : RowKit.Hid (∃ ad n cap, ve = .slice ad n cap) := Lib.hid (by obtain ⟨⟨ad, cap, e, _⟩, _⟩ := hv.e; exact ⟨_, _, _, e⟩)
  clear H hv c1 c2 c3 hp
  subst hvr
  simp only [hdV]
  go_enter Try.func30, Try.ntmps30
  go_wp2_with (first | ((with_reducible refine k_box (T := 44) ?_); refine st_box rfl _ _ rfl _ rfl HF ?_; (clear HF; intro g1 w HF K hK; simp only [Value.cells, Act.eval, Value.cells, Array.getD_eq_getD_getElem?, List.getElem?_toArray, List.getElem?_cons_succ, List.getElem?_cons_zero, Option.getD_some] at HF; go_simp)))
  go_loopw [3] (fun i wr => ∃ k : Nat, k ≤ h.row.length ∧ i = .int .i64 k ∧ At W (Blk g1 (.cells #[.int .i64 h.sn, .int .i64 h.sc, vd, .int .i64 h.upto, ve, vl, .slice ad h.row.length cap] 44 (0, 0)) :: Arg W :: []) wr) (fun i _ => h.row.length - (intOf i).toNat)
  case atStart => exact ⟨0, Nat.zero_le _, rfl, HF⟩
  case round =>
    clear HF
    obtain ⟨k, hk, rfl, HF⟩ := hrel
    by_cases hlt : k < h.row.length
    · have g1x : (k : Int) < h.row.length := by omega
      obtain ⟨b, rfl⟩ := C3.out (by omega)
      obtain ⟨⟨pn, ppa, pcmd, pd⟩, hp⟩ : ∃ p, h.row[k]? = some p := ⟨_, List.getElem?_eq_getElem hlt⟩
      have hpo := Hp.out.ok.row _ (List.mem_of_getElem? hp)
      have hpr := Hp.out.r _ (List.mem_of_getElem? hp)
      have hpl := Hp.out.may.lo _ (List.mem_of_getElem? hp)
      obtain ⟨a1, a2, a3, a4, hpa⟩ := pa_cases hpo.pa
      obtain ⟨⟨xk, xcl, xop, xnm, xf1, xf2, xn1, xn2, xsz⟩, hpc⟩ := cmd_cases hpo.cmd
      dsimp only at hpa hpc hpr hpl
      subst hpa hpc
      have hr : (h.row.map Pl.cells)[k]? = some [.int .i64 pn, .int .i64 a1, .int .i64 a2, .int .i64 a3, .int .i64 a4, .int .i64 xk, .int .i64 xcl, .int .i64 xop, .string xnm, .int .i64 xf1, .int .i64 xf2, .int .i64 xn1, .int .i64 xn2, .int .i64 xsz, .bool pd] := by rw [List.getElem?_map, hp]; rfl
      have hv := Hv.out.r
      have HcN := Lib.hid (show W.cell? (b.add (k * 15)) = some (.int .i64 pn) from hv.cell (by rw [List.length_map]) hr (j := 0) rfl)
      have HcD := Lib.hid (show W.cell? (((b.add (k * 15)).add 1).add 13) = some (.bool pd) by rw [Addr.add_add, Addr.add_add]; exact hv.cell (by rw [List.length_map]) hr (j := 14) rfl)
      have HcO := Lib.hid (show W.cell? ((((b.add (k * 15)).add 1).add 4).add 2) = some (.int .i64 xop) by rw [Addr.add_add, Addr.add_add, Addr.add_add]; exact hv.cell (by rw [List.length_map]) hr (j := 7) rfl)
      have hle : decide (pn ≤ h.upto) = false := decide_eq_false (by omega)
      clear hr hp hpo hv hpl
      cases pd with
      | false =>
        clear hpr
        go_wp2_with (first | ((with_reducible refine k_load ?_); refine st_load rfl _ _ rfl _ _ rfl ?_ HF 0 rfl rfl ?_; (kernel_rfl); (intro K hK; go_simp)))
        apply wp_region_eff [] (fun i => (#[[], [], [], [], [], [], [], [], [], [], [], [], [], [], [], [], [], [], [], [], [], [], [], [], [], [], [], [], [], [], [], [], [], [], [], []] : Array (List Nat)).getD i []) (fun val i => ((_ :: _ :: _ :: _ :: _ :: _ :: _ :: .bool false :: undef :: undef :: undef :: undef :: undef :: undef :: undef :: undef :: undef :: undef :: undef :: undef :: undef :: undef :: undef :: _ :: .bool false :: _ :: _ :: _ :: _ :: _ :: _ :: _ :: _ :: _ :: _ :: _ :: []) : List Value).toArray.getD i undef) (fun E val => At W (Blk g1 (.cells #[.int .i64 h.sn, .int .i64 h.sc, vd, .int .i64 h.upto, ve, vl, .slice (some b) h.row.length cap] 44 (0, 0)) :: Arg W :: [])) (by kernel_rfl) (by kernel_rfl) (by kernel_rfl) (by kernel_rfl) (HF)
        case step =>
          iterate 8 (refine ⟨eff_pl rfl (fun _ => by rfl) fun E val hn T ds w K H hk ho hK => ?_, ?_⟩; rotate_left)
          iterate 15 (refine ⟨eff_no rfl (fun _ => by rfl) (fun _ => rfl), ?_⟩)
          iterate 13 (refine ⟨eff_pl rfl (fun _ => by rfl) fun E val hn T ds w K H hk ho hK => ?_, ?_⟩; rotate_left)
          exact trivial
          · have o1 := ho 1 (by kernel_rfl); clear ho; simp [know, dstAt, Region.binds] at hk o1; go_simp; exact hK _ H
          · clear ho; simp [know, dstAt, Region.binds] at hk
            first | (refine op_loadT (v := .slice (some b) h.row.length cap) rfl hk (by kernel_rfl) H 0 rfl rfl ?_; exact hK _ H) | (refine op_loadT (v := .int .i64 h.upto) rfl hk (by kernel_rfl) H 0 rfl rfl ?_; exact hK _ H) | (refine op_load1T rfl hk (by kernel_rfl) ((H.ext 1 rfl).cell HcN.out) ?_; exact hK _ H) | (refine op_load1T rfl hk (by kernel_rfl) ((H.ext 1 rfl).cell HcD.out) ?_; exact hK _ H) | (refine op_load1T rfl hk (by kernel_rfl) ((H.ext 1 rfl).cell HcO.out) ?_; exact hK _ H)
          · have o3 := ho 3 (by kernel_rfl); clear ho; simp [know, dstAt, Region.binds] at hk o3; go_simp; exact hK _ H
          · clear ho; simp [know, dstAt, Region.binds] at hk; go_simp; exact hK _ H
          · clear ho; simp [know, dstAt, Region.binds] at hk; go_simp; exact hK _ H
          · clear ho; simp [know, dstAt, Region.binds] at hk; go_simp; exact hK _ H
          · clear ho; simp [know, dstAt, Region.binds] at hk
            first | (refine op_loadT (v := .slice (some b) h.row.length cap) rfl hk (by kernel_rfl) H 0 rfl rfl ?_; exact hK _ H) | (refine op_loadT (v := .int .i64 h.upto) rfl hk (by kernel_rfl) H 0 rfl rfl ?_; exact hK _ H) | (refine op_load1T rfl hk (by kernel_rfl) ((H.ext 1 rfl).cell HcN.out) ?_; exact hK _ H) | (refine op_load1T rfl hk (by kernel_rfl) ((H.ext 1 rfl).cell HcD.out) ?_; exact hK _ H) | (refine op_load1T rfl hk (by kernel_rfl) ((H.ext 1 rfl).cell HcO.out) ?_; exact hK _ H)
          · clear ho; simp [know, dstAt, Region.binds] at hk; go_simp; exact hK _ H
          · clear ho; simp [know, dstAt, Region.binds] at hk; go_simp; exact hK _ H
          · clear ho; simp [know, dstAt, Region.binds] at hk; go_simp; exact hK _ H
          · have o1 := ho 1 (by kernel_rfl); clear ho; simp [know, dstAt, Region.binds] at hk o1; go_simp; exact hK _ H
          · clear ho; simp [know, dstAt, Region.binds] at hk
            first | (refine op_loadT (v := .slice (some b) h.row.length cap) rfl hk.1 (by kernel_rfl) H 0 rfl rfl ?_; exact hK _ H) | (refine op_loadT (v := .int .i64 h.upto) rfl hk.1 (by kernel_rfl) H 0 rfl rfl ?_; exact hK _ H) | (refine op_load1T rfl hk.1 (by kernel_rfl) ((H.ext 1 rfl).cell HcN.out) ?_; exact hK _ H) | (refine op_load1T rfl hk.1 (by kernel_rfl) ((H.ext 1 rfl).cell HcD.out) ?_; exact hK _ H) | (refine op_load1T rfl hk.1 (by kernel_rfl) ((H.ext 1 rfl).cell HcO.out) ?_; exact hK _ H)
          · have o3 := ho 3 (by kernel_rfl); clear ho; simp [know, dstAt, Region.binds] at hk o3; go_simp; exact hK _ H
          · clear ho; simp [know, dstAt, Region.binds] at hk; go_simp; exact hK _ H
          · clear ho; simp [know, dstAt, Region.binds] at hk; go_simp; exact hK _ H
          · clear ho; simp [know, dstAt, Region.binds] at hk
            first | (refine op_loadT (v := .slice (some b) h.row.length cap) rfl hk.1 (by kernel_rfl) H 0 rfl rfl ?_; exact hK _ H) | (refine op_loadT (v := .int .i64 h.upto) rfl hk.1 (by kernel_rfl) H 0 rfl rfl ?_; exact hK _ H) | (refine op_load1T rfl hk.1 (by kernel_rfl) ((H.ext 1 rfl).cell HcN.out) ?_; exact hK _ H) | (refine op_load1T rfl hk.1 (by kernel_rfl) ((H.ext 1 rfl).cell HcD.out) ?_; exact hK _ H) | (refine op_load1T rfl hk.1 (by kernel_rfl) ((H.ext 1 rfl).cell HcO.out) ?_; exact hK _ H)
          · have o1 := ho 1 (by kernel_rfl); clear ho; simp [know, dstAt, Region.binds] at hk o1; go_simp; exact hK _ H
          · clear ho; simp [know, dstAt, Region.binds] at hk; go_simp; exact hK _ H
          · clear ho; simp [know, dstAt, Region.binds] at hk
            first | (refine op_loadT (v := .slice (some b) h.row.length cap) rfl hk.1 (by kernel_rfl) H 0 rfl rfl ?_; exact hK _ H) | (refine op_loadT (v := .int .i64 h.upto) rfl hk.1 (by kernel_rfl) H 0 rfl rfl ?_; exact hK _ H) | (refine op_load1T rfl hk.1 (by kernel_rfl) ((H.ext 1 rfl).cell HcN.out) ?_; exact hK _ H) | (refine op_load1T rfl hk.1 (by kernel_rfl) ((H.ext 1 rfl).cell HcD.out) ?_; exact hK _ H) | (refine op_load1T rfl hk.1 (by kernel_rfl) ((H.ext 1 rfl).cell HcO.out) ?_; exact hK _ H)
          · clear ho; simp [know, dstAt, Region.binds] at hk; go_simp; exact hK _ H
          · clear ho; simp [know, dstAt, Region.binds] at hk; go_simp; exact hK _ H
        case ins =>
          iterate 36 (refine ⟨ins_pl rfl (fun _ _ _ => rfl), ?_⟩)
          exact trivial
        case jns =>
          iterate 36 (refine ⟨j_pl (fun _ _ _ => rfl), ?_⟩)
          exact trivial
        case fin =>
          intro E val w5 hE H
          clear HF hE
          have HF := H
          clear H
          simp [putAll, Act.put]
          go_wp2_with fail
          go_roundw
          case rel => exact ⟨k + 1, by omega, rfl, HF⟩
          case measure => simp [intOf]; omega
      | true =>
        have hxo : xop = pn := by
          have := hpr.1 rfl
          simp [Cm.cells, cmL] at this
          exact this.2.2.1
        have hne : (xop != pn) = false := by simp [hxo]
        clear hpr hxo
        go_wp2_with (first | ((with_reducible refine k_load ?_); refine st_load rfl _ _ rfl _ _ rfl ?_ HF 0 rfl rfl ?_; (kernel_rfl); (intro K hK; go_simp)))
        apply wp_region_eff [] (fun i => (#[[], [], [], [], [], [], [], [], [], [], [], [], [], [], [], [], [], [], [], [], [], [], [], [], [], [], [], [], [], [], [], [], [], [], [], []] : Array (List Nat)).getD i []) (fun val i => ((_ :: _ :: _ :: _ :: _ :: _ :: _ :: .bool true :: _ :: _ :: _ :: _ :: _ :: _ :: _ :: _ :: _ :: _ :: _ :: _ :: _ :: _ :: _ :: _ :: .bool false :: _ :: _ :: _ :: _ :: _ :: _ :: _ :: _ :: _ :: _ :: _ :: []) : List Value).toArray.getD i undef) (fun E val => At W (Blk g1 (.cells #[.int .i64 h.sn, .int .i64 h.sc, vd, .int .i64 h.upto, ve, vl, .slice (some b) h.row.length cap] 44 (0, 0)) :: Arg W :: [])) (by kernel_rfl) (by kernel_rfl) (by kernel_rfl) (by kernel_rfl) (HF)
        case step =>
          iterate 36 (refine ⟨eff_pl rfl (fun _ => by rfl) fun E val hn T ds w K H hk ho hK => ?_, ?_⟩; rotate_left)
          exact trivial
          · have o1 := ho 1 (by kernel_rfl); clear ho; simp [know, dstAt, Region.binds] at hk o1; go_simp; exact hK _ H
          · clear ho; simp [know, dstAt, Region.binds] at hk
            first | (refine op_loadT (v := .slice (some b) h.row.length cap) rfl hk (by kernel_rfl) H 0 rfl rfl ?_; exact hK _ H) | (refine op_loadT (v := .int .i64 h.upto) rfl hk (by kernel_rfl) H 0 rfl rfl ?_; exact hK _ H) | (refine op_load1T rfl hk (by kernel_rfl) ((H.ext 1 rfl).cell HcN.out) ?_; exact hK _ H) | (refine op_load1T rfl hk (by kernel_rfl) ((H.ext 1 rfl).cell HcD.out) ?_; exact hK _ H) | (refine op_load1T rfl hk (by kernel_rfl) ((H.ext 1 rfl).cell HcO.out) ?_; exact hK _ H)
          · have o3 := ho 3 (by kernel_rfl); clear ho; simp [know, dstAt, Region.binds] at hk o3; go_simp; exact hK _ H
          · clear ho; simp [know, dstAt, Region.binds] at hk; go_simp; exact hK _ H
          · clear ho; simp [know, dstAt, Region.binds] at hk; go_simp; exact hK _ H
          · clear ho; simp [know, dstAt, Region.binds] at hk; go_simp; exact hK _ H
          · clear ho; simp [know, dstAt, Region.binds] at hk
            first | (refine op_loadT (v := .slice (some b) h.row.length cap) rfl hk (by kernel_rfl) H 0 rfl rfl ?_; exact hK _ H) | (refine op_loadT (v := .int .i64 h.upto) rfl hk (by kernel_rfl) H 0 rfl rfl ?_; exact hK _ H) | (refine op_load1T rfl hk (by kernel_rfl) ((H.ext 1 rfl).cell HcN.out) ?_; exact hK _ H) | (refine op_load1T rfl hk (by kernel_rfl) ((H.ext 1 rfl).cell HcD.out) ?_; exact hK _ H) | (refine op_load1T rfl hk (by kernel_rfl) ((H.ext 1 rfl).cell HcO.out) ?_; exact hK _ H)
          · clear ho; simp [know, dstAt, Region.binds] at hk; go_simp; exact hK _ H
          · have o1 := ho 1 (by kernel_rfl); clear ho; simp [know, dstAt, Region.binds] at hk o1; go_simp; exact hK _ H
          · clear ho; simp [know, dstAt, Region.binds] at hk
            first | (refine op_loadT (v := .slice (some b) h.row.length cap) rfl hk.1 (by kernel_rfl) H 0 rfl rfl ?_; exact hK _ H) | (refine op_loadT (v := .int .i64 h.upto) rfl hk.1 (by kernel_rfl) H 0 rfl rfl ?_; exact hK _ H) | (refine op_load1T rfl hk.1 (by kernel_rfl) ((H.ext 1 rfl).cell HcN.out) ?_; exact hK _ H) | (refine op_load1T rfl hk.1 (by kernel_rfl) ((H.ext 1 rfl).cell HcD.out) ?_; exact hK _ H) | (refine op_load1T rfl hk.1 (by kernel_rfl) ((H.ext 1 rfl).cell HcO.out) ?_; exact hK _ H)
          · have o3 := ho 3 (by kernel_rfl); clear ho; simp [know, dstAt, Region.binds] at hk o3; go_simp; exact hK _ H
          · clear ho; simp [know, dstAt, Region.binds] at hk; go_simp; exact hK _ H
          · clear ho; simp [know, dstAt, Region.binds] at hk; go_simp; exact hK _ H
          · clear ho; simp [know, dstAt, Region.binds] at hk; go_simp; exact hK _ H
          · clear ho; simp [know, dstAt, Region.binds] at hk; go_simp; exact hK _ H
          · clear ho; simp [know, dstAt, Region.binds] at hk
            first | (refine op_loadT (v := .slice (some b) h.row.length cap) rfl hk.1 (by kernel_rfl) H 0 rfl rfl ?_; exact hK _ H) | (refine op_loadT (v := .int .i64 h.upto) rfl hk.1 (by kernel_rfl) H 0 rfl rfl ?_; exact hK _ H) | (refine op_load1T rfl hk.1 (by kernel_rfl) ((H.ext 1 rfl).cell HcN.out) ?_; exact hK _ H) | (refine op_load1T rfl hk.1 (by kernel_rfl) ((H.ext 1 rfl).cell HcD.out) ?_; exact hK _ H) | (refine op_load1T rfl hk.1 (by kernel_rfl) ((H.ext 1 rfl).cell HcO.out) ?_; exact hK _ H)
          · have o1 := ho 1 (by kernel_rfl); clear ho; simp [know, dstAt, Region.binds] at hk o1; go_simp; exact hK _ H
          · clear ho; simp [know, dstAt, Region.binds] at hk
            first | (refine op_loadT (v := .slice (some b) h.row.length cap) rfl hk.1 (by kernel_rfl) H 0 rfl rfl ?_; exact hK _ H) | (refine op_loadT (v := .int .i64 h.upto) rfl hk.1 (by kernel_rfl) H 0 rfl rfl ?_; exact hK _ H) | (refine op_load1T rfl hk.1 (by kernel_rfl) ((H.ext 1 rfl).cell HcN.out) ?_; exact hK _ H) | (refine op_load1T rfl hk.1 (by kernel_rfl) ((H.ext 1 rfl).cell HcD.out) ?_; exact hK _ H) | (refine op_load1T rfl hk.1 (by kernel_rfl) ((H.ext 1 rfl).cell HcO.out) ?_; exact hK _ H)
          · have o3 := ho 3 (by kernel_rfl); clear ho; simp [know, dstAt, Region.binds] at hk o3; go_simp; exact hK _ H
          · clear ho; simp [know, dstAt, Region.binds] at hk; go_simp; exact hK _ H
          · clear ho; simp [know, dstAt, Region.binds] at hk; go_simp; exact hK _ H
          · clear ho; simp [know, dstAt, Region.binds] at hk
            first | (refine op_loadT (v := .slice (some b) h.row.length cap) rfl hk.1 (by kernel_rfl) H 0 rfl rfl ?_; exact hK _ H) | (refine op_loadT (v := .int .i64 h.upto) rfl hk.1 (by kernel_rfl) H 0 rfl rfl ?_; exact hK _ H) | (refine op_load1T rfl hk.1 (by kernel_rfl) ((H.ext 1 rfl).cell HcN.out) ?_; exact hK _ H) | (refine op_load1T rfl hk.1 (by kernel_rfl) ((H.ext 1 rfl).cell HcD.out) ?_; exact hK _ H) | (refine op_load1T rfl hk.1 (by kernel_rfl) ((H.ext 1 rfl).cell HcO.out) ?_; exact hK _ H)
          · clear ho; simp [know, dstAt, Region.binds] at hk; go_simp; exact hK _ H
          · clear ho; simp [know, dstAt, Region.binds] at hk; go_simp; exact hK _ H
          · clear ho; simp [know, dstAt, Region.binds] at hk; go_simp; exact hK _ H
          · have o1 := ho 1 (by kernel_rfl); clear ho; simp [know, dstAt, Region.binds] at hk o1; go_simp; exact hK _ H
          · clear ho; simp [know, dstAt, Region.binds] at hk
            first | (refine op_loadT (v := .slice (some b) h.row.length cap) rfl hk.1 (by kernel_rfl) H 0 rfl rfl ?_; exact hK _ H) | (refine op_loadT (v := .int .i64 h.upto) rfl hk.1 (by kernel_rfl) H 0 rfl rfl ?_; exact hK _ H) | (refine op_load1T rfl hk.1 (by kernel_rfl) ((H.ext 1 rfl).cell HcN.out) ?_; exact hK _ H) | (refine op_load1T rfl hk.1 (by kernel_rfl) ((H.ext 1 rfl).cell HcD.out) ?_; exact hK _ H) | (refine op_load1T rfl hk.1 (by kernel_rfl) ((H.ext 1 rfl).cell HcO.out) ?_; exact hK _ H)
          · have o3 := ho 3 (by kernel_rfl); clear ho; simp [know, dstAt, Region.binds] at hk o3; go_simp; exact hK _ H
          · clear ho; simp [know, dstAt, Region.binds] at hk; go_simp; exact hK _ H
          · clear ho; simp [know, dstAt, Region.binds] at hk; go_simp; exact hK _ H
          · clear ho; simp [know, dstAt, Region.binds] at hk
            first | (refine op_loadT (v := .slice (some b) h.row.length cap) rfl hk.1 (by kernel_rfl) H 0 rfl rfl ?_; exact hK _ H) | (refine op_loadT (v := .int .i64 h.upto) rfl hk.1 (by kernel_rfl) H 0 rfl rfl ?_; exact hK _ H) | (refine op_load1T rfl hk.1 (by kernel_rfl) ((H.ext 1 rfl).cell HcN.out) ?_; exact hK _ H) | (refine op_load1T rfl hk.1 (by kernel_rfl) ((H.ext 1 rfl).cell HcD.out) ?_; exact hK _ H) | (refine op_load1T rfl hk.1 (by kernel_rfl) ((H.ext 1 rfl).cell HcO.out) ?_; exact hK _ H)
          · have o1 := ho 1 (by kernel_rfl); clear ho; simp [know, dstAt, Region.binds] at hk o1; go_simp; exact hK _ H
          · clear ho; simp [know, dstAt, Region.binds] at hk; go_simp; exact hK _ H
          · clear ho; simp [know, dstAt, Region.binds] at hk
            first | (refine op_loadT (v := .slice (some b) h.row.length cap) rfl hk.1 (by kernel_rfl) H 0 rfl rfl ?_; exact hK _ H) | (refine op_loadT (v := .int .i64 h.upto) rfl hk.1 (by kernel_rfl) H 0 rfl rfl ?_; exact hK _ H) | (refine op_load1T rfl hk.1 (by kernel_rfl) ((H.ext 1 rfl).cell HcN.out) ?_; exact hK _ H) | (refine op_load1T rfl hk.1 (by kernel_rfl) ((H.ext 1 rfl).cell HcD.out) ?_; exact hK _ H) | (refine op_load1T rfl hk.1 (by kernel_rfl) ((H.ext 1 rfl).cell HcO.out) ?_; exact hK _ H)
          · clear ho; simp [know, dstAt, Region.binds] at hk; go_simp; exact hK _ H
          · clear ho; simp [know, dstAt, Region.binds] at hk; go_simp; exact hK _ H
        case ins =>
          iterate 36 (refine ⟨ins_pl rfl (fun _ _ _ => rfl), ?_⟩)
          exact trivial
        case jns =>
          iterate 36 (refine ⟨j_pl (fun _ _ _ => rfl), ?_⟩)
          exact trivial
        case fin =>
          intro E val w5 hE H
          clear HF hE
          have HF := H
          clear H
          simp [putAll, Act.put]
          go_wp2_with fail
          go_roundw
          case rel => exact ⟨k + 1, by omega, rfl, HF⟩
          case measure => simp [intOf]; omega
    · have g1x : ¬ (k : Int) < h.row.length := by omega
      go_wp2_with (first | ((with_reducible refine k_load ?_); refine st_load rfl _ _ rfl _ _ rfl ?_ HF 0 rfl rfl ?_; (kernel_rfl); (intro K hK; go_simp)))
      obtain ⟨ae, ne, ce, rfl⟩ := hor.out
      obtain ⟨⟨al, cl, hvl, -⟩, -⟩ := Hv.out.l
      subst hvl
      have hu : trimU h.upto = h.upto := by have := Hp.out.may.u0; unfold trimU; split <;> omega
      have HU := Lib.hid hu
      clear hu
      apply wp_region_eff [5] (fun i => (#[[], [], [], [], [], [], [5], [5]] : Array (List Nat)).getD i []) (fun val i => ((_ :: _ :: _ :: _ :: _ :: val 5 :: _ :: _ :: []) : List Value).toArray.getD i undef) (fun E val => At W ((if E 5 = true then TrR h.upto (val 5) else emp) :: Blk g1 (.cells #[.int .i64 h.sn, .int .i64 h.sc, vd, .int .i64 h.upto, .slice ae ne ce, .slice al h.lasts.length cl, .slice ad h.row.length cap] 44 (0, 0)) :: Arg W :: [])) (by kernel_rfl) (by kernel_rfl) (by kernel_rfl) (by kernel_rfl) (HF.addEmp)
      case step =>
        iterate 5 (refine ⟨eff_pl rfl (fun _ => by rfl) fun E val hn T ds w K H hk ho hK => ?_, ?_⟩; rotate_left)
        refine ⟨eff_mk rfl (fun _ => by rfl) fun E val hE0 hcl hn T ds w K H hk ho hK => ?_, ?_⟩; rotate_left
        iterate 2 (refine ⟨eff_pl rfl (fun _ => by rfl) fun E val hn T ds w K H hk ho hK => ?_, ?_⟩; rotate_left)
        exact trivial
        · have o1 := ho 1 (by kernel_rfl); clear ho; simp [know, dstAt, Region.binds] at hk o1; go_simp; exact hK _ H
        · clear ho; simp [know, dstAt, Region.binds] at hk
          (refine op_loadsT (T := 36) (n := 3) rfl hk a36 s36 H 1 rfl rfl rfl ?_; exact hK _ H)
        · have o1 := ho 1 (by kernel_rfl); clear ho; simp [know, dstAt, Region.binds] at hk o1; go_simp; exact hK _ H
        · clear ho; simp [know, dstAt, Region.binds] at hk; go_simp; exact hK _ H
        · clear ho; simp [know, dstAt, Region.binds] at hk
          (refine op_loadT (v := .int .i64 h.upto) rfl hk (by kernel_rfl) H 1 rfl rfl ?_; exact hK _ H)
        · clear ho; simp [know, dstAt, Region.binds] at hk
          (simp only [hE0, Bool.false_eq_true, if_false] at H); go_simp; refine (trim h.upto H.drop).mono ?_; rintro e w' ⟨ad5, cap5, rfl, H⟩; rw [HU.out]; refine hK _ _ ?_; have t5 : updE E 5 5 = true := rfl; simp only [t5, if_true]; exact H.imp fun _ hh => ⟨rfl, hh⟩
        · clear ho; simp [know, dstAt, Region.binds] at hk
          (have e5 := hn 5 (by decide); simp only [e5, if_true] at H; obtain ⟨hv5, HT⟩ := At.and (H.pick 0 rfl); have hh := hold_at HT; have p1 := hk.1; have p2 := hk.2.trans hv5; clear hk hv5; go_simp; refine (sameK (u := h.upto) (es := trimE h.upto) (ls := []) (by have := (Hv.out.ext (H.ext 2 rfl)).e; rwa [Hp.out.e, ← Hp.out.up] at this) (by have := (Hv.out.ext (H.ext 2 rfl)).l; rw [Hp.out.l] at this ⊢; exact this) ⟨hh, fun r hr => (Hp.out.ok.ents r (by rw [Hp.out.e, ← Hp.out.up]; exact hr)).len⟩ nil_recs (fun r hr => Hp.out.ok.ents r (by rw [Hp.out.e, ← Hp.out.up]; exact hr)) (fun r hr => absurd hr List.not_mem_nil) (by unfold trimE; split <;> simp) (by decide) H).mono ?_; rintro e w' ⟨rfl, H⟩; exact hK _ (by simp only [e5, if_true]; exact H))
        · clear ho; simp [know, dstAt, Region.binds] at hk
          first | (have e5 := hn 5 (by decide); simp only [e5, if_true] at H; obtain ⟨hv5, HT⟩ := At.and (H.pick 0 rfl); have hh := hold_at HT; have p1 := hk.1; have p2 := hk.2.trans hv5; clear hk hv5; go_simp; refine (sameK (u := h.upto) (es := trimE h.upto) (ls := []) (by have := (Hv.out.ext (H.ext 2 rfl)).e; rwa [Hp.out.e, ← Hp.out.up] at this) (by have := (Hv.out.ext (H.ext 2 rfl)).l; rw [Hp.out.l] at this ⊢; exact this) ⟨hh, fun r hr => (Hp.out.ok.ents r (by rw [Hp.out.e, ← Hp.out.up]; exact hr)).len⟩ nil_recs (fun r hr => Hp.out.ok.ents r (by rw [Hp.out.e, ← Hp.out.up]; exact hr)) (fun r hr => absurd hr List.not_mem_nil) (by unfold trimE; split <;> simp) (by decide) H).mono ?_; rintro e w' ⟨rfl, H⟩; exact hK _ (by simp only [e5, if_true]; exact H)) | (go_simp; exact hK _ H)
      case ins =>
        iterate 5 (refine ⟨ins_pl rfl (fun _ _ _ => rfl), ?_⟩)
        refine ⟨ins_mk rfl (fun _ => rfl), ?_⟩
        iterate 2 (refine ⟨ins_pl rfl (fun val val' h => by first | rfl | ((have h5 := h 5 (by decide)); first | (simp only [h5]; done) | (simp only [h5]; rfl))), ?_⟩)
        exact trivial
      case jns =>
        iterate 5 (refine ⟨j_pl (fun _ _ _ => rfl), ?_⟩)
        refine ⟨j_mk rfl, ?_⟩
        iterate 2 (refine ⟨j_pl (fun _ _ _ => rfl), ?_⟩)
        exact trivial
      case fin =>
        intro E val w6 hE H
        have e5 := hE 5 (by decide)
        simp only [e5, if_true] at H
        clear hE e5 HF
        simp [putAll, Act.put]
        go_wp2_with fail
        go_ret
        exact ⟨rfl, (H.sel 3 [2]).lift0 H0.out⟩
end
end Md
end Go.Proofs.Ytjobojgmadjmfaa
end MgMdEnB
section MgMdEnS
namespace Go.Proofs.Ytjobojgmadjmfaa
open Go.Hp Go.RowKit
set_option linter.unusedVariables false
set_option linter.unusedSimpArgs false
namespace Md

theorem find_ins_ne {p : Pl} {n : Int} (hn : p.n ≠ n) : ∀ l : List Pl, (ins p l).find? (fun q => q.n == n && q.dec) = l.find? (fun q => q.n == n && q.dec)
  | [] => by simp [ins, hn]
  | x :: r => by
    unfold ins
    split
    · split
      · rename_i h2
        have hx : x.n ≠ n := by omega
        simp [List.find?_cons, hn, hx]
      · simp [List.find?_cons, hn]
    · have ih := find_ins_ne hn r
      simp only [List.find?_cons, ih]

theorem find_ins_eq {p : Pl} (hd : p.dec = true) : ∀ l : List Pl, (ins p l).find? (fun q => q.n == p.n && q.dec) = some p
  | [] => by simp [ins, hd]
  | x :: r => by
    unfold ins
    split
    · split <;> simp [List.find?_cons, hd]
    · have hx : x.n ≠ p.n := by omega
      have ih := find_ins_eq hd r
      simp [List.find?_cons, hx, ih]

theorem laid_row {h : Hd} {c : Lc} (hm : May h) (hk : c.kk = 3) : laidS h c = { h with row := ins c.pl h.row } := by
  unfold laidS
  rw [if_neg (by omega), if_neg (by omega), laidRow_inst hm.lo]

theorem dec_laid_ne {h : Hd} {c : Lc} (hm : May h) (hk : c.kk = 3) {n : Int} (hn : n ≠ c.kb) : decS (laidS h c) n = decS h n := by
  rw [laid_row hm hk]
  unfold decS
  rw [find_ins_ne (p := c.pl) (n := n) (fun e => hn e.symm)]

theorem dec_laid_eq {h : Hd} {c : Lc} (hm : May h) (hk : c.kk = 3) (hd : c.dec = true) : decS (laidS h c) c.kb = some c.cmd.cells := by
  rw [laid_row hm hk]
  unfold decS
  have := find_ins_eq (p := c.pl) hd h.row
  have e : c.pl.n = c.kb := rfl
  rw [e] at this
  rw [this]
  rfl

theorem knows_laid {h : Hd} {c : Lc} (hm : May h) (hk : c.kk = 3) (hn : decS h c.kb = none) {i : Int} (hi : knowsS h i = true) : knowsS (laidS h c) i = true := by
  unfold knowsS at hi ⊢
  have hu : (laidS h c).upto = h.upto := upto_inst (by omega)
  rw [hu]
  by_cases h1 : i ≤ h.upto
  · simp [h1]
  · have h2 : (decS h i).isSome = true := by simpa [h1] using hi
    have h3 : i ≠ c.kb := by rintro rfl; rw [hn] at h2; cases h2
    rw [dec_laid_ne hm hk h3, h2]
    simp

/-- Is what is to be laid down new? -/
def LayNew : Hd → List Lc → Prop
  | _, [] => True
  | h, c :: r => (c.kk = 3 → decS h c.kb = none) ∧ LayNew (laidS h c) r

theorem lay_may : ∀ {l : List Lc} {h : Hd}, May h → LayAll h l → May (layS h l)
  | [], _, hm, _ => hm
  | c :: l, h, hm, hl => lay_may (l := l) (h := laidS h c) (laid_may hm hl.1.1 hl.1.2) hl.2

/-- What a row of new instances brings. -/
structure LayI (h : Hd) (l : List Lc) : Prop where
  new : LayNew h l
  mono : ∀ i, knowsS h i = true → knowsS (layS h l) i = true
  got : ∀ c ∈ l, c.dec = true → knowsS (layS h l) c.kb = true
  sn : (layS h l).sn = h.sn
  sc : (layS h l).sc = h.sc
  data : (layS h l).data = h.data
  upto : (layS h l).upto = h.upto

theorem lay_new : ∀ (l : List Lc) (h : Hd), May h → LayAll h l → (∀ c ∈ l, c.kk = 3 ∧ decS h c.kb = none) → l.Pairwise (fun a b => a.kb < b.kb) → LayI h l
  | [], h, _, _, _, _ => ⟨trivial, fun _ h => h, fun c hc => absurd hc List.not_mem_nil, rfl, rfl, rfl, rfl⟩
  | c :: l, h, hm, hl, hc, hp => by
    obtain ⟨k3, hn⟩ := hc c (by simp)
    obtain ⟨p1, p2⟩ := List.pairwise_cons.1 hp
    have hm2 := laid_may hm hl.1.1 hl.1.2
    have ih := lay_new l (laidS h c) hm2 hl.2 (fun x hx => ⟨(hc x (by simp [hx])).1, by
      have := p1 x hx
      rw [dec_laid_ne hm k3 (by omega)]
      exact (hc x (by simp [hx])).2⟩) p2
    have hr := laid_row hm k3
    refine ⟨⟨fun _ => hn, ih.new⟩, fun i hi => ih.mono i (knows_laid hm k3 hn hi), fun x hx hd => ?_, ?_, ?_, ?_, ?_⟩
    · rcases List.mem_cons.1 hx with rfl | hx
      · refine ih.mono _ ?_
        unfold knowsS
        rw [dec_laid_eq hm k3 hd]
        simp
      · exact ih.got x hx hd
    · show (layS (laidS h c) l).sn = _
      rw [ih.sn, hr]
    · show (layS (laidS h c) l).sc = _
      rw [ih.sc, hr]
    · show (layS (laidS h c) l).data = _
      rw [ih.data, hr]
    · show (layS (laidS h c) l).upto = _
      rw [ih.upto, hr]

theorem news_mem {m : Mg} {h : Hd} {c : Cg} : ∀ {k : Nat}, c ∈ newsS m h k ↔ ∃ (j : Nat) (x : List Value), j < k ∧ m.cmds[j]? = some x ∧ brings m h j x = true ∧ c = chN m.ka (m.sn + j) (cmOf x)
  | 0 => by simp [newsS]
  | k + 1 => by
    rw [newsS, List.mem_append, news_mem (k := k)]
    constructor
    · rintro (⟨j, x, h1, h2, h3, h4⟩ | hc)
      · exact ⟨j, x, by omega, h2, h3, h4⟩
      · revert hc
        cases hk : m.cmds[k]? with
        | none => intro hc; cases hc
        | some x =>
          dsimp only
          split
          · rename_i hb
            intro hc
            exact ⟨k, x, by omega, hk, hb, List.mem_singleton.1 hc⟩
          · intro hc; cases hc
    · rintro ⟨j, x, h1, h2, h3, h4⟩
      by_cases hj : j = k
      · subst hj
        right
        rw [h2]
        dsimp only
        rw [if_pos h3]
        exact List.mem_singleton.2 h4
      · exact .inl ⟨j, x, by omega, h2, h3, h4⟩

theorem news_pw {m : Mg} {h : Hd} : ∀ k : Nat, (newsS m h k).Pairwise (fun a b => a.kb < b.kb)
  | 0 => List.Pairwise.nil
  | k + 1 => by
    rw [newsS, List.pairwise_append]
    refine ⟨news_pw k, ?_, fun a ha b hb => ?_⟩
    · cases m.cmds[k]? with
      | none => exact List.Pairwise.nil
      | some x =>
        dsimp only
        split
        · exact List.pairwise_singleton _ _
        · exact List.Pairwise.nil
    · obtain ⟨j, x, h1, h2, h3, rfl⟩ := news_mem.1 ha
      revert hb
      cases m.cmds[k]? with
      | none => intro hb; cases hb
      | some y =>
        dsimp only
        split
        · intro hb
          obtain rfl := List.mem_singleton.1 hb
          show m.sn + (j : Int) < m.sn + (k : Int)
          omega
        · intro hb; cases hb

theorem news_layI {m : Mg} {h : Hd} (hm : May h) (hf : ∀ r ∈ m.cmds, Fits cmdK r) (k : Nat) : LayAll h ((newsS m h k).map lcOf) ∧ LayI h ((newsS m h k).map lcOf) := by
  have hl : LayAll h ((newsS m h k).map lcOf) := lay_insts _ _ fun c hc => by
    obtain ⟨x, hx, rfl⟩ := List.mem_map.1 hc
    exact ⟨newsS_kk m h _ x hx, news_lay hf _ x hx⟩
  refine ⟨hl, lay_new _ h hm hl (fun c hc => ?_) ?_⟩
  · obtain ⟨x, hx, rfl⟩ := List.mem_map.1 hc
    obtain ⟨j, y, h1, h2, h3, rfl⟩ := news_mem.1 hx
    refine ⟨rfl, ?_⟩
    simp only [brings, Bool.not_eq_true', Bool.or_eq_false_iff] at h3
    have h3 := h3.1
    show decS h (m.sn + (j : Int)) = none
    cases hd : decS h (m.sn + (j : Int)) with
    | none => rfl
    | some y => rw [hd] at h3; cases h3
  · exact List.pairwise_map.2 ((news_pw k).imp fun h => h)

theorem edge_mono {h h' : Hd} (hm : May h) (hm' : May h') (hk : ∀ i, knowsS h i = true → knowsS h' i = true) : edgeS h ≤ edgeS h' := by
  rcases Int.lt_or_le (edgeS h') (edgeS h) with hlt | hle
  · have h1 := hk _ (edge_knows hm (i := edgeS h' + 1) (by omega))
    rw [edge_not hm'] at h1
    cases h1
  · exact hle

theorem less_irr (a b : Int) : lessS a b a b = false := by simp [lessS]
theorem less_asym {a b c d : Int} (h : lessS a b c d = true) : lessS c d a b = false := by
  simp only [lessS, Bool.or_eq_true, decide_eq_true_eq, Bool.and_eq_true, beq_iff_eq] at h
  simp only [lessS, Bool.or_eq_false_iff, decide_eq_false_iff_not, Bool.and_eq_false_imp, beq_iff_eq]
  refine ⟨by omega, fun _ => by omega⟩

/-- A trimmed bucket, laid down over what is lower. -/
theorem knows_buck {h : Hd} {c : Lc} (hm : May h) (hk : c.kk = 2) (hu : edgeS h < c.upto) {i : Int} (hi : knowsS h i = true) : knowsS (laidS h c) i = true := by
  have hb := edge_bound hm
  have e : laidS h c = { h with upto := c.upto, ents := c.ents, lasts := c.lasts, row := h.row.filter (fun x => decide (c.upto < x.n)) } := by
    unfold laidS
    rw [if_neg (by omega), if_pos hk, laidRow_bucket]
  rw [e]
  unfold knowsS at hi ⊢
  dsimp only
  by_cases h1 : i ≤ c.upto
  · simp [h1]
  · have h2 : (decS h i).isSome = true := by
      have : ¬ i ≤ h.upto := by omega
      simpa [this] using hi
    have h3 : decS { h with upto := c.upto, ents := c.ents, lasts := c.lasts, row := h.row.filter (fun x => decide (c.upto < x.n)) } i = decS h i := by
      unfold decS
      dsimp only
      rw [List.find?_filter]
      congr 2
      funext q
      by_cases hq : q.n = i
      · have : c.upto < q.n := by omega
        simp only [this, true_and, decide_true, Bool.true_and, Bool.decide_eq_true]
      · simp [hq]
    rw [h3, h2]
    simp

/-- What a Take brings is new and lowers nothing. -/
structure TakeUp (a : Hd) (l : List Lc) : Prop where
  new : LayNew a l
  block : lessS (layS a l).sn (layS a l).sc a.sn a.sc = false
  edge : edgeS a ≤ edgeS (layS a l)

theorem take_up {M : Mg} {a : Hd} (hm : May a) (hf : ∀ r ∈ M.cmds, Fits cmdK r) : TakeUp a ((takeS M a).1.map lcOf) := by
  have h0 : TakeUp a (([] : List Cg).map lcOf) := ⟨trivial, less_irr _ _, Int.le_refl _⟩
  have hN : TakeUp a ((newsS M a M.cmds.length).map lcOf) := by
    obtain ⟨h1, h2⟩ := news_layI hm hf M.cmds.length
    exact ⟨h2.new, by rw [h2.sn, h2.sc]; exact less_irr _ _, edge_mono hm (lay_may hm h1) h2.mono⟩
  have hl := take_lay hm hf (m := M)
  revert hl
  unfold takeS
  split
  · intro _; exact h0
  · split
    · rename_i hk
      split
      · rename_i hless
        intro _
        have k1 : (lcOf (chB M)).kk = 1 := hk
        have e : layS a ([chB M].map lcOf) = { a with sn := M.sn, sc := M.sc, data := M.blk } := by
          show laidS a (lcOf (chB M)) = _
          unfold laidS
          rw [if_pos k1]
          rfl
        refine ⟨⟨fun e3 => by omega, trivial⟩, ?_, ?_⟩
        · rw [e]; exact less_asym hless
        · rw [e]; exact Int.le_refl _
      · intro _; exact h0
    · split
      · rename_i hk
        have hK : edgeS a < M.upto → LayAll a ([chK M].map lcOf) → TakeUp a ([chK M].map lcOf) := fun he hl => by
          have k2 : (lcOf (chK M)).kk = 2 := hk
          refine ⟨⟨fun e3 => by omega, trivial⟩, ?_, ?_⟩
          · have e : (laidS a (lcOf (chK M))).sn = a.sn ∧ (laidS a (lcOf (chK M))).sc = a.sc := by
              unfold laidS
              rw [if_neg (by omega), if_pos k2]
              exact ⟨rfl, rfl⟩
            show lessS (laidS a (lcOf (chK M))).sn (laidS a (lcOf (chK M))).sc a.sn a.sc = false
            rw [e.1, e.2]
            exact less_irr _ _
          · exact edge_mono hm (lay_may hm hl) fun i hi => knows_buck hm k2 he hi
        unfold takeBS
        split
        · intro _; exact h0
        · split
          · dsimp only
            split
            · intro _; exact hN
            · split
              · rename_i he
                exact hK he
              · intro _; exact h0
          · dsimp only
            split
            · intro _; exact hN
            · split
              · rename_i he
                exact hK he
              · intro _; exact h0
      · intro _; exact h0

/-- A mend from its Ask on, so many rounds at most: what the one who asked holds then, the rounds, whether it ended. -/
def rowS : Nat → Mg → Hd → Hd → Hd × Nat × Bool
  | 0, _, a, _ => (a, 300, false)
  | f + 1, A, a, b =>
    if (takeS (haveS A b) a).2.2 = true then rowS f (takeS (haveS A b) a).2.1 (layS a ((takeS (haveS A b) a).1.map lcOf)) b
    else (layS a ((takeS (haveS A b) a).1.map lcOf), 299 - f, true)

/-- One more record, where what is held was made so. -/
theorem plain_lay {u top : Int} {h : Hd} (hp : PlainH u top h) {c : Lc} (hk : c.kk = 3) (h1 : u < c.kb) (h2 : c.kb ≤ top) (h3 : top ≤ 1048576) (hc : c.cmd = cmL c.kb) : PlainH u top (laidS h c) := by
  have hu := hp.up
  have hu0 := hp.may.u0
  have e := laid_row hp.may hk
  have hm : May (laidS h c) := laid_may hp.may (fun e => by omega) (fun _ _ => ⟨by omega, by omega, fun _ hz => by
    rw [hc] at hz
    simp [cmL, Cm.cells, zc] at hz⟩)
  rw [e] at hm ⊢
  refine ⟨hm, ⟨hp.ok.sn, hp.ok.sc, hp.ok.upto, hp.ok.ents, hp.ok.lasts, fun p hq => ?_⟩, hp.up, hp.e, hp.l, fun p hq => ?_⟩
  · rcases ins_mem hq with rfl | hq
    · exact ⟨in_of (by show -1099511627776 ≤ c.kb; omega) (by show c.kb ≤ _; omega), ⟨⟨_, rfl⟩, ⟨_, rfl⟩, ⟨_, rfl⟩, ⟨_, rfl⟩, trivial⟩, c.cmd.fits⟩
    · exact hp.ok.row p hq
  · rcases ins_mem hq with rfl | hq
    · exact ⟨fun _ => by show c.cmd.cells = _; rw [hc]; rfl, h2⟩
    · exact hp.r p hq

theorem plain_lays {u top : Int} (h3 : top ≤ 1048576) : ∀ {l : List Lc} {h : Hd}, PlainH u top h → (∀ c ∈ l, c.kk = 3 ∧ u < c.kb ∧ c.kb ≤ top ∧ c.cmd = cmL c.kb) → PlainH u top (layS h l)
  | [], _, hp, _ => hp
  | c :: l, h, hp, hc => by
    obtain ⟨q1, q2, q3, q4⟩ := hc c (by simp)
    exact plain_lays (l := l) (h := laidS h c) h3 (plain_lay hp q1 q2 q3 h3 q4) fun x hx => hc x (by simp [hx])

theorem dec_plain {u top : Int} {h : Hd} (hp : PlainH u top h) {i : Int} {c : List Value} (hd : decS h i = some c) : c = (cmL i).cells ∧ u < i ∧ i ≤ top := by
  unfold decS at hd
  rw [Option.map_eq_some_iff] at hd
  obtain ⟨p, hf, rfl⟩ := hd
  have hm := List.mem_of_find?_eq_some hf
  have hq := List.find?_some hf
  simp only [Bool.and_eq_true, beq_iff_eq] at hq
  obtain ⟨rfl, hq2⟩ := hq
  have := hp.may.lo p hm
  rw [hp.up] at this
  exact ⟨(hp.r p hm).1 hq2, this, (hp.r p hm).2⟩

theorem dec_top {h : Hd} (hm : May h) {i : Int} (hd : (decS h i).isSome = true) : i ≤ topS h := by
  unfold decS at hd
  rw [Option.isSome_map] at hd
  obtain ⟨p, hf⟩ := Option.isSome_iff_exists.1 hd
  have hmem := List.mem_of_find?_eq_some hf
  have hq := List.find?_some hf
  simp only [Bool.and_eq_true, beq_iff_eq] at hq
  obtain ⟨rfl, hq2⟩ := hq
  unfold topS
  cases hr : h.row.reverse.find? (·.dec) with
  | none =>
    rw [List.find?_eq_none] at hr
    exact absurd hq2 (hr p (List.mem_reverse.2 hmem))
  | some q =>
    dsimp only
    rw [List.find?_eq_some_iff_getElem] at hr
    obtain ⟨hqd, k, hk, hkq, hbefore⟩ := hr
    obtain ⟨j, hj⟩ := List.getElem?_of_mem hmem
    obtain ⟨hjl, hjp⟩ := List.getElem?_eq_some_iff.1 hj
    rw [List.length_reverse] at hk
    have hkq2 : h.row[h.row.length - 1 - k]? = some q := by
      rw [List.getElem?_eq_getElem (by omega)]
      rw [List.getElem_reverse] at hkq
      rw [hkq]
    rcases Nat.lt_trichotomy j (h.row.length - 1 - k) with h1 | h1 | h1
    · have := hm.rise j _ p q h1 hj hkq2; omega
    · subst h1
      rw [hj] at hkq2
      cases hkq2
      exact Int.le_refl _
    · have := hbefore (h.row.length - 1 - j) (by omega)
      rw [List.getElem_reverse] at this
      have e : h.row.length - 1 - (h.row.length - 1 - j) = j := by omega
      simp only [e, hjp, hq2] at this
      simp at this

theorem cmOf_cmL (i : Int) : cmOf (cmL i).cells = cmL i := rfl
theorem zcB_cmL (i : Int) : zcB (cmL i).cells = false := by simp [zcB, Cm.cells, cmL]

/-- The message that asks for instances from s on. -/
structure AskB (A : Mg) (s : Int) : Prop where
  kind : A.kind = 21
  kk : A.kk = 2
  sn : A.sn = s

/-- A round that brings instances. -/
structure RndI (A : Mg) (a b : Hd) (s u T : Int) : Prop where
  more : (takeS (haveS A b) a).2.2 = decide (s + 63 < topS b)
  next : s + 63 < topS b → AskB (takeS (haveS A b) a).2.1 (s + 64)
  plain : PlainH u T (layS a ((takeS (haveS A b) a).1.map lcOf))
  mono : ∀ i, knowsS a i = true → knowsS (layS a ((takeS (haveS A b) a).1.map lcOf)) i = true
  got : ∀ i, s ≤ i → i ≤ s + 63 → (decS b i).isSome = true → knowsS (layS a ((takeS (haveS A b) a).1.map lcOf)) i = true
  sn : (layS a ((takeS (haveS A b) a).1.map lcOf)).sn = a.sn
  sc : (layS a ((takeS (haveS A b) a).1.map lcOf)).sc = a.sc
  data : (layS a ((takeS (haveS A b) a).1.map lcOf)).data = a.data

theorem rnd_inst {A : Mg} {a b : Hd} {s u ub T : Int} (hA : AskB A s) (ha : PlainH u T a) (hb : PlainH ub T b) (hT : T ≤ 1048576) (h1 : ub < s) (h2 : 1 ≤ s) (h3 : s ≤ 1048577) : RndI A a b s u T := by
  have k1 := hA.kind
  have k2 := hA.kk
  have k3 := hA.sn
  have hub := hb.up
  have e : haveS A b = haveB (haveM A) A.sn b := by
    unfold haveS
    rw [if_neg (by simpa using k1), if_neg (by omega), if_pos ⟨k2, by omega, by omega⟩]
  have e2 : haveB (haveM A) A.sn b = { haveM A with sn := s, cmds := cmdsS b s (lastS b s - s + 1).toNat, more := decide (lastS b s < topS b) } := by
    unfold haveB
    rw [if_neg (by omega), k3]
  generalize hM : ({ haveM A with sn := s, cmds := cmdsS b s (lastS b s - s + 1).toNat, more := decide (lastS b s < topS b) } : Mg) = M at e2
  have eM : haveS A b = M := e.trans e2
  have m1 : M.kind = 22 := by rw [← hM]; rfl
  have m2 : M.kk = 2 := by rw [← hM]; exact k2
  have m3 : M.sn = s := by rw [← hM]
  have m4 : M.upto = 0 := by rw [← hM]; rfl
  have m5 : M.cmds = cmdsS b s (lastS b s - s + 1).toNat := by rw [← hM]
  have m6 : M.more = decide (lastS b s < topS b) := by rw [← hM]
  have hls : lastS b s ≤ s + 63 ∧ (lastS b s < topS b ↔ s + 63 < topS b) ∧ (s + 63 < topS b → lastS b s = s + 63) ∧ (¬ s + 63 < topS b → lastS b s = topS b) := by
    unfold lastS
    split
    · refine ⟨by omega, by omega, by omega, by omega⟩
    · refine ⟨by omega, by omega, by omega, by omega⟩
  have hlen : M.cmds.length = (lastS b s - s + 1).toNat := by rw [m5]; simp [cmdsS]
  have hfit : ∀ r ∈ M.cmds, Fits cmdK r := by
    rw [m5]
    intro r hr
    obtain ⟨i, _, rfl⟩ := List.mem_map.1 hr
    exact decC_fits hb.ok _
  have q : takeS M a = takeBS M a := by
    unfold takeS
    rw [if_neg (by simpa using m1), if_neg (by omega), if_pos m2]
  have qb : ¬ (M.upto < 0 ∨ 1048576 < M.upto ∨ (M.upto = 0 ∧ ¬ (1 ≤ M.sn ∧ M.sn ≤ 1048577))) := by omega
  have q1 : (takeS M a).1 = newsS M a M.cmds.length := by
    rw [q]
    unfold takeBS
    rw [if_neg qb]
    split <;> simp [m4]
  have q2 : (takeS M a).2.2 = decide (s + 63 < topS b) := by
    rw [q]
    unfold takeBS
    rw [if_neg qb]
    by_cases hmo : s + 63 < topS b
    · have hlt := hls.2.1.2 hmo
      have hl := hls.2.2.1 hmo
      rw [if_neg (by rw [m6, hlen]; simp [hlt]; omega)]
      simp [hmo]
    · have hlt : ¬ lastS b s < topS b := fun h => hmo (hls.2.1.1 h)
      rw [if_pos (by rw [m6]; simp [hlt])]
      simp [hmo]
  have q3 : s + 63 < topS b → AskB (takeS M a).2.1 (s + 64) := fun hmo => by
    rw [q]
    unfold takeBS
    have hlt := hls.2.1.2 hmo
    have hl := hls.2.2.1 hmo
    rw [if_neg qb, if_neg (by rw [m6, hlen]; simp [hlt]; omega)]
    refine ⟨rfl, m2, ?_⟩
    show (if M.upto = 0 then M.sn + M.cmds.length else M.upto + 1) = s + 64
    rw [if_pos m4, m3, hlen, hl]
    omega
  obtain ⟨hall, hI⟩ := news_layI ha.may hfit M.cmds.length
  have hdec : ∀ (j : Nat) (x : List Value), j < M.cmds.length → M.cmds[j]? = some x → x = decC b (s + j) := fun j x hj hx => by
    rw [m5] at hx hj
    unfold cmdsS at hx hj
    rw [List.length_map, List.length_range] at hj
    rw [List.getElem?_map, List.getElem?_range hj] at hx
    exact (Option.some.inj hx).symm
  refine ⟨?_, ?_, ?_, ?_, ?_, ?_, ?_, ?_⟩ <;> simp only [eM]
  · exact q2
  · exact q3
  · rw [q1]
    refine plain_lays hT ha fun c hc => ?_
    obtain ⟨x, hx, rfl⟩ := List.mem_map.1 hc
    obtain ⟨j, y, j1, j2, j3, rfl⟩ := news_mem.1 hx
    have hy := hdec j y j1 j2
    simp only [brings, Bool.not_eq_true', Bool.or_eq_false_iff, decide_eq_false_iff_not] at j3
    obtain ⟨j4, j5, j6, j7⟩ := j3
    cases hd : decS b (s + j) with
    | none =>
      unfold decC at hy
      rw [hd] at hy
      subst hy
      exact absurd ((zcB_iff cm0).2 rfl) (by rw [show cm0.cells = zc from rfl]; simpa using j5)
    | some z =>
      obtain ⟨d1, d2, d3⟩ := dec_plain hb hd
      unfold decC at hy
      rw [hd] at hy
      have hy : y = z := hy
      subst hy d1
      refine ⟨rfl, ?_, ?_, ?_⟩
      · show u < M.sn + (j : Int)
        have := ha.up
        omega
      · show M.sn + (j : Int) ≤ T
        omega
      · show cmOf (cmL (s + j)).cells = cmL (M.sn + j)
        rw [m3]
        exact cmOf_cmL _
  · rw [q1]; exact hI.mono
  · intro i i1 i2 hi
    rw [q1]
    have hit := dec_top hb.may hi
    obtain ⟨z, hz⟩ := Option.isSome_iff_exists.1 hi
    obtain ⟨d1, d2, d3⟩ := dec_plain hb hz
    have hil : i ≤ lastS b s := by
      by_cases hmo : s + 63 < topS b
      · rw [hls.2.2.1 hmo]; exact i2
      · rw [hls.2.2.2 hmo]; exact hit
    obtain ⟨j, hj⟩ : ∃ j : Nat, i = s + j := ⟨(i - s).toNat, by omega⟩
    have hjl : j < M.cmds.length := by rw [hlen]; omega
    obtain ⟨y, hy⟩ : ∃ y, M.cmds[j]? = some y := ⟨_, List.getElem?_eq_getElem hjl⟩
    have hyd := hdec j y hjl hy
    have hyz : y = (cmL i).cells := by
      rw [hyd, ← hj]
      unfold decC
      rw [hz]
      exact d1
    cases hbr : brings M a j y with
    | true =>
      have := hI.got (lcOf (chN M.ka (M.sn + j) (cmOf y))) (List.mem_map_of_mem (news_mem.2 ⟨j, y, hjl, hy, hbr, rfl⟩)) rfl
      have e3 : (lcOf (chN M.ka (M.sn + j) (cmOf y))).kb = i := by show M.sn + (j : Int) = i; omega
      rwa [e3] at this
    | false =>
      refine hI.mono _ ?_
      simp only [brings, Bool.not_eq_false', Bool.or_eq_true, decide_eq_true_eq] at hbr
      rw [hyz, zcB_cmL, m3, ← hj] at hbr
      unfold knowsS
      rcases hbr with h | h | h | h
      · simp [h]
      · cases h
      · simp [h]
      · omega
  · rw [q1]; exact hI.sn
  · rw [q1]; exact hI.sc
  · rw [q1]; exact hI.data

/-- A mend of instances, to its end. -/
structure RowI (r : Hd × Nat × Bool) (a b : Hd) (n : Nat) (u T : Int) : Prop where
  ok : r.2.2 = true
  n : r.2.1 ≤ n
  plain : PlainH u T r.1
  mono : ∀ i, knowsS a i = true → knowsS r.1 i = true
  got : ∀ i, (decS b i).isSome = true → knowsS r.1 i = true
  sn : r.1.sn = a.sn
  sc : r.1.sc = a.sc
  data : r.1.data = a.data

theorem row_inst {b : Hd} {u ub T : Int} (hb : PlainH ub T b) (hT : T ≤ 1048576) : ∀ (R f : Nat) (A : Mg) (a : Hd) (s : Int), AskB A s → PlainH u T a → ub < s → 1 ≤ s → s ≤ 1048577 → 1 ≤ R → topS b - s < 64 * R → R ≤ f → f ≤ 299 →
    (∀ i, i < s → (decS b i).isSome = true → knowsS a i = true) → RowI (rowS f A a b) a b (300 - f + R - 1) u T
  | 0, _, _, _, _, _, _, _, _, _, hR, _, _, _, _ => by omega
  | R + 1, 0, _, _, _, _, _, _, _, _, _, _, hf, _, _ => by omega
  | R + 1, f + 1, A, a, s, hA, ha, h1, h2, h3, hR, ht, hf, hf2, hk => by
    have r := rnd_inst hA ha hb hT h1 h2 h3
    have htb := top_bound hb.may
    unfold rowS
    by_cases hmo : s + 63 < topS b
    · rw [if_pos (by rw [r.more]; simp [hmo])]
      have ih := row_inst hb hT R f _ _ (s + 64) (r.next hmo) r.plain (by omega) (by omega) (by omega) (by omega) (by omega) (by omega) (by omega) (fun i hi hd => by
        by_cases his : i < s
        · exact r.mono _ (hk i his hd)
        · exact r.got i (by omega) (by omega) hd)
      exact ⟨ih.ok, by have := ih.n; omega, ih.plain, fun i hi => ih.mono i (r.mono i hi), ih.got, ih.sn.trans r.sn, ih.sc.trans r.sc, ih.data.trans r.data⟩
    · rw [if_neg (by rw [r.more]; simp [hmo])]
      exact ⟨rfl, by show 299 - f ≤ _; omega, r.plain, r.mono, fun i hd => by
        have := dec_top hb.may hd
        by_cases his : i < s
        · exact r.mono _ (hk i his hd)
        · exact r.got i (by omega) (by omega) hd, r.sn, r.sc, r.data⟩

/-- A round that brings the trimmed bucket. -/
structure RndB (A : Mg) (a b : Hd) (ub T : Int) : Prop where
  more : (takeS (haveS A b) a).2.2 = decide (ub < topS b)
  next : ub < topS b → AskB (takeS (haveS A b) a).2.1 (ub + 1)
  plain : PlainH ub T (layS a ((takeS (haveS A b) a).1.map lcOf))
  mono : ∀ i, knowsS a i = true → knowsS (layS a ((takeS (haveS A b) a).1.map lcOf)) i = true
  sn : (layS a ((takeS (haveS A b) a).1.map lcOf)).sn = a.sn
  sc : (layS a ((takeS (haveS A b) a).1.map lcOf)).sc = a.sc
  data : (layS a ((takeS (haveS A b) a).1.map lcOf)).data = a.data

theorem rnd_buck {A : Mg} {a b : Hd} {u ub T : Int} (hA : AskB A (edgeS a + 1)) (ha : PlainH u T a) (hb : PlainH ub T b) (h1 : edgeS a + 1 ≤ ub) : RndB A a b ub T := by
  have k1 := hA.kind
  have k2 := hA.kk
  have k3 := hA.sn
  have hub := hb.up
  have he := edge_bound ha.may
  have hu0 := ha.may.u0
  have hb1 := hb.may.u1
  have e : haveS A b = haveB (haveM A) A.sn b := by
    unfold haveS
    rw [if_neg (by simpa using k1), if_neg (by omega), if_pos ⟨k2, by omega, by omega⟩]
  have e2 : haveB (haveM A) A.sn b = { haveM A with upto := b.upto, ents := b.ents, lasts := b.lasts, more := decide (b.upto < topS b) } := by
    unfold haveB
    rw [if_pos (by omega)]
  generalize hM : ({ haveM A with upto := b.upto, ents := b.ents, lasts := b.lasts, more := decide (b.upto < topS b) } : Mg) = M at e2
  have eM : haveS A b = M := e.trans e2
  have m1 : M.kind = 22 := by rw [← hM]; rfl
  have m2 : M.kk = 2 := by rw [← hM]; exact k2
  have m4 : M.upto = ub := by rw [← hM]; exact hub
  have m5 : M.ents = b.ents := by rw [← hM]
  have m6 : M.more = decide (b.upto < topS b) := by rw [← hM]
  have m7 : M.lasts = b.lasts := by rw [← hM]
  have q : takeS M a = takeBS M a := by
    unfold takeS
    rw [if_neg (by simpa using m1), if_neg (by omega), if_pos m2]
  have qb : ¬ (M.upto < 0 ∨ 1048576 < M.upto ∨ (M.upto = 0 ∧ ¬ (1 ≤ M.sn ∧ M.sn ≤ 1048577))) := by omega
  have q0 : ¬ M.upto = 0 := by omega
  have qe : edgeS a < M.upto := by omega
  have q1 : (takeS M a).1 = [chK M] := by
    rw [q]
    unfold takeBS
    rw [if_neg qb]
    split <;> simp [q0, qe]
  have q2 : (takeS M a).2.2 = decide (ub < topS b) := by
    rw [q]
    unfold takeBS
    rw [if_neg qb]
    by_cases hmo : ub < topS b
    · rw [if_neg (by rw [m6, hub]; simp [hmo, q0])]
      simp [hmo]
    · rw [if_pos (by rw [m6, hub]; simp [hmo])]
      simp [hmo]
  have q3 : ub < topS b → AskB (takeS M a).2.1 (ub + 1) := fun hmo => by
    rw [q]
    unfold takeBS
    rw [if_neg qb, if_neg (by rw [m6, hub]; simp [hmo, q0])]
    refine ⟨rfl, m2, ?_⟩
    show (if M.upto = 0 then M.sn + M.cmds.length else M.upto + 1) = ub + 1
    rw [if_neg q0, m4]
  have kk : (lcOf (chK M)).kk = 2 := m2
  have ek : laidS a (lcOf (chK M)) = { a with upto := M.upto, ents := M.ents, lasts := M.lasts, row := a.row.filter (fun x => decide (M.upto < x.n)) } := by
    unfold laidS
    rw [if_neg (by omega), if_pos kk, laidRow_bucket]
    rfl
  have hm : May (laidS a (lcOf (chK M))) := laid_may ha.may (fun _ => ⟨by show 0 < M.upto; omega, by show M.upto ≤ _; omega⟩) (fun _ e => absurd kk e)
  have hmono : ∀ i, knowsS a i = true → knowsS (laidS a (lcOf (chK M))) i = true := fun i hi => knows_buck ha.may kk (by show edgeS a < M.upto; exact qe) hi
  have er : layS a ([chK M].map lcOf) = laidS a (lcOf (chK M)) := rfl
  refine ⟨?_, ?_, ?_, ?_, ?_, ?_, ?_⟩ <;> simp only [eM]
  · exact q2
  · exact q3
  · rw [q1, er]
    refine ⟨hm, ?_, ?_, ?_, ?_, fun p hp => ?_⟩
    · rw [ek]
      exact ⟨ha.ok.sn, ha.ok.sc, by show In64 M.upto; rw [m4, ← hub]; exact hb.ok.upto, by show ∀ r ∈ M.ents, _; rw [m5]; exact hb.ok.ents, by show ∀ r ∈ M.lasts, _; rw [m7]; exact hb.ok.lasts, fun p hp => ha.ok.row p (List.mem_filter.1 hp).1⟩
    · rw [ek]; exact m4
    · rw [ek]; exact m5.trans hb.e
    · rw [ek]; exact m7.trans hb.l
    · rw [ek] at hp
      exact ha.r p (List.mem_filter.1 hp).1
  · rw [q1, er]; exact hmono
  · rw [q1, er, ek]
  · rw [q1, er, ek]
  · rw [q1, er, ek]

/-- A mend of a bucket, to its end. -/
structure RowB (r : Hd × Nat × Bool) (a b : Hd) (T : Int) : Prop where
  ok : r.2.2 = true
  n : (r.2.1 : Int) ≤ 2 + (if topS b - edgeS a < 0 then 0 else topS b - edgeS a) / 64
  plain : ∃ u, 0 ≤ u ∧ u ≤ T ∧ PlainH u T r.1
  mono : ∀ i, knowsS a i = true → knowsS r.1 i = true
  got : ∀ i, knowsS b i = true → knowsS r.1 i = true
  sn : r.1.sn = a.sn
  sc : r.1.sc = a.sc
  data : r.1.data = a.data

theorem mend_bucket {a b : Hd} {u ub T : Int} (ha : PlainH u T a) (hb : PlainH ub T b) (hu : u ≤ T) (hub : ub ≤ T) (hT : T ≤ 19000) (f t : Int) : RowB (rowS 299 (askS f t 2 0 0 0 a) a b) a b T := by
  have he := edge_bound ha.may
  have hu0 := ha.may.u0
  have hau := ha.up
  have hbu := hb.up
  have hb0 := hb.may.u0
  have hb1 := hb.may.u1
  have hA : AskB (askS f t 2 0 0 0 a) (edgeS a + 1) := by
    unfold askS
    rw [if_neg (by decide), if_pos rfl]
    exact ⟨rfl, rfl, rfl⟩
  have htop : topS b ≤ T := by
    unfold topS
    cases hr : b.row.reverse.find? (·.dec) with
    | none => show b.upto ≤ T; omega
    | some p => exact (hb.r p (List.mem_reverse.1 (List.mem_of_find?_eq_some hr))).2
  have hknow : ∀ (h : Hd), (∀ i, i ≤ ub → knowsS h i = true) → (∀ i, (decS b i).isSome = true → knowsS h i = true) → ∀ i, knowsS b i = true → knowsS h i = true := fun h h1 h2 i hi => by
    unfold knowsS at hi
    rw [hbu] at hi
    by_cases hiu : i ≤ ub
    · exact h1 i hiu
    · exact h2 i (by simpa [hiu] using hi)
  generalize askS f t 2 0 0 0 a = A at *
  by_cases hc : edgeS a + 1 ≤ ub
  · have r := rnd_buck hA ha hb hc
    have hk1 : ∀ i, i ≤ ub → knowsS (layS a ((takeS (haveS A b) a).1.map lcOf)) i = true := fun i hi => by
      unfold knowsS
      rw [r.plain.up]
      simp [hi]
    unfold rowS
    by_cases hmo : ub < topS b
    · rw [if_pos (by rw [r.more]; simp [hmo])]
      obtain ⟨R, hR1, hR2, hR3, hR4⟩ : ∃ R : Nat, 1 ≤ R ∧ topS b - (ub + 1) < 64 * R ∧ R ≤ 298 ∧ (R : Int) ≤ 1 + (topS b - (ub + 1)) / 64 := ⟨(1 + (topS b - (ub + 1)) / 64).toNat, by omega, by omega, by omega, by omega⟩
      have r2 := row_inst hb (by omega) R 298 _ _ (ub + 1) (r.next hmo) r.plain (by omega) (by omega) (by omega) hR1 hR2 hR3 (by omega) (fun i hi hd => hk1 i (by omega))
      have hn := r2.n
      exact ⟨r2.ok, by split <;> omega, ⟨ub, by omega, hub, r2.plain⟩, fun i hi => r2.mono i (r.mono i hi), hknow _ (fun i hi => r2.mono i (hk1 i hi)) r2.got, r2.sn.trans r.sn, r2.sc.trans r.sc, r2.data.trans r.data⟩
    · rw [if_neg (by rw [r.more]; simp [hmo])]
      refine ⟨rfl, ?_, ⟨ub, by omega, hub, r.plain⟩, r.mono, hknow _ hk1 (fun i hd => ?_), r.sn, r.sc, r.data⟩
      · show ((1 : Nat) : Int) ≤ _
        split <;> omega
      · have := dec_top hb.may hd
        exact hk1 i (by omega)
  · obtain ⟨R, hR1, hR2, hR3, hR4⟩ : ∃ R : Nat, 1 ≤ R ∧ topS b - (edgeS a + 1) < 64 * R ∧ R ≤ 299 ∧ (R : Int) ≤ 1 + (if topS b - edgeS a < 0 then 0 else topS b - edgeS a) / 64 := by
      by_cases ht : topS b - edgeS a < 1
      · exact ⟨1, by omega, by omega, by omega, by split <;> omega⟩
      · exact ⟨(1 + (topS b - edgeS a) / 64).toNat, by omega, by omega, by omega, by rw [if_neg (by omega)]; omega⟩
    have r2 := row_inst hb (by omega) R 299 A a (edgeS a + 1) hA ha (by omega) (by omega) (by omega) hR1 hR2 hR3 (by omega) (fun i hi hd => edge_knows ha.may (by omega))
    have hn := r2.n
    exact ⟨r2.ok, by omega, ⟨u, by omega, hu, r2.plain⟩, r2.mono, hknow _ (fun i hi => r2.mono i (edge_knows ha.may (by omega))) r2.got, r2.sn, r2.sc, r2.data⟩
end Md
end Go.Proofs.Ytjobojgmadjmfaa
end MgMdEnS
section MgCore
namespace Go.Hp
open Go.RowKit

/-- What is read in one is read in the other. -/
def Sub (w w' : World) : Prop := ∀ a v, w.cell? a = some v → w'.cell? a = some v

theorem Sub.refl (w : World) : Sub w w := fun _ _ h => h
theorem Sub.trans {a b c : World} (h : Sub a b) (g : Sub b c) : Sub a c := fun x v e => g x v (h x v e)
theorem Ext.sub {w w' : World} (h : Ext w w') : Sub w w' := fun _ _ e => h.cell e

theorem RowAt.sub {w w' : World} {v : Value} {n : Nat} {xs : List Value} (h : RowAt w v n xs) (he : Sub w w') : RowAt w' v n xs := by
  obtain ⟨ad, cap, h1, h2, h3, h4, h5⟩ := h
  exact ⟨ad, cap, h1, h2, h3, h4, fun b hb j u hj => he _ _ (h5 b hb j u hj)⟩
theorem RecsAt.sub {w w' : World} {v : Value} {size : Nat} {rs : List (List Value)} (h : RecsAt w v size rs) (he : Sub w w') : RecsAt w' v size rs := ⟨h.1.sub he, h.2⟩

/-- The resource Q stands for the world wc: what is read in wc is read wherever Q is; and what the part P says is there. -/
def Core (P Q : HProp) (wc : World) : Prop := (∀ (w0 w : World) (L : List HProp), At w0 (Q :: L) w → Sub wc w ∧ At w0 (P :: L) w) ∧ At wc [P] wc

theorem core_mk {w0 w : World} {L : List HProp} {P : HProp} (H : At w0 (P :: L) w) : ∃ Q wc, Core P Q wc ∧ At w0 (Q :: L) w := by
  obtain ⟨h1, h2, h3, x, hs, a, b, hd, rfl, hP, hb⟩ := H
  have ha : ∀ k o, a k = some o → w.heap[k]? = some o := fun k o e => hs k o ((uni_some hd).2 (.inl e))
  refine ⟨fun h => h = a, { w with heap := (Array.range w.heap.size).map fun k => (a k).getD (.map #[] 0) }, ⟨fun w1 w2 M HM => ⟨?_, ?_⟩, ?_⟩, h1, h2, h3, _, hs, a, b, hd, rfl, rfl, hb⟩
  · obtain ⟨_, _, _, y, ht, a2, b2, hd2, rfl, e2, hb2⟩ := HM
    have e2 : a2 = a := e2
    subst e2
    intro p v hv
    have hlt := World.block_lt_of_cell? _ _ hv
    simp only [Array.size_map, Array.size_range] at hlt
    have hg : ((Array.range w.heap.size).map fun k => (a2 k).getD (.map #[] 0))[p.block]? = some ((a2 p.block).getD (.map #[] 0)) := by simp [hlt]
    cases hap : a2 p.block with
    | none =>
      rw [hap] at hg
      exfalso
      simp only [Option.getD_none] at hg
      unfold World.cell? at hv
      simp only [hg] at hv
      cases hv
    | some o =>
      rw [hap] at hg
      simp only [Option.getD_some] at hg
      have h4 := ht p.block o ((uni_some hd2).2 (.inl hap))
      unfold World.cell? at hv ⊢
      simp only [hg] at hv
      rw [h4]
      exact hv
  · obtain ⟨c1, c2, c3, y, ht, a2, b2, hd2, rfl, e2, hb2⟩ := HM
    have e2 : a2 = a := e2
    subst e2
    exact ⟨c1, c2, c3, _, ht, a2, b2, hd2, rfl, hP, hb2⟩
  · refine ⟨rfl, rfl, rfl, a, fun k o e => ?_, a, fun _ => none, disj_empty _ (fun _ => rfl), (uni_empty _ (fun _ => rfl)).symm, hP, fun _ => rfl⟩
    have hlt := (Array.getElem?_eq_some_iff.1 (ha k o e)).1
    simp [hlt, e]

theorem Core.sub {P Q : HProp} {wc w0 w : World} {L : List HProp} (h : Core P Q wc) (H : At w0 (Q :: L) w) : Sub wc w := (h.1 _ _ _ H).1
theorem Core.open {P Q : HProp} {wc w0 w : World} {L : List HProp} (h : Core P Q wc) (H : At w0 (Q :: L) w) : At w0 (P :: L) w := (h.1 _ _ _ H).2
theorem Core.self {P Q : HProp} {wc : World} (h : Core P Q wc) : At wc [P] wc := h.2
end Go.Hp
end MgCore
section MgMdEnR
namespace Go.Proofs.Ytjobojgmadjmfaa
open Go.Hp Go.RowKit
set_option linter.unusedVariables false
set_option linter.unusedSimpArgs false
set_option maxRecDepth 100000
namespace Md

theorem results_cell_tmps {P : Program} {fn : Func} {p q r : Tmp} {ty : TypeId} (h : fn.results = #[.cell p ty, .tmp q, .tmp r]) {tmps : Array Value} {w : World} {g : Nat} {t : TypeId} {cs : Array Value} {fr : Nat × Nat} {n : Nat}
    (hp : tmps.getD p undef = .pointer (some ⟨g, 0, none⟩)) (hT : aggT P ty = true) (hn : sizeT P ty = some n) (hg : w.heap[g]? = some (.cells cs t fr)) (hc : cs.size = n) :
    (results fn tmps).run P w = .ok (.tuple #[.agg cs, tmps.getD q undef, tmps.getD r undef]) w := by
  have hr := run_loadVar_agg (P := P) (off := 0) hT hn hg (by omega)
  have e : cs.extract 0 (0 + n) = cs := by rw [Nat.zero_add, ← hc, Array.extract_size]
  rw [e] at hr
  have hp' : tmps[p]?.getD undef = .pointer (some ⟨g, 0, none⟩) := by simpa using hp
  simp [results, h, hp', asAddr, hr]

abbrev y30 : Array Value := #[.int .i64 0, .bool false, .int .i64 0, .bool false, .int .i64 0, .int .i64 0, .int .i64 0, .int .i64 0, .int .i64 0, .int .i64 0, .int .i64 0, .int .i64 0, .int .i64 0, .int .i64 0, .int .i64 0, .slice none 0 0, .int .i64 0, .int .i64 0, .int .i64 0, .string ⟨#[]⟩, .int .i64 0, .int .i64 0, .int .i64 0, .int .i64 0, .int .i64 0, .int .i64 0, .slice none 0 0, .slice none 0 0, .slice none 0 0, .bool false]

/-- What a resource tells wherever it is and S holds. -/
def PF (S : World → Prop) (P : HProp) (F : World → Prop) : Prop := ∀ (w2 w' : World) (L2 : List HProp), S w' → At w2 (P :: L2) w' → F w'

theorem laid_pf {S G : World → Prop} {P1 : HProp} {w0 w' : World} {L : List HProp} {a1 : Hd} {c : Cg} {vd1 ve1 vl1 vr1 va ve' vl' : Value} {e : Ending} (hP : PF S P1 (fun w' => HdAt w' a1 vd1 ve1 vl1 vr1 ∧ G w'))
    (ha : ∀ w', S w' → RowAt w' va c.blk.length (bv c.blk)) (he : ∀ w', S w' → RecsAt w' ve' 4 c.ents) (hl : ∀ w', S w' → RecsAt w' vl' 7 c.lasts) (hok : (laidS a1 (lcOf c)).Ok) (h : LdPost w0 (P1 :: L) a1 (lcOf c) vd1 ve1 vl1 vr1 va ve' vl' e w') :
    ∃ vd2 ve2 vl2 vr2 P2, e = .returned (.agg (hdV (laidS a1 (lcOf c)) vd2 ve2 vl2 vr2)) ∧ PF S P2 (fun w' => HdAt w' (laidS a1 (lcOf c)) vd2 ve2 vl2 vr2 ∧ G w') ∧ At w0 (P2 :: L) w' := by
  obtain ⟨vr', rfl, h⟩ := h
  have ek : (lcOf c).kk = c.kk := rfl
  rw [ek] at h ⊢
  by_cases k1 : c.kk = 1
  · rw [if_pos k1] at h
    obtain ⟨rfl, H⟩ := h
    have k2 : ¬ c.kk = 2 := by omega
    refine ⟨_, _, _, _, P1, rfl, fun w2 w' L2 hs HX => ?_, H⟩
    obtain ⟨q1, q2⟩ := hP _ _ _ hs HX
    have hfa := ha w' hs
    unfold laidS
    simp only [ek, if_pos k1, if_neg k2]
    exact ⟨⟨hfa, q1.e, q1.l, q1.r⟩, q2⟩
  · rw [if_neg k1] at h
    refine ⟨_, _, _, _, Stars [Hold vr' (laidS a1 (lcOf c)).row.length ((laidS a1 (lcOf c)).row.map Pl.cells).flatten, P1], rfl, fun w2 w' L2 hs HX => ?_, At.fold (M := [_, _]) h⟩
    have HY : At w2 (Hold vr' _ _ :: P1 :: L2) w' := At.flat HX
    obtain ⟨q1, q2⟩ := hP _ _ _ hs HY.drop
    have hr := hold_at HY
    refine ⟨?_, q2⟩
    have hrow : RecsAt w' vr' 15 ((laidS a1 (lcOf c)).row.map Pl.cells) := ⟨by rw [List.length_map]; exact hr, len15 hok⟩
    rw [if_neg k1]
    by_cases k2 : c.kk = 2
    · simp only [if_pos k2]
      refine ⟨?_, ?_, ?_, hrow⟩
      · have e : (laidS a1 (lcOf c)).data = a1.data := by unfold laidS; rw [if_neg (by rw [ek]; exact k1), if_pos (ek.trans k2)]
        rw [e]; exact q1.d
      · have e : (laidS a1 (lcOf c)).ents = c.ents := by unfold laidS; rw [if_neg (by rw [ek]; exact k1), if_pos (ek.trans k2)]; rfl
        rw [e]; exact he w' hs
      · have e : (laidS a1 (lcOf c)).lasts = c.lasts := by unfold laidS; rw [if_neg (by rw [ek]; exact k1), if_pos (ek.trans k2)]; rfl
        rw [e]; exact hl w' hs
    · simp only [if_neg k2]
      refine ⟨?_, ?_, ?_, hrow⟩
      · have e : (laidS a1 (lcOf c)).data = a1.data := by unfold laidS; rw [if_neg (by rw [ek]; exact k1), if_neg (by rw [ek]; exact k2)]
        rw [e]; exact q1.d
      · have e : (laidS a1 (lcOf c)).ents = a1.ents := by unfold laidS; rw [if_neg (by rw [ek]; exact k1), if_neg (by rw [ek]; exact k2)]
        rw [e]; exact q1.e
      · have e : (laidS a1 (lcOf c)).lasts = a1.lasts := by unfold laidS; rw [if_neg (by rw [ek]; exact k1), if_neg (by rw [ek]; exact k2)]
        rw [e]; exact q1.l

theorem lay_new_next {a : Hd} {l : List Cg} {i : Nat} {c : Cg} (hc : l[i]? = some c) (h : LayNew a ((l.drop i).map lcOf)) : (c.kk = 3 → decS a c.kb = none) ∧ LayNew (laidS a (lcOf c)) ((l.drop (i + 1)).map lcOf) := by
  obtain ⟨hi, rfl⟩ := List.getElem?_eq_some_iff.1 hc
  rw [List.drop_eq_getElem_cons hi] at h
  exact h

theorem lays_next {a : Hd} {l : List Cg} {i : Nat} {c : Cg} (hc : l[i]? = some c) : layS a ((l.drop i).map lcOf) = layS (laidS a (lcOf c)) ((l.drop (i + 1)).map lcOf) := by
  obtain ⟨hi, rfl⟩ := List.getElem?_eq_some_iff.1 hc
  rw [List.drop_eq_getElem_cons hi]
  rfl

theorem hdV_one {h : Hd} {vd ve vl vr : Value} (h1 : vd.oneCell' = true) (h2 : ve.oneCell' = true) (h3 : vl.oneCell' = true) (h4 : vr.oneCell' = true) : ∀ v ∈ (hdV h vd ve vl vr).toList, v.oneCell' = true := by
  intro v hv
  simp [hdV] at hv
  rcases hv with rfl | rfl | rfl | rfl | rfl | rfl | rfl <;> first | rfl | assumption

/-- What row hands back. -/
def RowPost (w0 : World) (L : List HProp) (S : World → Prop) (r : Hd × Nat × Bool) (e : Ending) (w' : World) : Prop := ∃ vd ve vl vr P, e = .returned (.tuple #[.agg (hdV r.1 vd ve vl vr), .int .i64 r.2.1, .bool r.2.2]) ∧ PF S P (fun w => HdAt w r.1 vd ve vl vr) ∧ r.1.Ok ∧ r.1.Sz ∧ At w0 (P :: L) w'

theorem ask_ok2 {a : Hd} (hm : May a) {f t kk ka kb kc : Int} (qf : In64 f) (qt : In64 t) (q1 : In64 kk) (q2 : In64 ka) (q3 : In64 kb) (q4 : In64 kc) : (askS f t kk ka kb kc a).Ok := by
  have hb := edge_bound hm
  have hu := hm.u0
  unfold askS
  split
  · exact { mg0_ok with kind := in21, fi := qf, ti := qt, kk := q1, ka := q2, kb := q3, kc := q4, sn := in0 }
  · split
    · exact { mg0_ok with kind := in21, fi := qf, ti := qt, kk := q1, ka := q2, kb := q3, kc := q4, sn := (in_small (by omega) (by omega) : In64 (edgeS a + 1)) }
    · exact mg0_ok

section
variable {w0 w : World} {L : List HProp}

set_option maxHeartbeats 1500000 in
theorem row {kk ka kb kc f t : Int} (qf : In64 f) (qt : In64 t) (k1 : In64 kk) (k2 : In64 ka) (k3 : In64 kb) (k4 : In64 kc) {a b : Hd} {vd ve vl vr vd2 ve2 vl2 vr2 : Value} (ham : May a) (hao : a.Ok) (has : a.Sz) (hbm : May b) (hbo : b.Ok) (hbs : b.Sz)
    {S : World → Prop} (hE : ∀ w', Ext w w' → S w') (hS : ∀ w', S w' → HdAt w' a vd ve vl vr) (hvb : HdAt w b vd2 ve2 vl2 vr2) (H : At w0 L w) :
    Calls Try.prog 28 #[.agg #[.int .i64 kk, .int .i64 ka, .int .i64 kb, .int .i64 kc], .int .i64 f, .int .i64 t, .agg (hdV a vd ve vl vr), .agg (hdV b vd2 ve2 vl2 vr2)] w (RowPost w0 L S (rowS 299 (askS f t kk ka kb kc a) a b)) := by
  obtain ⟨W, rfl⟩ : ∃ W : World, W = w := ⟨_, rfl⟩
  have hva := hS W (hE W (Ext.refl W))
  have SE := Lib.hid hE
  have SA := Lib.hid hS
  clear hE hS
  have HF := At.of W
  have H0 := Lib.hid H
  have Am := Lib.hid ham
  have AO := Lib.hid hao
  have AS := Lib.hid has
  have Bm := Lib.hid hbm
  have BO := Lib.hid hbo
  have BS := Lib.hid hbs
  have VA := Lib.hid hva
  have VB := Lib.hid hvb
  have An := Lib.hid (show a.row.length ≤ 140737488355328 by have := may_len ham; omega)
  have Bn := Lib.hid (show b.row.length ≤ 140737488355328 by have := may_len hbm; omega)
  generalize hA : askS f t kk ka kb kc a = A at *
  have HA := Lib.hid hA
  have BA := Lib.hid (show Base A by rw [← hA]; unfold askS; split; exact ⟨rfl, rfl, rfl, rfl⟩; split; exact ⟨rfl, rfl, rfl, rfl⟩; exact ⟨rfl, rfl, rfl, rfl⟩)
  have OA := Lib.hid (show A.Ok by rw [← hA]; exact ask_ok2 ham qf qt k1 k2 k3 k4)
  have HE := Lib.hid (fun (r : Hd × Nat × Bool) (w' : World) (h1 : r = rowS 299 A a b) => h1)
  generalize hres : rowS 299 A a b = res at *
  have HR0 := Lib.hid hres
  clear H ham hao has hbm hbo hbs hva hvb hA hres HE qf qt k1 k2 k3 k4
  have q1 := row_one VA.out.d
  have q2 := row_one VA.out.e.1
  have q3 := row_one VA.out.l.1
  have q4 := row_one VA.out.r.1
  have b1 := row_one VB.out.d
  have b2 := row_one VB.out.e.1
  have b3 := row_one VB.out.l.1
  have b4 := row_one VB.out.r.1
  have tok : True := trivial
  simp only [hdV]
  go_enter Try.func28, Try.ntmps28
  go_wp2_with (first | ((with_reducible refine k_box (T := 25) ?_); refine st_box rfl _ _ rfl _ rfl HF ?_; (clear HF; intro g5 w HF K hK; simp only [Value.cells, Act.eval, Value.cells, Array.getD_eq_getD_getElem?, List.getElem?_toArray, List.getElem?_cons_succ, List.getElem?_cons_zero, Option.getD_some] at HF; go_simp)) | ((with_reducible refine k_box (T := 44) ?_); (have _t := tok); refine st_box rfl _ _ rfl _ rfl HF ?_; (clear HF tok _t; intro g8 w HF K hK; simp only [Value.cells, Act.eval, Value.cells, Array.getD_eq_getD_getElem?, List.getElem?_toArray, List.getElem?_cons_succ, List.getElem?_cons_zero, Option.getD_some] at HF; go_simp)) | ((with_reducible refine k_box (T := 44) ?_); refine st_box rfl _ _ rfl _ rfl HF ?_; (clear HF; intro g9 w HF K hK; simp only [Value.cells, Act.eval, Value.cells, Array.getD_eq_getD_getElem?, List.getElem?_toArray, List.getElem?_cons_succ, List.getElem?_cons_zero, Option.getD_some] at HF; go_simp)) | ((with_reducible refine k_alloc (T := 44) ?_); refine st_alloc rfl _ rfl _ z44 _ rfl HF ?_; (clear HF; intro g10 w HF K hK; simp only [Value.cells] at HF; go_simp)))
  have HFF : At W (Blk g10 (.cells #[.int .i64 0, .int .i64 0, nl, .int .i64 0, nl, nl, nl] 44 (0, 0)) :: Blk g9 (.cells (hdV b vd2 ve2 vl2 vr2) 44 (0, 0)) :: Blk g8 (.cells (hdV a vd ve vl vr) 44 (0, 0)) :: Blk g5 (.cells #[.int .i64 kk, .int .i64 ka, .int .i64 kb, .int .i64 kc] 25 (0, 0)) :: Arg W :: []) w := HF
  replace HF := HFF
  clear HFF
  apply wp_region_eff [4, 6, 7] (fun i => (#[[], [], [], [], [], [4], [], [4, 6]] : Array (List Nat)).getD i []) (fun val i => ((_ :: _ :: _ :: _ :: val 4 :: _ :: val 6 :: val 7 :: []) : List Value).toArray.getD i undef) (fun E val => At W ((if E 4 = true then LhR a (val 4) else emp) :: (if E 6 = true then PtrBlk (val 6) (.cells (if E 7 = true then mgV A nl nl nl nl else y30) 39 (0, 0)) else emp) :: Blk g10 (.cells #[.int .i64 0, .int .i64 0, nl, .int .i64 0, nl, nl, nl] 44 (0, 0)) :: Blk g9 (.cells (hdV b vd2 ve2 vl2 vr2) 44 (0, 0)) :: Blk g8 (.cells (hdV a vd ve vl vr) 44 (0, 0)) :: Blk g5 (.cells #[.int .i64 kk, .int .i64 ka, .int .i64 kb, .int .i64 kc] 25 (0, 0)) :: Arg W :: [])) (by kernel_rfl) (by kernel_rfl) (by kernel_rfl) (by kernel_rfl) (HF.addEmp.addEmp)
  case step =>
    iterate 4 (refine ⟨eff_pl rfl (fun _ => by rfl) fun E val hn T ds w K H hk ho hK => ?_, ?_⟩; rotate_left)
    refine ⟨eff_mk rfl (fun _ => by rfl) fun E val hE0 hcl hn T ds w K H hk ho hK => ?_, ?_⟩; rotate_left
    refine ⟨eff_pl rfl (fun _ => by rfl) fun E val hn T ds w K H hk ho hK => ?_, ?_⟩; rotate_left
    iterate 2 (refine ⟨eff_mk rfl (fun _ => by rfl) fun E val hE0 hcl hn T ds w K H hk ho hK => ?_, ?_⟩; rotate_left)
    exact trivial
    · have o1 := ho 1 (by kernel_rfl); clear ho; simp [know, dstAt, Region.binds] at hk o1; go_simp; exact hK _ H
    · have o2 := ho 2 (by kernel_rfl); clear ho; simp [know, dstAt, Region.binds] at hk o2; go_simp; exact hK _ H
    · have o5 := ho 5 (by kernel_rfl); clear ho; simp [know, dstAt, Region.binds] at hk o5
      (refine op_rowT (T := 25) rfl o5 a25 s25 H 5 rfl rfl ?_; exact hK _ H)
    · have o8 := ho 8 (by kernel_rfl); clear ho; simp [know, dstAt, Region.binds] at hk o8
      (refine op_rowT (T := 44) rfl o8 a44 s44 H 4 rfl rfl ?_; exact hK _ H)
    · clear ho; simp [know, dstAt, Region.binds] at hk
      (simp only [hE0, Bool.false_eq_true, if_false] at H); go_simp; refine (lendH AO.out AS.out.br (VA.out.ext (H.ext 6 rfl)) AS.out.bd AS.out.be AS.out.bl H.drop).mono ?_; rintro e w' ⟨gd, ge, gl, gr, rfl, H⟩; refine hK _ _ ?_; have t4 : updE E 4 4 = true := rfl; simp only [t4, if_true]; exact lhr_mk H
    · clear ho; simp [know, dstAt, Region.binds] at hk
      (have e4 := hn 4 (by decide); simp only [e4, if_true] at H; obtain ⟨vd', ve', vl', vr', hv4, hd4⟩ := lhr_open AO.out AS.out H; have hk2 := hk; simp only [hv4] at hk2; clear hk hv4; go_simp; refine (Md.ask Am.out AO.out An.out hd4.r f t kk ka kb kc H).mono ?_; rintro e w' ⟨rfl, _, H⟩; rw [HA.out]; exact hK _ (by simp only [e4, if_true]; exact H))
    · clear ho; simp [know, dstAt, Region.binds] at hk
      (have q7 : E 7 = false := (by cases h : E 7 with | false => rfl | true => (have h2 := hcl 7 (by decide) h 6 (by decide); rw [hE0] at h2; cases h2))); (simp only [hE0, Bool.false_eq_true, if_false] at H); refine op_allocT rfl z39 rfl (H.sel 2 [0]) ?_; (intro x w' H; refine hK _ _ ?_; have t6 : updE E 6 6 = true := rfl; have t7 : updE E 6 7 = false := q7; simp only [t6, t7, Bool.false_eq_true, if_true, if_false]; exact H.sel 2 [1, 0])
    · clear ho; simp [know, dstAt, Region.binds] at hk
      (have e6 := hn 6 (by decide)); (simp only [hE0, e6, Bool.false_eq_true, if_true, if_false] at H); (obtain ⟨g, hv6, HS⟩ := ptr_ex (H.pick 1 rfl)); refine op_putT rfl (hk.1.trans hv6) hk.2.1 ?_ s39 HS 0 rfl rfl rfl ?_; (simp [mgV, nl, Value.oneCell']); (intro w' H; refine hK _ _ ?_; have t6 : updE E 7 6 = true := e6; have t7 : updE E 7 7 = true := rfl; simp only [t6, t7, if_true]; exact (At.imp H fun _ hh => (⟨g, hv6, hh⟩ : PtrBlk (val 6) _ _)).sel 2 [1, 0])
  case ins =>
    iterate 4 (refine ⟨ins_pl rfl (fun _ _ _ => rfl), ?_⟩)
    refine ⟨ins_mk rfl (fun _ => rfl), ?_⟩
    refine ⟨ins_pl rfl (fun val val' h => by first | rfl | ((have h4 := h 4 (by decide)); first | (simp only [h4]; done) | (simp only [h4]; rfl))), ?_⟩
    iterate 2 (refine ⟨ins_mk rfl (fun _ => rfl), ?_⟩)
    exact trivial
  case jns =>
    iterate 4 (refine ⟨j_pl (fun _ _ _ => rfl), ?_⟩)
    refine ⟨j_mk rfl, ?_⟩
    refine ⟨j_pl (fun _ _ _ => rfl), ?_⟩
    iterate 2 (refine ⟨j_mk rfl, ?_⟩)
    exact trivial
  case fin =>
    intro E val w5 hE H
    have e4 := hE 4 (by decide)
    have e6 := hE 6 (by decide)
    have e7 := hE 7 (by decide)
    simp only [e4, e6, e7, if_true] at H
    clear hE e4 e6 e7 HF
    obtain ⟨g13, hv6, HX⟩ := ptr_ex (H.pick 1 rfl)
    have HF : At W (Blk g13 (.cells (mgV A nl nl nl nl) 39 (0, 0)) :: Blk g10 (.cells #[.int .i64 0, .int .i64 0, nl, .int .i64 0, nl, nl, nl] 44 (0, 0)) :: Blk g9 (.cells (hdV b vd2 ve2 vl2 vr2) 44 (0, 0)) :: Blk g8 (.cells (hdV a vd ve vl vr) 44 (0, 0)) :: Blk g5 (.cells #[.int .i64 kk, .int .i64 ka, .int .i64 kb, .int .i64 kc] 25 (0, 0)) :: Arg W :: []) w5 := HX.sel 2 [0]
    clear HX H
    simp [putAll, Act.put, hv6]
    clear hv6
    go_wp2_with fail
    go_loopw [14] (fun x wr => ∃ (r : Nat) (a : Hd) (vd ve vl vr : Value) (A : Mg) (P : HProp), r ≤ 299 ∧ x = .int .i64 (r + 1) ∧ May a ∧ a.Ok ∧ a.Sz ∧ Base A ∧ A.Ok ∧ rowS (299 - r) A a b = res ∧ PF S P (fun w => HdAt w a vd ve vl vr) ∧ At W (Blk g13 (.cells (mgV A nl nl nl nl) 39 (0, 0)) :: Blk g10 (.cells #[.int .i64 0, .int .i64 0, nl, .int .i64 0, nl, nl, nl] 44 (0, 0)) :: Blk g9 (.cells (hdV b vd2 ve2 vl2 vr2) 44 (0, 0)) :: Blk g8 (.cells (hdV a vd ve vl vr) 44 (0, 0)) :: Blk g5 (.cells #[.int .i64 kk, .int .i64 ka, .int .i64 kb, .int .i64 kc] 25 (0, 0)) :: P :: Arg W :: []) wr) (fun x _ => 301 - (intOf x).toNat)
    case atStart => exact ⟨0, a, vd, ve, vl, vr, A, emp, by decide, rfl, Am.out, AO.out, AS.out, BA.out, OA.out, HR0.out, fun _ _ _ hs _ => SA.out _ hs, HF.addEmp.sel 6 [1, 2, 3, 4, 5, 0]⟩
    case round =>
      clear HF HR0 BA HA OA Am An AS AO VA q1 q2 q3 q4
      obtain ⟨r, a, vd, ve, vl, vr, A, P, hr, rfl, hm, ho, hs, hba, hoa, hres, hP, HF⟩ := hrel
      have Am := Lib.hid hm
      have AO := Lib.hid ho
      have AS := Lib.hid hs
      have BA := Lib.hid hba
      have OA := Lib.hid hoa
      have HR := Lib.hid hres
      have PP := Lib.hid hP
      have An := Lib.hid (show a.row.length ≤ 140737488355328 by have := may_len hm; omega)
      have f1 := hP _ _ _ (SE.out _ (HF.ext 6 rfl)) (HF.pick 5 rfl)
      have q1 := row_one f1.d
      have q2 := row_one f1.e.1
      have q3 := row_one f1.l.1
      have q4 := row_one f1.r.1
      clear hm ho hs hba hoa hres hP f1
      by_cases hlt : r < 299
      · have g1x : (r : Int) + 1 < 300 := by omega
        generalize hM : haveS A b = M at *
        have HM := Lib.hid hM
        have MO := Lib.hid (show M.Ok by rw [← HM.out]; exact have_okM OA.out BO.out)
        have MB := Lib.hid (show M.blk.length ≤ 140737488355328 by rw [← HM.out]; exact have_blk BS.out.bd)
        have MF := Lib.hid (show M.Fit by rw [← HM.out]; exact have_fit BO.out BS.out.be BS.out.bl)
        clear hM
        generalize hX : takeS M a = X at *
        have HXS := Lib.hid hX
        have XB := Lib.hid (show Base X.2.1 by rw [← HXS.out]; exact take_base M a)
        have XK := Lib.hid (show ∀ c ∈ X.1, c.Ok by rw [← HXS.out]; exact take_ok MO.out MF.out.be MF.out.bl)
        have XL := Lib.hid (show X.1.length ≤ 140737488355328 by rw [← HXS.out]; exact take_len MF.out.bc)
        clear hX
        go_wp2_with fail
        apply wp_region_eff [2, 3, 5, 6, 11, 13] (fun i => (#[[], [], [], [2], [], [], [2, 3, 5], [2, 3, 5, 6], [2, 3, 5, 6], [2, 3, 5, 6], [2, 3, 5, 6], [], [2, 3, 5, 6], [2, 3, 5, 6, 11], [2, 3, 5, 6]] : Array (List Nat)).getD i []) (fun val i => ((_ :: _ :: val 2 :: val 3 :: _ :: val 5 :: val 6 :: _ :: _ :: _ :: _ :: val 11 :: _ :: val 13 :: _ :: []) : List Value).toArray.getD i undef) (fun E val => At W ((if E 2 = true then LhR b (val 2) else emp) :: (if E 3 = true then MsR M (val 3) else emp) :: (if E 5 = true then LhR a (val 5) else emp) :: (if E 6 = true then TkR X (val 6) else emp) :: (if E 11 = true then PtrBlk (val 11) (.cells (if E 13 = true then mgV X.2.1 nl nl nl nl else y30) 39 (0, 0)) else emp) :: Blk g13 (.cells (mgV A nl nl nl nl) 39 (0, 0)) :: Blk g10 (.cells #[.int .i64 0, .int .i64 0, nl, .int .i64 0, nl, nl, nl] 44 (0, 0)) :: Blk g9 (.cells (hdV b vd2 ve2 vl2 vr2) 44 (0, 0)) :: Blk g8 (.cells (hdV a vd ve vl vr) 44 (0, 0)) :: Blk g5 (.cells #[.int .i64 kk, .int .i64 ka, .int .i64 kb, .int .i64 kc] 25 (0, 0)) :: P :: Arg W :: [])) (by kernel_rfl) (by kernel_rfl) (by kernel_rfl) (by kernel_rfl) (HF.addEmp.addEmp.addEmp.addEmp.addEmp)
        case step =>
          iterate 2 (refine ⟨eff_pl rfl (fun _ => by rfl) fun E val hn T ds w K H hk ho hK => ?_, ?_⟩; rotate_left)
          iterate 2 (refine ⟨eff_mk rfl (fun _ => by rfl) fun E val hE0 hcl hn T ds w K H hk ho hK => ?_, ?_⟩; rotate_left)
          refine ⟨eff_pl rfl (fun _ => by rfl) fun E val hn T ds w K H hk ho hK => ?_, ?_⟩; rotate_left
          iterate 2 (refine ⟨eff_mk rfl (fun _ => by rfl) fun E val hE0 hcl hn T ds w K H hk ho hK => ?_, ?_⟩; rotate_left)
          iterate 4 (refine ⟨eff_pl rfl (fun _ => by rfl) fun E val hn T ds w K H hk ho hK => ?_, ?_⟩; rotate_left)
          refine ⟨eff_mk rfl (fun _ => by rfl) fun E val hE0 hcl hn T ds w K H hk ho hK => ?_, ?_⟩; rotate_left
          refine ⟨eff_pl rfl (fun _ => by rfl) fun E val hn T ds w K H hk ho hK => ?_, ?_⟩; rotate_left
          refine ⟨eff_mk rfl (fun _ => by rfl) fun E val hE0 hcl hn T ds w K H hk ho hK => ?_, ?_⟩; rotate_left
          refine ⟨eff_pl rfl (fun _ => by rfl) fun E val hn T ds w K H hk ho hK => ?_, ?_⟩; rotate_left
          exact trivial
          · have o13 := ho 13 (by kernel_rfl); clear ho; simp [know, dstAt, Region.binds] at hk o13
            (refine op_rowT (T := 39) rfl o13 a39 s39 H 5 rfl rfl ?_; exact hK _ H)
          · have o9 := ho 9 (by kernel_rfl); clear ho; simp [know, dstAt, Region.binds] at hk o9
            (refine op_rowT (T := 44) rfl o9 a44 s44 H 7 rfl rfl ?_; exact hK _ H)
          · clear ho; simp [know, dstAt, Region.binds] at hk
            (simp only [hE0, Bool.false_eq_true, if_false] at H); go_simp; refine (lendH BO.out BS.out.br (VB.out.ext (H.ext 11 rfl)) BS.out.bd BS.out.be BS.out.bl H.drop).mono ?_; rintro e w' ⟨gd, ge, gl, gr, rfl, H⟩; refine hK _ _ ?_; have t2 : updE E 2 2 = true := rfl; simp only [t2, if_true]; exact lhr_mk H
          · clear ho; simp [know, dstAt, Region.binds] at hk
            (have e2 := hn 2 (by decide)); (simp only [e2, hE0, Bool.false_eq_true, if_false, if_true] at H); obtain ⟨vd', ve', vl', vr', hv2, hd2⟩ := lhr_open BO.out BS.out H; have p1 := hk.1; have p2 := hk.2.trans hv2; clear hk hv2; go_simp; refine (have_ (a := A) (h := b) Bm.out BO.out Bn.out hd2 BS.out.be BS.out.bl BS.out.bd (H.sel 2 [0])).mono ?_; rintro e w' ⟨vb', ve'', vl'', vc', rfl, H⟩; refine hK _ _ ?_; have t2 : updE E 3 2 = true := e2; have t3 : updE E 3 3 = true := rfl; simp only [t2, t3, if_true]; rw [HM.out] at H ⊢; exact ((At.imp (At.fold (M := msgR _ _ _ _ _) H) fun _ hh => ⟨rfl, hh⟩ : At W (MsR M (.agg (mgV M vb' ve'' vl'' vc')) :: _) w')).sel 2 [1, 0]
          · have o8 := ho 8 (by kernel_rfl); clear ho; simp [know, dstAt, Region.binds] at hk o8
            (refine op_rowT (T := 44) rfl o8 a44 s44 H 8 rfl rfl ?_; exact hK _ H)
          · clear ho; simp [know, dstAt, Region.binds] at hk
            (simp only [hE0, Bool.false_eq_true, if_false] at H); go_simp; refine (lendH AO.out AS.out.br (PP.out _ _ _ (SE.out _ (H.ext 11 rfl)) (H.pick 10 rfl)) AS.out.bd AS.out.be AS.out.bl (H.sel 3 [0, 1])).mono ?_; rintro e w' ⟨gd, ge, gl, gr, rfl, H⟩; refine hK _ _ ?_; have t5 : updE E 5 5 = true := rfl; simp only [t5, if_true]; exact (lhr_mk H).sel 3 [1, 2, 0]
          · clear ho; simp [know, dstAt, Region.binds] at hk
            (have e2 := hn 2 (by decide)); (have e3 := hn 3 (by decide)); (have e5 := hn 5 (by decide)); (simp only [e2, e3, e5, hE0, Bool.false_eq_true, if_false, if_true] at H); obtain ⟨hv3, HT⟩ := At.and (H.pick 1 rfl); have hM4 := msgR_at MF.out (At.flat HT); clear HT; obtain ⟨vd', ve4, vl4, vr', hv5, hd5⟩ := lhr_open AO.out AS.out (H.pick 2 rfl); have p1 := hk.1.trans hv3; have p2 := hk.2.trans hv5; clear hk hv3 hv5; go_simp; refine (take (m := M) (h := a) hM4 MO.out MF.out.bc MF.out.be MF.out.bl MB.out Am.out AO.out An.out hd5 (H.sel 4 [0, 1, 2])).mono ?_; rintro e w' ⟨v', rfl, H⟩; refine hK _ _ ?_; have t2 : updE E 6 2 = true := e2; have t3 : updE E 6 3 = true := e3; have t5 : updE E 6 5 = true := e5; have t6 : updE E 6 6 = true := rfl; simp only [t2, t3, t5, t6, if_true]; rw [HXS.out] at H ⊢; exact (At.imp H fun _ hh => tkr_mk hh).sel 4 [1, 2, 3, 0]
          · clear ho; simp [know, dstAt, Region.binds] at hk
            first | (go_simp; exact hK _ H) | (have e6 := hn 6 (by decide); simp only [e6, if_true] at H; have hv6 := (At.and (H.pick 3 rfl)).1; have hk2 := hk.trans hv6; clear hk hv6; go_simp; exact hK _ (by simp only [e6, if_true]; exact H))
          · clear ho; simp [know, dstAt, Region.binds] at hk
            first | (have e6 := hn 6 (by decide); simp only [e6, if_true] at H; have hv6 := (At.and (H.pick 3 rfl)).1; have hk2 := hk.trans hv6; clear hk hv6; go_simp; exact hK _ (by simp only [e6, if_true]; exact H)) | (go_simp; exact hK _ H)
          · clear ho; simp [know, dstAt, Region.binds] at hk
            first | (have e6 := hn 6 (by decide); simp only [e6, if_true] at H; have hv6 := (At.and (H.pick 3 rfl)).1; have hk2 := hk.trans hv6; clear hk hv6; go_simp; exact hK _ (by simp only [e6, if_true]; exact H)) | (go_simp; exact hK _ H)
          · clear ho; simp [know, dstAt, Region.binds] at hk
            first | (have e6 := hn 6 (by decide); simp only [e6, if_true] at H; have hv6 := (At.and (H.pick 3 rfl)).1; have hk2 := hk.trans hv6; clear hk hv6; go_simp; exact hK _ (by simp only [e6, if_true]; exact H)) | (go_simp; exact hK _ H)
          · clear ho; simp [know, dstAt, Region.binds] at hk
            (have q13 : E 13 = false := (by cases h : E 13 with | false => rfl | true => (have h2 := hcl 13 (by decide) h 11 (by decide); rw [hE0] at h2; cases h2))); (simp only [hE0, Bool.false_eq_true, if_false] at H); refine op_allocT rfl z39 rfl (H.sel 5 [0, 1, 2, 3]) ?_; (intro x w' H; refine hK _ _ ?_; have t11 : updE E 11 11 = true := rfl; have t13 : updE E 11 13 = false := q13; simp only [t11, t13, Bool.false_eq_true, if_true, if_false]; exact H.sel 5 [1, 2, 3, 4, 0])
          · clear ho; simp [know, dstAt, Region.binds] at hk
            first | (have e6 := hn 6 (by decide); simp only [e6, if_true] at H; have hv6 := (At.and (H.pick 3 rfl)).1; have hk2 := hk.trans hv6; clear hk hv6; go_simp; exact hK _ (by simp only [e6, if_true]; exact H)) | (go_simp; exact hK _ H)
          · clear ho; simp [know, dstAt, Region.binds] at hk
            (have e11 := hn 11 (by decide)); (simp only [hE0, e11, Bool.false_eq_true, if_true, if_false] at H); (obtain ⟨g, hv11, HS⟩ := ptr_ex (H.pick 4 rfl)); refine op_putT rfl (hk.1.trans hv11) hk.2.1 ?_ s39 HS 0 rfl rfl rfl ?_; (simp [mgV, nl, Value.oneCell']); (intro w' H; refine hK _ _ ?_; have t11 : updE E 13 11 = true := e11; have t13 : updE E 13 13 = true := rfl; simp only [t11, t13, if_true]; exact (At.imp H fun _ hh => (⟨g, hv11, hh⟩ : PtrBlk (val 11) _ _)).sel 5 [1, 2, 3, 4, 0])
          · clear ho; simp [know, dstAt, Region.binds] at hk
            first | (have e6 := hn 6 (by decide); simp only [e6, if_true] at H; have hv6 := (At.and (H.pick 3 rfl)).1; have hk2 := hk.trans hv6; clear hk hv6; go_simp; exact hK _ (by simp only [e6, if_true]; exact H)) | (go_simp; exact hK _ H)
        case ins =>
          iterate 2 (refine ⟨ins_pl rfl (fun _ _ _ => rfl), ?_⟩)
          iterate 2 (refine ⟨ins_mk rfl (fun _ => rfl), ?_⟩)
          refine ⟨ins_pl rfl (fun _ _ _ => rfl), ?_⟩
          iterate 2 (refine ⟨ins_mk rfl (fun _ => rfl), ?_⟩)
          iterate 4 (refine ⟨ins_pl rfl (fun val val' h => by first | rfl | ((have h2 := h 2 (by decide)); (have h3 := h 3 (by decide)); (have h5 := h 5 (by decide)); (have h6 := h 6 (by decide)); first | (simp only [h2, h3, h5, h6]; done) | (simp only [h2, h3, h5, h6]; rfl))), ?_⟩)
          refine ⟨ins_mk rfl (fun _ => rfl), ?_⟩
          refine ⟨ins_pl rfl (fun val val' h => by first | rfl | ((have h2 := h 2 (by decide)); (have h3 := h 3 (by decide)); (have h5 := h 5 (by decide)); (have h6 := h 6 (by decide)); first | (simp only [h2, h3, h5, h6]; done) | (simp only [h2, h3, h5, h6]; rfl))), ?_⟩
          refine ⟨ins_mk rfl (fun _ => rfl), ?_⟩
          refine ⟨ins_pl rfl (fun val val' h => by first | rfl | ((have h2 := h 2 (by decide)); (have h3 := h 3 (by decide)); (have h5 := h 5 (by decide)); (have h6 := h 6 (by decide)); first | (simp only [h2, h3, h5, h6]; done) | (simp only [h2, h3, h5, h6]; rfl))), ?_⟩
          exact trivial
        case jns =>
          iterate 2 (refine ⟨j_pl (fun _ _ _ => rfl), ?_⟩)
          iterate 2 (refine ⟨j_mk rfl, ?_⟩)
          refine ⟨j_pl (fun _ _ _ => rfl), ?_⟩
          iterate 2 (refine ⟨j_mk rfl, ?_⟩)
          iterate 4 (refine ⟨j_pl (fun _ _ _ => rfl), ?_⟩)
          refine ⟨j_mk rfl, ?_⟩
          refine ⟨j_pl (fun _ _ _ => rfl), ?_⟩
          refine ⟨j_mk rfl, ?_⟩
          refine ⟨j_pl (fun _ _ _ => rfl), ?_⟩
          exact trivial
        case fin =>
          intro E val w10 hE H
          have e2 := hE 2 (by decide)
          have e3 := hE 3 (by decide)
          have e5 := hE 5 (by decide)
          have e6 := hE 6 (by decide)
          have e11 := hE 11 (by decide)
          have e13 := hE 13 (by decide)
          simp only [e2, e3, e5, e6, e11, e13, if_true] at H
          clear hE e2 e3 e5 e6 e11 e13 HF
          obtain ⟨g16, hv11, HX⟩ := ptr_ex (H.pick 4 rfl)
          clear H
          obtain ⟨hv6, HT⟩ := At.and (HX.pick 4 rfl)
          clear HX hv6
          generalize hv1 : tupc (val 6) = v1 at *
          have HY : At W (HoldC v1 X.1 :: Blk g16 (.cells (mgV X.2.1 nl nl nl nl) 39 (0, 0)) :: Blk g13 (.cells (mgV A nl nl nl nl) 39 (0, 0)) :: Blk g10 (.cells #[.int .i64 0, .int .i64 0, nl, .int .i64 0, nl, nl, nl] 44 (0, 0)) :: Blk g9 (.cells (hdV b vd2 ve2 vl2 vr2) 44 (0, 0)) :: Blk g8 (.cells (hdV a vd ve vl vr) 44 (0, 0)) :: Blk g5 (.cells #[.int .i64 kk, .int .i64 ka, .int .i64 kb, .int .i64 kc] 25 (0, 0)) :: P :: Arg W :: []) w10 := HT.sel 5 [0, 1]
          clear HT hv1
          simp [putAll, Act.put, hv11]
          clear hv11
          obtain ⟨Q, wc, hC, HF⟩ := core_mk HY
          have HC := Lib.hid hC
          obtain ⟨rs, hr1, hr2, hr3⟩ := holdc_at hC.self
          obtain ⟨ad1, cap1, rfl, -, -, hne⟩ := hr1.value
          have R1 := Lib.hid hr1
          have R3 := Lib.hid hr3
          have RN := Lib.hid (show 0 < X.1.length → ∃ b, ad1 = some b by rw [← hr2]; exact hne)
          have R2 := Lib.hid hr2
          have hsl : (Value.slice ad1 rs.length cap1) = .slice ad1 X.1.length cap1 := by rw [hr2]
          simp only [hsl]
          clear hC HY hr1 hr2 hr3 hne hsl
          go_wp2_with (first | ((with_reducible refine k_load (T := 44) ?_); refine st_row rfl _ _ rfl _ rfl a44 7 s44 HF 5 rfl rfl ?_; (intro K hK; go_simp)) | ((with_reducible refine k_load (T := 44) ?_); refine st_loads rfl _ _ rfl _ _ rfl a44 7 s44 HF 5 rfl ?_ ?_; (simp); (intro K hK; go_simp)) | ((with_reducible refine k_alloc (T := 44) ?_); refine st_alloc rfl _ rfl _ z44 _ rfl HF ?_; (clear HF; intro g18 w HF K hK; simp only [Value.cells] at HF; go_simp)) | ((with_reducible refine k_store (T := 44) ?_); refine st_put rfl _ _ _ rfl _ rfl _ rfl (hdV_one q1 q2 q3 q4) s44 HF 0 rfl rfl ?_; (clear HF; intro w HF K hK; simp only [List.set_cons_zero, List.set_cons_succ, Act.eval, Value.cells, Array.getD_eq_getD_getElem?, List.getElem?_toArray, List.getElem?_cons_succ, List.getElem?_cons_zero, Option.getD_some] at HF; go_simp)))
          have HG : At W (P :: Q :: Blk g8 (.cells (hdV a vd ve vl vr) 44 (0, 0)) :: Blk g18 (.cells (hdV a vd ve vl vr) 44 (0, 0)) :: Blk g16 (.cells (mgV X.2.1 nl nl nl nl) 39 (0, 0)) :: Blk g13 (.cells (mgV A nl nl nl nl) 39 (0, 0)) :: Blk g10 (.cells #[.int .i64 0, .int .i64 0, nl, .int .i64 0, nl, nl, nl] 44 (0, 0)) :: Blk g9 (.cells (hdV b vd2 ve2 vl2 vr2) 44 (0, 0)) :: Blk g5 (.cells #[.int .i64 kk, .int .i64 ka, .int .i64 kb, .int .i64 kc] 25 (0, 0)) :: Arg W :: []) _ := HF.sel 10 [8, 1, 6, 0, 2, 3, 4, 5, 7, 9]
          clear HF
          have TU := Lib.hid (show TakeUp a (X.1.map lcOf) by rw [← HXS.out]; exact take_up Am.out MF.out.fc)
          have HL := Lib.hid (show LayAll a (X.1.map lcOf) by rw [← HXS.out]; exact take_lay Am.out MO.out.cmds)
          go_loopw [19] (fun x wr => ∃ (i : Nat) (a1 : Hd) (vd1 ve1 vl1 vr1 : Value) (P1 : HProp), i ≤ X.1.length ∧ x = .int .i64 i ∧ May a1 ∧ a1.Ok ∧ a1.Sz ∧ LayAll a1 ((X.1.drop i).map lcOf) ∧ LayNew a1 ((X.1.drop i).map lcOf) ∧ layS a1 ((X.1.drop i).map lcOf) = layS a (X.1.map lcOf) ∧ PF (fun w' => S w' ∧ Go.Hp.Sub wc w') P1 (fun w' => HdAt w' a1 vd1 ve1 vl1 vr1 ∧ HdAt w' a vd ve vl vr) ∧ At W (P1 :: Q :: Blk g8 (.cells (hdV a1 vd1 ve1 vl1 vr1) 44 (0, 0)) :: Blk g18 (.cells (hdV a vd ve vl vr) 44 (0, 0)) :: Blk g16 (.cells (mgV X.2.1 nl nl nl nl) 39 (0, 0)) :: Blk g13 (.cells (mgV A nl nl nl nl) 39 (0, 0)) :: Blk g10 (.cells #[.int .i64 0, .int .i64 0, nl, .int .i64 0, nl, nl, nl] 44 (0, 0)) :: Blk g9 (.cells (hdV b vd2 ve2 vl2 vr2) 44 (0, 0)) :: Blk g5 (.cells #[.int .i64 kk, .int .i64 ka, .int .i64 kb, .int .i64 kc] 25 (0, 0)) :: Arg W :: []) wr) (fun x _ => X.1.length - (intOf x).toNat)
          case atStart => exact ⟨0, a, vd, ve, vl, vr, P, Nat.zero_le _, rfl, Am.out, AO.out, AS.out, HL.out, TU.out.new, rfl, fun _ _ _ hs HX => ⟨PP.out _ _ _ hs.1 HX, PP.out _ _ _ hs.1 HX⟩, HG⟩
          case round =>
            clear HG HL
            obtain ⟨i, a1, vd1, ve1, vl1, vr1, P1, hi, rfl, hm, ho, hs, hl, hn, hls, hP, HF⟩ := hrel
            have AM1 := Lib.hid hm
            have AO1 := Lib.hid ho
            have AS1 := Lib.hid hs
            have LA1 := Lib.hid hl
            have LN1 := Lib.hid hn
            have LS1 := Lib.hid hls
            have PM1 := Lib.hid hP
            have An1 := Lib.hid (show a1.row.length ≤ 140737488355328 by have := may_len hm; omega)
            clear hm ho hs hl hn hls hP
            have xl := XL.out
            by_cases hlt2 : i < X.1.length
            · have g2x : (i : Int) < X.1.length := by omega
              obtain ⟨b5, rfl⟩ := RN.out (by omega)
              obtain ⟨c, hc⟩ : ∃ c, X.1[i]? = some c := ⟨_, List.getElem?_eq_getElem hlt2⟩
              obtain ⟨rc, hrc⟩ : ∃ rc, rs[i]? = some rc := ⟨_, List.getElem?_eq_getElem (by rw [R2.out]; exact hlt2)⟩
              obtain ⟨va, ve', vl', rfl, ha, he, hl⟩ := R3.out i c rc hc hrc
              have hA := Lib.hid ha
              have hE2 := Lib.hid he
              have hL2 := Lib.hid hl
              obtain ⟨aa, ca, hva2, -⟩ := ha
              obtain ⟨⟨ae, ce, hve2, -⟩, -⟩ := he
              obtain ⟨⟨al, cl, hvl2, -⟩, -⟩ := hl
              subst hva2 hve2 hvl2
              have HcX := Lib.hid (fun j u (hj : (c.cells (.slice aa c.blk.length ca) (.slice ae c.ents.length ce) (.slice al c.lasts.length cl))[j]? = some u) => (show wc.cell? ((b5.add (i * 24)).add j) = some u by
                rw [Addr.add_add]
                exact R1.out.cell rfl hrc hj))
              have hmem := List.mem_of_getElem? hc
              have hcO : c.Ok := XK.out c hmem
              have hcF := Lib.hid (take_from M a c (by rw [HXS.out]; exact hmem))
              have hcI : c.In M := take_in (a := a) MO.out c (by rw [HXS.out]; exact hmem)
              obtain ⟨hlo, hln⟩ := lay_next hc LA1.out
              obtain ⟨hnn, hnx⟩ := lay_new_next hc LN1.out
              have HLN := Lib.hid hln
              have HNN := Lib.hid hnx
              have HNW := Lib.hid hnn
              have HE := Lib.hid ((lays_next hc).symm.trans LS1.out)
              have hm2 := laid_may AM1.out hlo.1 hlo.2
              have HM2 := Lib.hid hm2
              have HO2 := Lib.hid (laid_ok AM1.out AO1.out hcI hcO hlo)
              have HS2 := Lib.hid (laid_sz AS1.out hcO hcF.out MB.out hm2)
              clear hc hrc hmem hcO hcI hlo hln hm2 hnn hnx
              go_wp2_with (first | ((with_reducible refine k_load (T := 87) ?_); refine st_loadCells rfl _ _ rfl _ rfl a87 (c.cells (.slice aa c.blk.length ca) (.slice ae c.ents.length ce) (.slice al c.lasts.length cl)) (by rw [show (c.cells (.slice aa c.blk.length ca) (.slice ae c.ents.length ce) (.slice al c.lasts.length cl)).length = 24 from rfl]; exact s87) (fun j u hj => (HC.out.sub (HF.pick 1 rfl)) _ _ (HcX.out j u hj)) ?_; (intro K hK; go_simp)))
              refine (plain c ⟨_, _, _, rfl⟩ ⟨_, _, _, rfl⟩ ⟨_, _, _, rfl⟩ HF).mono ?_
              rintro e w13 ⟨rfl, H1⟩
              replace HF := H1
              clear H1
              rw [lcOf_cells]
              simp only [Cg.cells]
              go_wp2_with (first | ((with_reducible refine k_alloc (T := 71) ?_); refine st_alloc rfl _ rfl _ zz71 _ rfl HF ?_; (clear HF; intro g20 w HF K hK; simp only [Value.cells] at HF; go_simp)) | ((with_reducible refine k_store (T := 71) ?_); refine st_put rfl _ _ _ rfl _ rfl _ rfl ?_ s71 HF 0 rfl rfl ?_; (simp [Value.oneCell']); (clear HF; intro w HF K hK; simp only [List.set_cons_zero, List.set_cons_succ, Act.eval, Value.cells, Array.getD_eq_getD_getElem?, List.getElem?_toArray, List.getElem?_cons_succ, List.getElem?_cons_zero, Option.getD_some] at HF; go_simp)))
              by_cases h3 : c.kk = 3
              · have hkb : (c.kk == 3) = true := by simpa using h3
                obtain ⟨x0, x1, x2, x3, x4, x5, x6, x7, x8, x9, x10, x11, x12, hxa⟩ := at_cells AM1.out.rise AO1.out c.kb
                rw [HNW.out h3] at hxa
                have Hxa := Lib.hid (show atS a1 c.kb = [x0, x1, x2, x3, x4, x5, x6, x7, x8, x9, x10, x11, x12, .bool false] from hxa)
                have hfd := fun w => inst_dec x0 x1 x2 x3 x4 x5 x6 x7 x8 x9 x10 x11 x12 false w
                clear hxa h3
                apply wp_region_eff [] (fun i => (#[[], [], [], [], [], [], [], [], [], [], [], [], [], [], [], [], [], [], [], [], [], []] : Array (List Nat)).getD i []) (fun val i => (([_, _, _, _, .bool true, _, _, _, _, .agg #[x0, x1, x2, x3, x4, x5, x6, x7, x8, x9, x10, x11, x12, .bool false], _, _, .bool false, undef, undef, undef, undef, undef, undef, undef, undef, _]) : List Value).toArray.getD i undef) (fun E val => At W (Blk g20 (.cells #[.int .i64 c.kk, .int .i64 c.ka, .int .i64 c.kb, .int .i64 c.kc, .int .i64 c.sn, .int .i64 c.sc, .slice aa c.blk.length ca, .int .i64 0, .int .i64 0, .int .i64 0, .int .i64 0, .int .i64 c.cmd.k, .int .i64 c.cmd.cl, .int .i64 c.cmd.op, .string c.cmd.nm, .int .i64 c.cmd.f1, .int .i64 c.cmd.f2, .int .i64 c.cmd.n1, .int .i64 c.cmd.n2, .int .i64 c.cmd.sz, .bool c.dec, .int .i64 c.upto, .slice ae c.ents.length ce, .slice al c.lasts.length cl] 71 (0, 0)) :: P1 :: Q :: Blk g8 (.cells (hdV a1 vd1 ve1 vl1 vr1) 44 (0, 0)) :: Blk g18 (.cells (hdV a vd ve vl vr) 44 (0, 0)) :: Blk g16 (.cells (mgV X.2.1 nl nl nl nl) 39 (0, 0)) :: Blk g13 (.cells (mgV A nl nl nl nl) 39 (0, 0)) :: Blk g10 (.cells #[.int .i64 0, .int .i64 0, nl, .int .i64 0, nl, nl, nl] 44 (0, 0)) :: Blk g9 (.cells (hdV b vd2 ve2 vl2 vr2) 44 (0, 0)) :: Blk g5 (.cells #[.int .i64 kk, .int .i64 ka, .int .i64 kb, .int .i64 kc] 25 (0, 0)) :: Arg W :: [])) (by kernel_rfl) (by kernel_rfl) (by kernel_rfl) (by kernel_rfl) (HF)
                case step =>
                  iterate 13 (refine ⟨eff_pl rfl (fun _ => by rfl) fun E val hn T ds w K H hk ho hK => ?_, ?_⟩; rotate_left)
                  iterate 8 (refine ⟨eff_no rfl (fun _ => by rfl) (fun _ => rfl), ?_⟩)
                  refine ⟨eff_pl rfl (fun _ => by rfl) fun E val hn T ds w K H hk ho hK => ?_, ?_⟩; rotate_left
                  exact trivial
                  · have o20 := ho 20 (by kernel_rfl); clear ho; simp [know, dstAt, Region.binds] at hk o20; go_simp; exact hK _ H
                  · clear ho; simp [know, dstAt, Region.binds] at hk; go_simp; exact hK _ H
                  · clear ho; simp [know, dstAt, Region.binds] at hk
                    first | (refine op_loadT (v := .int .i64 c.kk) rfl hk (by kernel_rfl) H 0 rfl rfl ?_; exact hK _ H) | (refine op_loadT (v := .int .i64 c.kb) rfl hk (by kernel_rfl) H 0 rfl rfl ?_; exact hK _ H)
                  · clear ho; simp [know, dstAt, Region.binds] at hk; go_simp; exact hK _ H
                  · clear ho; simp [know, dstAt, Region.binds] at hk; go_simp; exact hK _ H
                  · have o8 := ho 8 (by kernel_rfl); clear ho; simp [know, dstAt, Region.binds] at hk o8
                    (refine op_rowT (T := 44) rfl o8 a44 s44 H 3 rfl rfl ?_; exact hK _ H)
                  · have o20 := ho 20 (by kernel_rfl); clear ho; simp [know, dstAt, Region.binds] at hk o20; go_simp; exact hK _ H
                  · clear ho; simp [know, dstAt, Region.binds] at hk; go_simp; exact hK _ H
                  · clear ho; simp [know, dstAt, Region.binds] at hk
                    first | (refine op_loadT (v := .int .i64 c.kk) rfl hk.1 (by kernel_rfl) H 0 rfl rfl ?_; exact hK _ H) | (refine op_loadT (v := .int .i64 c.kb) rfl hk.1 (by kernel_rfl) H 0 rfl rfl ?_; exact hK _ H)
                  · clear ho; simp [know, dstAt, Region.binds] at hk
                    (go_simp; refine (rat AO1.out An1.out (PM1.out _ _ _ ⟨(SE.out _ (H.ext 10 rfl)), HC.out.sub (H.pick 2 rfl)⟩ (H.pick 1 rfl)).1.r c.kb H).mono ?_; rintro e w' ⟨rfl, H⟩; rw [Hxa.out]; exact hK _ H)
                  · clear ho; simp [know, dstAt, Region.binds] at hk; go_simp; exact hK _ H
                  · clear ho; simp [know, dstAt, Region.binds] at hk; go_simp; exact hK _ H
                  · clear ho; simp [know, dstAt, Region.binds] at hk; go_simp; exact hK _ H
                  · clear ho; simp [know, dstAt, Region.binds] at hk; go_simp; exact hK _ H
                case ins =>
                  iterate 22 (refine ⟨ins_pl rfl (fun _ _ _ => rfl), ?_⟩)
                  exact trivial
                case jns =>
                  iterate 22 (refine ⟨j_pl (fun _ _ _ => rfl), ?_⟩)
                  exact trivial
                case fin =>
                  intro E val w14 hE H
                  clear HF hE
                  have HF := H
                  clear H
                  simp [putAll, Act.put]
                  go_wp2_with (first | ((with_reducible refine k_load (T := 44) ?_); refine st_row rfl _ _ rfl _ rfl a44 7 s44 HF 3 rfl rfl ?_; (intro K hK; go_simp)) | ((with_reducible refine k_load (T := 44) ?_); refine st_loads rfl _ _ rfl _ _ rfl a44 7 s44 HF 3 rfl ?_ ?_; (simp); (intro K hK; go_simp)) | ((with_reducible refine k_load (T := 71) ?_); refine st_row rfl _ _ rfl _ rfl a71 24 s71 HF 0 rfl rfl ?_; (intro K hK; go_simp)) | ((with_reducible refine k_load (T := 71) ?_); refine st_loads rfl _ _ rfl _ _ rfl a71 24 s71 HF 0 rfl ?_ ?_; (simp); (intro K hK; go_simp)))
                  have hcall := rlaid (h := a1) (c := lcOf c) AO1.out (by have := may_len AM1.out; omega) (PM1.out _ _ _ ⟨(SE.out _ (HF.ext 10 rfl)), HC.out.sub (HF.pick 2 rfl)⟩ (HF.pick 1 rfl)).1 (hA.out.sub (HC.out.sub (HF.pick 2 rfl))) (hE2.out.sub (HC.out.sub (HF.pick 2 rfl))) (hL2.out.sub (HC.out.sub (HF.pick 2 rfl))) (HF.pick 1 rfl)
                  rw [lcOf_cells] at hcall
                  simp only [Cg.cells] at hcall
                  refine hcall.mono ?_
                  clear hcall
                  rintro e w15 hpost
                  obtain ⟨vd3, ve3, vl3, vr3, P3, rfl, hP3, H3⟩ := laid_pf PM1.out (fun w' hs => hA.out.sub hs.2) (fun w' hs => hE2.out.sub hs.2) (fun w' hs => hL2.out.sub hs.2) HO2.out hpost
                  have HP3 := Lib.hid hP3
                  have f1 := (hP3 _ _ _ ⟨(SE.out _ (H3.ext 10 rfl)), HC.out.sub (H3.pick 2 rfl)⟩ H3).1
                  have q1 := row_one f1.d
                  have q2 := row_one f1.e.1
                  have q3 := row_one f1.l.1
                  have q4 := row_one f1.r.1
                  replace HF : At W (P3 :: Q :: Blk g8 (.cells (hdV a1 vd1 ve1 vl1 vr1) 44 (0, 0)) :: Blk g18 (.cells (hdV a vd ve vl vr) 44 (0, 0)) :: Blk g16 (.cells (mgV X.2.1 nl nl nl nl) 39 (0, 0)) :: Blk g13 (.cells (mgV A nl nl nl nl) 39 (0, 0)) :: Blk g10 (.cells #[.int .i64 0, .int .i64 0, nl, .int .i64 0, nl, nl, nl] 44 (0, 0)) :: Blk g9 (.cells (hdV b vd2 ve2 vl2 vr2) 44 (0, 0)) :: Blk g5 (.cells #[.int .i64 kk, .int .i64 ka, .int .i64 kb, .int .i64 kc] 25 (0, 0)) :: Arg W :: []) w15 := H3.sel 2 [0]
                  clear H3 hP3 hpost f1
                  go_wp2_with (first | ((with_reducible refine k_store (T := 44) ?_); refine st_put rfl _ _ _ rfl _ rfl _ rfl (hdV_one q1 q2 q3 q4) s44 HF 2 rfl rfl ?_; (clear HF; intro w HF K hK; simp only [List.set_cons_zero, List.set_cons_succ, Act.eval, Value.cells, Array.getD_eq_getD_getElem?, List.getElem?_toArray, List.getElem?_cons_succ, List.getElem?_cons_zero, Option.getD_some] at HF; go_simp)))
                  go_roundw
                  case rel => exact ⟨i + 1, laidS a1 (lcOf c), vd3, ve3, vl3, vr3, P3, by omega, by go_num, HM2.out, HO2.out, HS2.out, HLN.out, HNN.out, HE.out, HP3.out, HF⟩
                  case measure => simp [intOf]; omega
              · have hkb : (c.kk == 3) = false := by simpa using h3
                clear h3
                apply wp_region_eff [] (fun i => (#[[], [], [], [], [], [], [], [], [], [], [], [], [], [], [], [], [], [], [], [], [], []] : Array (List Nat)).getD i []) (fun val i => ((_ :: _ :: _ :: _ :: .bool false :: undef :: undef :: undef :: undef :: undef :: undef :: _ :: .bool false :: undef :: undef :: undef :: undef :: undef :: undef :: undef :: undef :: _ :: []) : List Value).toArray.getD i undef) (fun E val => At W (Blk g20 (.cells #[.int .i64 c.kk, .int .i64 c.ka, .int .i64 c.kb, .int .i64 c.kc, .int .i64 c.sn, .int .i64 c.sc, .slice aa c.blk.length ca, .int .i64 0, .int .i64 0, .int .i64 0, .int .i64 0, .int .i64 c.cmd.k, .int .i64 c.cmd.cl, .int .i64 c.cmd.op, .string c.cmd.nm, .int .i64 c.cmd.f1, .int .i64 c.cmd.f2, .int .i64 c.cmd.n1, .int .i64 c.cmd.n2, .int .i64 c.cmd.sz, .bool c.dec, .int .i64 c.upto, .slice ae c.ents.length ce, .slice al c.lasts.length cl] 71 (0, 0)) :: P1 :: Q :: Blk g8 (.cells (hdV a1 vd1 ve1 vl1 vr1) 44 (0, 0)) :: Blk g18 (.cells (hdV a vd ve vl vr) 44 (0, 0)) :: Blk g16 (.cells (mgV X.2.1 nl nl nl nl) 39 (0, 0)) :: Blk g13 (.cells (mgV A nl nl nl nl) 39 (0, 0)) :: Blk g10 (.cells #[.int .i64 0, .int .i64 0, nl, .int .i64 0, nl, nl, nl] 44 (0, 0)) :: Blk g9 (.cells (hdV b vd2 ve2 vl2 vr2) 44 (0, 0)) :: Blk g5 (.cells #[.int .i64 kk, .int .i64 ka, .int .i64 kb, .int .i64 kc] 25 (0, 0)) :: Arg W :: [])) (by kernel_rfl) (by kernel_rfl) (by kernel_rfl) (by kernel_rfl) (HF)
                case step =>
                  iterate 5 (refine ⟨eff_pl rfl (fun _ => by rfl) fun E val hn T ds w K H hk ho hK => ?_, ?_⟩; rotate_left)
                  iterate 6 (refine ⟨eff_no rfl (fun _ => by rfl) (fun _ => rfl), ?_⟩)
                  iterate 2 (refine ⟨eff_pl rfl (fun _ => by rfl) fun E val hn T ds w K H hk ho hK => ?_, ?_⟩; rotate_left)
                  iterate 8 (refine ⟨eff_no rfl (fun _ => by rfl) (fun _ => rfl), ?_⟩)
                  refine ⟨eff_pl rfl (fun _ => by rfl) fun E val hn T ds w K H hk ho hK => ?_, ?_⟩; rotate_left
                  exact trivial
                  · have o20 := ho 20 (by kernel_rfl); clear ho; simp [know, dstAt, Region.binds] at hk o20; go_simp; exact hK _ H
                  · clear ho; simp [know, dstAt, Region.binds] at hk; go_simp; exact hK _ H
                  · clear ho; simp [know, dstAt, Region.binds] at hk
                    first | (refine op_loadT (v := .int .i64 c.kk) rfl hk (by kernel_rfl) H 0 rfl rfl ?_; exact hK _ H) | (refine op_loadT (v := .int .i64 c.kb) rfl hk (by kernel_rfl) H 0 rfl rfl ?_; exact hK _ H)
                  · clear ho; simp [know, dstAt, Region.binds] at hk; go_simp; exact hK _ H
                  · clear ho; simp [know, dstAt, Region.binds] at hk; go_simp; exact hK _ H
                  · clear ho; simp [know, dstAt, Region.binds] at hk; go_simp; exact hK _ H
                  · clear ho; simp [know, dstAt, Region.binds] at hk; go_simp; exact hK _ H
                  · clear ho; simp [know, dstAt, Region.binds] at hk; go_simp; exact hK _ H
                case ins =>
                  iterate 22 (refine ⟨ins_pl rfl (fun _ _ _ => rfl), ?_⟩)
                  exact trivial
                case jns =>
                  iterate 22 (refine ⟨j_pl (fun _ _ _ => rfl), ?_⟩)
                  exact trivial
                case fin =>
                  intro E val w14 hE H
                  clear HF hE
                  have HF := H
                  clear H
                  simp [putAll, Act.put]
                  go_wp2_with (first | ((with_reducible refine k_load (T := 44) ?_); refine st_row rfl _ _ rfl _ rfl a44 7 s44 HF 3 rfl rfl ?_; (intro K hK; go_simp)) | ((with_reducible refine k_load (T := 44) ?_); refine st_loads rfl _ _ rfl _ _ rfl a44 7 s44 HF 3 rfl ?_ ?_; (simp); (intro K hK; go_simp)) | ((with_reducible refine k_load (T := 71) ?_); refine st_row rfl _ _ rfl _ rfl a71 24 s71 HF 0 rfl rfl ?_; (intro K hK; go_simp)) | ((with_reducible refine k_load (T := 71) ?_); refine st_loads rfl _ _ rfl _ _ rfl a71 24 s71 HF 0 rfl ?_ ?_; (simp); (intro K hK; go_simp)))
                  have hcall := rlaid (h := a1) (c := lcOf c) AO1.out (by have := may_len AM1.out; omega) (PM1.out _ _ _ ⟨(SE.out _ (HF.ext 10 rfl)), HC.out.sub (HF.pick 2 rfl)⟩ (HF.pick 1 rfl)).1 (hA.out.sub (HC.out.sub (HF.pick 2 rfl))) (hE2.out.sub (HC.out.sub (HF.pick 2 rfl))) (hL2.out.sub (HC.out.sub (HF.pick 2 rfl))) (HF.pick 1 rfl)
                  rw [lcOf_cells] at hcall
                  simp only [Cg.cells] at hcall
                  refine hcall.mono ?_
                  clear hcall
                  rintro e w15 hpost
                  obtain ⟨vd3, ve3, vl3, vr3, P3, rfl, hP3, H3⟩ := laid_pf PM1.out (fun w' hs => hA.out.sub hs.2) (fun w' hs => hE2.out.sub hs.2) (fun w' hs => hL2.out.sub hs.2) HO2.out hpost
                  have HP3 := Lib.hid hP3
                  have f1 := (hP3 _ _ _ ⟨(SE.out _ (H3.ext 10 rfl)), HC.out.sub (H3.pick 2 rfl)⟩ H3).1
                  have q1 := row_one f1.d
                  have q2 := row_one f1.e.1
                  have q3 := row_one f1.l.1
                  have q4 := row_one f1.r.1
                  replace HF : At W (P3 :: Q :: Blk g8 (.cells (hdV a1 vd1 ve1 vl1 vr1) 44 (0, 0)) :: Blk g18 (.cells (hdV a vd ve vl vr) 44 (0, 0)) :: Blk g16 (.cells (mgV X.2.1 nl nl nl nl) 39 (0, 0)) :: Blk g13 (.cells (mgV A nl nl nl nl) 39 (0, 0)) :: Blk g10 (.cells #[.int .i64 0, .int .i64 0, nl, .int .i64 0, nl, nl, nl] 44 (0, 0)) :: Blk g9 (.cells (hdV b vd2 ve2 vl2 vr2) 44 (0, 0)) :: Blk g5 (.cells #[.int .i64 kk, .int .i64 ka, .int .i64 kb, .int .i64 kc] 25 (0, 0)) :: Arg W :: []) w15 := H3.sel 2 [0]
                  clear H3 hP3 hpost f1
                  go_wp2_with (first | ((with_reducible refine k_store (T := 44) ?_); refine st_put rfl _ _ _ rfl _ rfl _ rfl (hdV_one q1 q2 q3 q4) s44 HF 2 rfl rfl ?_; (clear HF; intro w HF K hK; simp only [List.set_cons_zero, List.set_cons_succ, Act.eval, Value.cells, Array.getD_eq_getD_getElem?, List.getElem?_toArray, List.getElem?_cons_succ, List.getElem?_cons_zero, Option.getD_some] at HF; go_simp)))
                  go_roundw
                  case rel => exact ⟨i + 1, laidS a1 (lcOf c), vd3, ve3, vl3, vr3, P3, by omega, by go_num, HM2.out, HO2.out, HS2.out, HLN.out, HNN.out, HE.out, HP3.out, HF⟩
                  case measure => simp [intOf]; omega
            · have g2x : ¬ (i : Int) < X.1.length := by omega
              have he1 : a1 = layS a (X.1.map lcOf) := by
                have := LS1.out
                rw [List.drop_eq_nil_of_le (by omega)] at this
                exact this
              have HE1 := Lib.hid he1
              have HLS := Lib.hid (show lessS a1.sn a1.sc a.sn a.sc = false by rw [he1]; exact TU.out.block)
              have hed : ¬ edgeS a1 < edgeS a := by rw [he1]; have := TU.out.edge; omega
              clear he1
              go_wp2_with fail
              apply wp_region_eff [] (fun i => (#[[], [], [], [], [], [], [], [], [], [], [], [], [], []] : Array (List Nat)).getD i []) (fun val i => ((_ :: _ :: _ :: _ :: _ :: _ :: .bool false :: .bool false :: _ :: _ :: _ :: _ :: _ :: _ :: []) : List Value).toArray.getD i undef) (fun E val => At W (P1 :: Q :: Blk g8 (.cells (hdV a1 vd1 ve1 vl1 vr1) 44 (0, 0)) :: Blk g18 (.cells (hdV a vd ve vl vr) 44 (0, 0)) :: Blk g16 (.cells (mgV X.2.1 nl nl nl nl) 39 (0, 0)) :: Blk g13 (.cells (mgV A nl nl nl nl) 39 (0, 0)) :: Blk g10 (.cells #[.int .i64 0, .int .i64 0, nl, .int .i64 0, nl, nl, nl] 44 (0, 0)) :: Blk g9 (.cells (hdV b vd2 ve2 vl2 vr2) 44 (0, 0)) :: Blk g5 (.cells #[.int .i64 kk, .int .i64 ka, .int .i64 kb, .int .i64 kc] 25 (0, 0)) :: Arg W :: [])) (by kernel_rfl) (by kernel_rfl) (by kernel_rfl) (by kernel_rfl) (HF)
              case step =>
                iterate 14 (refine ⟨eff_pl rfl (fun _ => by rfl) fun E val hn T ds w K H hk ho hK => ?_, ?_⟩; rotate_left)
                exact trivial
                · have o8 := ho 8 (by kernel_rfl); clear ho; simp [know, dstAt, Region.binds] at hk o8; go_simp; exact hK _ H
                · clear ho; simp [know, dstAt, Region.binds] at hk; go_simp; exact hK _ H
                · clear ho; simp [know, dstAt, Region.binds] at hk
                  first | (refine op_loadsT (T := 27) (n := 2) (vs := [.int .i64 a1.sn, .int .i64 a1.sc]) rfl hk a27 s27 H 2 rfl rfl rfl ?_; exact hK _ H) | (refine op_loadsT (T := 27) (n := 2) (vs := [.int .i64 a.sn, .int .i64 a.sc]) rfl hk a27 s27 H 3 rfl rfl rfl ?_; exact hK _ H)
                · have o18 := ho 18 (by kernel_rfl); clear ho; simp [know, dstAt, Region.binds] at hk o18; go_simp; exact hK _ H
                · clear ho; simp [know, dstAt, Region.binds] at hk; go_simp; exact hK _ H
                · clear ho; simp [know, dstAt, Region.binds] at hk
                  first | (refine op_loadsT (T := 27) (n := 2) (vs := [.int .i64 a1.sn, .int .i64 a1.sc]) rfl hk a27 s27 H 2 rfl rfl rfl ?_; exact hK _ H) | (refine op_loadsT (T := 27) (n := 2) (vs := [.int .i64 a.sn, .int .i64 a.sc]) rfl hk a27 s27 H 3 rfl rfl rfl ?_; exact hK _ H)
                · clear ho; simp [know, dstAt, Region.binds] at hk
                  (go_simp; refine (belowW H a1.sn a1.sc a.sn a.sc).mono ?_; rintro e w' ⟨rfl, H⟩; rw [HLS.out]; exact hK _ H)
                · clear ho; simp [know, dstAt, Region.binds] at hk; go_simp; exact hK _ H
                · have o8 := ho 8 (by kernel_rfl); clear ho; simp [know, dstAt, Region.binds] at hk o8
                  (refine op_rowT (T := 44) rfl o8 a44 s44 H 2 rfl rfl ?_; exact hK _ H)
                · clear ho; simp [know, dstAt, Region.binds] at hk
                  (go_simp; refine (edgeL AM1.out AO1.out An1.out (PM1.out _ _ _ ⟨(SE.out _ (H.ext 9 rfl)), HC.out.sub (H.pick 1 rfl)⟩ H).1 H).mono ?_; rintro e w' ⟨rfl, H⟩; exact hK _ H)
                · have o18 := ho 18 (by kernel_rfl); clear ho; simp [know, dstAt, Region.binds] at hk o18
                  (refine op_rowT (T := 44) rfl o18 a44 s44 H 3 rfl rfl ?_; exact hK _ H)
                · clear ho; simp [know, dstAt, Region.binds] at hk
                  (go_simp; refine (edgeL Am.out AO.out An.out (PM1.out _ _ _ ⟨(SE.out _ (H.ext 9 rfl)), HC.out.sub (H.pick 1 rfl)⟩ H).2 H).mono ?_; rintro e w' ⟨rfl, H⟩; exact hK _ H)
                · clear ho; simp [know, dstAt, Region.binds] at hk; go_simp; exact hK _ H
                · clear ho; simp [know, dstAt, Region.binds] at hk; go_simp; exact hK _ H
              case ins =>
                iterate 14 (refine ⟨ins_pl rfl (fun _ _ _ => rfl), ?_⟩)
                exact trivial
              case jns =>
                iterate 14 (refine ⟨j_pl (fun _ _ _ => rfl), ?_⟩)
                exact trivial
              case fin =>
                intro E val w14 hE H
                clear HF hE
                have HF := H
                clear H
                simp [putAll, Act.put]
                have f1 := (PM1.out _ _ _ ⟨(SE.out _ (HF.ext 9 rfl)), HC.out.sub (HF.pick 1 rfl)⟩ HF).1
                have r1 := row_one f1.d
                have r2 := row_one f1.e.1
                have r3 := row_one f1.l.1
                have r4 := row_one f1.r.1
                clear f1
                have hstep := HR.out
                rw [show 299 - r = (298 - r) + 1 by omega] at hstep
                unfold rowS at hstep
                rw [HM.out, HXS.out, ← HE1.out] at hstep
                have HPQ := Lib.hid (show PF S (Stars [P1, Q]) (fun w => HdAt w a1 vd1 ve1 vl1 vr1) from fun _ _ _ hs HX => (PM1.out _ _ _ ⟨hs, HC.out.sub ((At.flat HX : At _ (P1 :: Q :: _) _).pick 1 rfl)⟩ (At.flat HX : At _ (P1 :: Q :: _) _)).1)
                cases hmore : X.2.2 with
                | false =>
                  rw [hmore] at hstep
                  have HST := Lib.hid (show res = (a1, r + 1, true) by rw [← hstep, if_neg Bool.false_ne_true, show 299 - (298 - r) = r + 1 by omega])
                  clear hstep hmore
                  go_wp2_with (first | ((with_reducible refine k_load (T := 44) ?_); refine st_row rfl _ _ rfl _ rfl a44 7 s44 HF 2 rfl rfl ?_; (intro K hK; go_simp)) | ((with_reducible refine k_load (T := 44) ?_); refine st_loads rfl _ _ rfl _ _ rfl a44 7 s44 HF 2 rfl ?_ ?_; (simp); (intro K hK; go_simp)) | ((with_reducible refine k_store (T := 44) ?_); refine st_put rfl _ _ _ rfl _ rfl _ rfl (hdV_one r1 r2 r3 r4) s44 HF 6 rfl rfl ?_; (clear HF; intro w HF K hK; simp only [List.set_cons_zero, List.set_cons_succ, Act.eval, Value.cells, Array.getD_eq_getD_getElem?, List.getElem?_toArray, List.getElem?_cons_succ, List.getElem?_cons_zero, Option.getD_some] at HF; go_simp)))
                  refine bodyPost_ret (results_cell_tmps rfl rfl a44 s44 (HF.get 6 rfl) rfl) rfl ?_
                  rw [HST.out]
                  exact ⟨vd1, ve1, vl1, vr1, Stars [P1, Q], rfl, HPQ.out, AO1.out, AS1.out, (show At W ([Stars [P1, Q]] ++ [Arg W]) _ from At.fold (M := [_, _]) (HF.sel 10 [0, 1, 9])).lift H0.out⟩
                | true =>
                  rw [hmore] at hstep
                  have HST := Lib.hid (show rowS (299 - (r + 1)) X.2.1 a1 b = res by rw [show 299 - (r + 1) = 298 - r by omega, ← hstep, if_pos rfl])
                  clear hstep hmore
                  go_wp2_with (first | ((with_reducible refine k_load (T := 39) ?_); refine st_row rfl _ _ rfl _ rfl a39 30 s39 HF 4 rfl rfl ?_; (intro K hK; go_simp)) | ((with_reducible refine k_load (T := 39) ?_); refine st_loads rfl _ _ rfl _ _ rfl a39 30 s39 HF 4 rfl ?_ ?_; (simp); (intro K hK; go_simp)) | ((with_reducible refine k_store (T := 39) ?_); refine st_put rfl _ _ _ rfl _ rfl _ rfl ?_ s39 HF 5 rfl rfl ?_; (simp [mgV, nl, Value.oneCell']); (clear HF; intro w HF K hK; simp only [List.set_cons_zero, List.set_cons_succ, Act.eval, Value.cells, Array.getD_eq_getD_getElem?, List.getElem?_toArray, List.getElem?_cons_succ, List.getElem?_cons_zero, Option.getD_some] at HF; go_simp)))
                  go_roundw
                  case rel =>
                    have hOK := take_okM (a := a) MO.out MF.out.bc
                    rw [HXS.out] at hOK
                    exact ⟨r + 1, a1, vd1, ve1, vl1, vr1, X.2.1, Stars [P1, Q], by omega, by go_num, AM1.out, AO1.out, AS1.out, XB.out, hOK, HST.out, HPQ.out, (At.fold (M := [_, _]) (HF.sel 10 [0, 1, 5, 6, 7, 2, 8, 9])).sel 7 [1, 2, 3, 4, 5, 0, 6]⟩
                  case measure => simp [intOf]; omega
      · have hr9 : r = 299 := by omega
        subst hr9
        have hRs := Lib.hid (show res = (a, 300, false) from HR.out.symm)
        have f1 := Lib.hid AO.out
        go_wp2_with (first | ((with_reducible refine k_load (T := 44) ?_); refine st_row rfl _ _ rfl _ rfl a44 7 s44 HF 3 rfl rfl ?_; (intro K hK; go_simp)) | ((with_reducible refine k_load (T := 44) ?_); refine st_loads rfl _ _ rfl _ _ rfl a44 7 s44 HF 3 rfl ?_ ?_; (simp); (intro K hK; go_simp)) | ((with_reducible refine k_store (T := 44) ?_); refine st_put rfl _ _ _ rfl _ rfl _ rfl (hdV_one q1 q2 q3 q4) s44 HF 1 rfl rfl ?_; (clear HF; intro w HF K hK; simp only [List.set_cons_zero, List.set_cons_succ, Act.eval, Value.cells, Array.getD_eq_getD_getElem?, List.getElem?_toArray, List.getElem?_cons_succ, List.getElem?_cons_zero, Option.getD_some] at HF; go_simp)))
        refine bodyPost_ret (results_cell_tmps rfl rfl a44 s44 (HF.get 1 rfl) rfl) rfl ?_
        rw [hRs.out]
        exact ⟨vd, ve, vl, vr, P, rfl, PP.out, AO.out, AS.out, (show At W ([P] ++ [Arg W]) _ from HF.sel 7 [5, 6]).lift H0.out⟩
end
end Md
end Go.Proofs.Ytjobojgmadjmfaa
end MgMdEnR
section MgMdEnP
namespace Go.Proofs.Ytjobojgmadjmfaa
open Go.Hp Go.RowKit Go.ChangeShapes Go.Deep
set_option linter.unusedVariables false
set_option linter.unusedSimpArgs false
set_option maxRecDepth 100000
namespace Md

theorem sh3 : shT Try.prog 9 3 = some [.ck (.int .i64)] := by kernel_rfl
theorem sh73 : shT Try.prog 9 73 = some [.recs [.int .i64] 8] := by kernel_rfl

section
variable {H : Type} {enc : TypeId × Value → H} {W : World}

theorem arg_int {base : Nat} {v : Value} {d : DataW H} {p : List MemPlace} (hv : Value.okWide Try.prog W .any base 3 v) (h : DataW.Trod enc Try.prog W 0 (fun _ => true) true 3 v d p) (hw : ((d.weights Try.prog 3).all (· ≤ reachBytes)) = true) :
    ∃ n, v = .int .i64 n ∧ In64 n := by
  obtain ⟨n, rfl, _, _, _⟩ := open_int Try.underlying3 hv h
  obtain ⟨fuel, hf⟩ := h
  have := sh_trod (B := reachBytes) 9 _ _ sh3 _ _ _ hf hw
  obtain ⟨⟨m, he, hq⟩, _⟩ := this
  cases he
  exact ⟨n, rfl, hq rfl⟩

theorem ints_of : ∀ {rs : List (List Value)}, (∀ r ∈ rs, FitsR [.int .i64] r) → ∃ l : List Int, rs.flatten = l.map (Value.int .i64) ∧ rs.length = l.length ∧ ∀ x ∈ l, In64 x
  | [], _ => ⟨[], rfl, rfl, fun x hx => absurd hx List.not_mem_nil⟩
  | r :: rs, h => by
    obtain ⟨l, h1, h2, h3⟩ := ints_of (rs := rs) fun r hr => h r (by simp [hr])
    have h0 := h r (by simp)
    match r, h0 with
    | [_], ⟨⟨n, rfl, hn⟩, _⟩ =>
      exact ⟨n :: l, by simp [h1], by simp [h2], fun x hx => by
        rcases List.mem_cons.1 hx with rfl | hx
        · exact hn rfl
        · exact h3 x hx⟩

/-- A row of whole numbers, handed in. -/
def IntsArg (W : World) (v : Value) (l : List Int) : Prop := RowAt W v l.length (l.map (Value.int .i64)) ∧ (∀ x ∈ l, In64 x) ∧ l.length * 8 ≤ 140737488355328

theorem arg_ints {base : Nat} {v : Value} {d : DataW H} {p : List MemPlace} (hv : Value.okWide Try.prog W .any base 73 v) (h : DataW.Trod enc Try.prog W 0 (fun _ => true) true 73 v d p) (hw : ((d.weights Try.prog 73).all (· ≤ reachBytes)) = true) :
    ∃ l, IntsArg W v l := by
  obtain ⟨sa, sl, sc, rfl⟩ := Go.WideShapes.okWide_slice Try.underlying73 hv
  obtain ⟨fuel, hf⟩ := h
  have := sh_trod (B := reachBytes) 9 _ _ sh73 _ _ _ hf hw
  obtain ⟨⟨rs, h1, h2, h3⟩, _⟩ := this
  obtain ⟨l, q1, q2, q3⟩ := ints_of h2
  refine ⟨l, ?_, q3, by rw [← q2]; exact reach_le h3⟩
  have := h1.1
  rw [q1, q2] at this
  exact this
end

section
variable {P : Program} {ops : Array Oper} {Q : Exit → Act → World → Prop} {a : Act} {w : World} {rest : List Oper} {o : Oper}

/-- A whole block is read, out of what was there. -/
theorem st_rowW (hw : Region.wanted o (yielded ops a.tmps) = true) (T : TypeId) (x : Operand) (ho : o.op = .load T x) (g : Nat) (hx : a.eval x = .pointer (some ⟨g, 0, none⟩))
    (hT : aggT P T = true) (n : Nat) (hn : sizeT P T = some n) {c : Array Value} {t : TypeId} {fr : Nat × Nat} (hg : w.heap[g]? = some (.cells c t fr)) (hc : c.size = n)
    (h : ∀ K : Act → World → Prop, (∀ a w, wpList P ops Q rest a w → K a w) → K (a.put o.dst (.agg c)) w) : wpList P ops Q (o :: rest) a w := by
  refine st_value hw (v := .agg c) (w' := w) ?_ (h _ fun _ _ h => h)
  have e : c.extract 0 (0 + n) = c := by rw [Nat.zero_add, ← hc, Array.extract_size]
  have hr := run_loadVar_agg (P := P) (off := 0) hT hn hg (by omega)
  rw [e] at hr
  simp [execOp, ho, hx, Instr.loadAt, Instr.sureAddr, hr]
end

theorem hdAt_hold {w0 w : World} {L : List HProp} {h : Hd} {ve vr : Value} {u top : Int} (hp : PlainH u top h) (hd : h.data = []) (H : At w0 (Hold ve h.ents.length h.ents.flatten :: Hold vr h.row.length (h.row.map Pl.cells).flatten :: L) w) : HdAt w h nl ve nl vr :=
  hdAt_of hp hd (by rw [← hp.e]; exact hold_at H) (hold_at H.drop)

theorem plain_top {u top top' : Int} {h : Hd} (hp : PlainH u top h) (ht : top ≤ top') : PlainH u top' h :=
  ⟨hp.may, hp.ok, hp.up, hp.e, hp.l, fun p hq => ⟨(hp.r p hq).1, Int.le_trans (hp.r p hq).2 ht⟩⟩

theorem plain_sz {u top : Int} {h : Hd} (hp : PlainH u top h) (hd : h.data.length ≤ 1000) : h.Sz := by
  have := may_len hp.may
  refine ⟨by omega, ?_, ?_, by omega⟩
  · rw [hp.e]
    unfold trimE
    split <;> simp
  · rw [hp.l]; simp
end Md
end Go.Proofs.Ytjobojgmadjmfaa
end MgMdEnP
