/-
  The reference's Top.
-/
import Derived.Test.YtjobojgmadjmfaaMdRAt
namespace Go.Proofs.Ytjobojgmadjmfaa
open Go.Hp Go.RowKit
set_option linter.unusedVariables false
set_option linter.unusedSimpArgs false
set_option maxRecDepth 100000
set_option maxHeartbeats 1000000
namespace Md

def topG (u : Int) (l : List Pl) : Int := match l.reverse.find? (·.dec) with | some p => p.n | none => u
theorem topG_all (h : Hd) : topG h.upto h.row = topS h := rfl
theorem topG_snoc (u : Int) (l : List Pl) (p : Pl) : topG u (l ++ [p]) = if p.dec = true then p.n else topG u l := by
  unfold topG
  rw [List.reverse_append, List.reverse_singleton, List.singleton_append, List.find?_cons]
  cases hd : p.dec <;> simp

theorem cells_dec {p : Pl} (h : p.Ok) : p.cells[14]? = some (.bool p.dec) := by
  have e1 : p.pa.length = 4 := h.pa.len
  have e2 : p.cmd.length = 9 := h.cmd.len
  unfold Pl.cells Pl.inst
  rw [List.getElem?_cons_succ, List.getElem?_append_right (by omega), List.getElem?_append_right (by omega), e1, e2]
  rfl

section
variable {w0 w : World} {L : List HProp}

theorem rtop {h : Hd} {vd ve vl vr : Value} (hok : h.Ok) (hsz : h.row.length ≤ 140737488355328) (hv : RecsAt w vr 15 (h.row.map Pl.cells)) (H : At w0 L w) :
    Calls Try.prog 26 #[.agg (hdV h vd ve vl vr)] w (fun e w' => e = .returned (.int .i64 (topS h)) ∧ At w0 L w') := by
  obtain ⟨W, rfl⟩ : ∃ W : World, W = w := ⟨_, rfl⟩
  have HF := At.of W
  have H0 := Lib.hid H
  obtain ⟨ad, cap, rfl, c1, c2, c3⟩ := hv.value
  rw [List.length_map] at c1 c3
  simp only [List.length_map] at hv ⊢
  have Hv := Lib.hid hv
  have C3 := Lib.hid c3
  clear H hv c3
  simp only [hdV]
  go_enter Try.func26, Try.ntmps26
  go_wp2_with (first | ((with_reducible refine k_box (T := 44) ?_); refine st_box rfl _ _ rfl _ rfl HF ?_; (clear HF; intro g1 w HF K hK; simp only [Value.cells, Act.eval, Value.cells, Array.getD_eq_getD_getElem?, List.getElem?_toArray, List.getElem?_cons_succ, List.getElem?_cons_zero, Option.getD_some] at HF; go_simp)) | ((with_reducible refine k_load ?_); refine st_load rfl _ _ rfl _ _ rfl ?_ HF 0 rfl rfl ?_; (kernel_rfl); (intro K hK; go_simp)))
  go_loopw [3, 4] (fun a i wr => ∃ k : Nat, k ≤ h.row.length ∧ i = .int .i64 k ∧ a = .int .i64 (topG h.upto (h.row.take k)) ∧ At W (Blk g1 (.cells #[.int .i64 h.sn, .int .i64 h.sc, vd, .int .i64 h.upto, ve, vl, .slice ad h.row.length cap] 44 (0, 0)) :: Arg W :: []) wr) (fun _ i _ => h.row.length - (intOf i).toNat)
  case atStart => exact ⟨0, Nat.zero_le _, rfl, rfl, HF⟩
  case round =>
    clear HF
    obtain ⟨k, hk, rfl, rfl, HF⟩ := hrel
    by_cases hlt : k < h.row.length
    · have g1x : (k : Int) < h.row.length := by omega
      obtain ⟨p, hp⟩ : ∃ p, h.row[k]? = some p := ⟨_, List.getElem?_eq_getElem hlt⟩
      obtain ⟨b, rfl⟩ := C3.out (by omega)
      have hr : (h.row.map Pl.cells)[k]? = some p.cells := by rw [List.getElem?_map, hp]; rfl
      have hc0 := (HF.ext 1 rfl).cell (Hv.out.cell (by rw [List.length_map]) hr (show p.cells[0]? = some (.int .i64 p.n) from rfl))
      have hc14 := (HF.ext 1 rfl).cell (Hv.out.cell (by rw [List.length_map]) hr (cells_dec (hok.row p (List.mem_of_getElem? hp))))
      have e1 : h.row.take (k + 1) = h.row.take k ++ [p] := by rw [List.take_add_one, hp]; rfl
      have hs := Lib.hid (show topG h.upto (h.row.take (k + 1)) = if p.dec = true then p.n else topG h.upto (h.row.take k) by rw [e1, topG_snoc])
      have Hc0 := Lib.hid hc0
      have Hc14 := Lib.hid hc14
      generalize topG h.upto (h.row.take k) = tk at *
      clear hc0 hc14 hr hp e1
      cases hd : p.dec with
      | false =>
        rw [hd] at Hc14 hs
        go_wp2_with (first | ((with_reducible refine k_load (T := 4) ?_); refine st_load1 (v := .bool false) rfl _ _ rfl _ rfl ?_ ?_ ?_; (kernel_rfl); (have := Hc14.out; rw [show k * 15 + 14 = k * 15 + 1 + 13 from rfl, ← Addr.add_add, ← Addr.add_add] at this; exact this); (intro K hK; go_simp)) | ((with_reducible refine k_load ?_); refine st_load rfl _ _ rfl _ _ rfl ?_ HF 0 rfl rfl ?_; (kernel_rfl); (intro K hK; go_simp)))
        go_roundw
        case rel => exact ⟨k + 1, by omega, rfl, by rw [hs.out]; rfl, HF⟩
        case measure => simp [intOf]; omega
      | true =>
        rw [hd] at Hc14 hs
        go_wp2_with (first | ((with_reducible refine k_load (T := 4) ?_); refine st_load1 (v := .bool true) rfl _ _ rfl _ rfl ?_ ?_ ?_; (kernel_rfl); (have := Hc14.out; rw [show k * 15 + 14 = k * 15 + 1 + 13 from rfl, ← Addr.add_add, ← Addr.add_add] at this; exact this); (intro K hK; go_simp)) | ((with_reducible refine k_load (T := 3) ?_); refine st_load1 rfl _ _ rfl _ rfl ?_ Hc0.out ?_; (kernel_rfl); (intro K hK; go_simp)) | ((with_reducible refine k_load ?_); refine st_load rfl _ _ rfl _ _ rfl ?_ HF 0 rfl rfl ?_; (kernel_rfl); (intro K hK; go_simp)))
        go_roundw
        case rel => exact ⟨k + 1, by omega, rfl, by rw [hs.out]; rfl, HF⟩
        case measure => simp [intOf]; omega
    · have g1x : ¬ (k : Int) < h.row.length := by omega
      have hs := Lib.hid (show topG h.upto (h.row.take k) = topS h by rw [List.take_of_length_le (by omega)]; rfl)
      go_wp2_with (first | ((with_reducible refine k_load ?_); refine st_load rfl _ _ rfl _ _ rfl ?_ HF 0 rfl rfl ?_; (kernel_rfl); (intro K hK; go_simp)))
      go_ret
      exact ⟨by rw [hs.out]; rfl, (HF.sel 2 [1]).lift0 H0.out⟩
end
end Md
end Go.Proofs.Ytjobojgmadjmfaa
