/-
  The reference's Edge.
-/
import Derived.Test.YtjobojgmadjmfaaMdRTop
namespace Go.Proofs.Ytjobojgmadjmfaa
open Go.Hp Go.RowKit
set_option linter.unusedVariables false
set_option linter.unusedSimpArgs false
set_option maxRecDepth 100000
set_option maxHeartbeats 2000000
namespace Md

section
variable {w0 w : World} {L : List HProp}

theorem redge {h : Hd} {vd ve vl vr : Value} (hm : May h) (hok : h.Ok) (hsz : h.row.length ≤ 140737488355328) (hv : RecsAt w vr 15 (h.row.map Pl.cells)) (H : At w0 L w) :
    Calls Try.prog 45 #[.agg (hdV h vd ve vl vr)] w (fun e w' => e = .returned (.int .i64 (edgeS h)) ∧ At w0 L w') := by
  obtain ⟨W, rfl⟩ : ∃ W : World, W = w := ⟨_, rfl⟩
  have HF := At.of W
  have H0 := Lib.hid H
  obtain ⟨ad, cap, rfl, c1, c2, c3⟩ := hv.value
  rw [List.length_map] at c1 c3
  simp only [List.length_map] at hv ⊢
  have Hv := Lib.hid hv
  have C3 := Lib.hid c3
  have HU := Lib.hid (show 0 ≤ h.upto ∧ h.upto ≤ 1048576 from ⟨hm.u0, hm.u1⟩)
  clear H hv c3 hm
  simp only [hdV]
  go_enter Try.func45, Try.ntmps45
  go_wp2_with (first | ((with_reducible refine k_box (T := 44) ?_); refine st_box rfl _ _ rfl _ rfl HF ?_; (clear HF; intro g1 w HF K hK; simp only [Value.cells, Act.eval, Value.cells, Array.getD_eq_getD_getElem?, List.getElem?_toArray, List.getElem?_cons_succ, List.getElem?_cons_zero, Option.getD_some] at HF; go_simp)) | ((with_reducible refine k_load ?_); refine st_load rfl _ _ rfl _ _ rfl ?_ HF 0 rfl rfl ?_; (kernel_rfl); (intro K hK; go_simp)))
  go_loopw [3, 4] (fun a i wr => ∃ k : Nat, k ≤ h.row.length ∧ i = .int .i64 k ∧ a = .int .i64 (h.upto + k) ∧ edgeG (h.row.drop k) (h.upto + k) = edgeS h ∧ At W (Blk g1 (.cells #[.int .i64 h.sn, .int .i64 h.sc, vd, .int .i64 h.upto, ve, vl, .slice ad h.row.length cap] 44 (0, 0)) :: Arg W :: []) wr) (fun _ i _ => h.row.length - (intOf i).toNat)
  case atStart => exact ⟨0, Nat.zero_le _, rfl, by simp, by simp [edgeS], HF⟩
  case round =>
    clear HF
    obtain ⟨k, hk, rfl, rfl, he, HF⟩ := hrel
    have He := Lib.hid he
    clear he
    have b0 : 0 ≤ h.upto + k := by have := HU.out; omega
    have b1 : h.upto + k ≤ 140737489403904 := by have := HU.out; omega
    by_cases hlt : k < h.row.length
    · have g1x : (k : Int) < h.row.length := by omega
      obtain ⟨p, hp⟩ : ∃ p, h.row[k]? = some p := ⟨_, List.getElem?_eq_getElem hlt⟩
      obtain ⟨b, rfl⟩ := C3.out (by omega)
      have hr : (h.row.map Pl.cells)[k]? = some p.cells := by rw [List.getElem?_map, hp]; rfl
      have Hc0 := Lib.hid ((HF.ext 1 rfl).cell (Hv.out.cell (by rw [List.length_map]) hr (show p.cells[0]? = some (.int .i64 p.n) from rfl)))
      have Hc14 := Lib.hid ((HF.ext 1 rfl).cell (Hv.out.cell (by rw [List.length_map]) hr (cells_dec (hok.row p (List.mem_of_getElem? hp)))))
      have hdr : h.row.drop k = p :: h.row.drop (k + 1) := by
        rw [List.drop_eq_getElem_cons hlt]
        congr 1
        rw [List.getElem?_eq_getElem hlt] at hp
        exact Option.some.inj hp
      have hst := He.out
      rw [hdr, edgeG] at hst
      have Hst := Lib.hid hst
      clear hr hp hdr hst
      by_cases hn : p.n = h.upto + k + 1
      · have hnb : (p.n == h.upto + k + 1) = true := by simpa using hn
        have Hn := Lib.hid hn
        clear hn
        cases hd : p.dec with
        | false =>
          have Hs := Lib.hid (show h.upto + k = edgeS h by have := Hst.out; rw [if_neg (by rw [hd]; simp)] at this; exact this)
          rw [hd] at Hc14
          go_wp2_with (first | ((with_reducible refine k_load (T := 4) ?_); refine st_load1 (v := .bool false) rfl _ _ rfl _ rfl ?_ ?_ ?_; (kernel_rfl); (have := Hc14.out; rw [show k * 15 + 14 = k * 15 + 1 + 13 from rfl, ← Addr.add_add, ← Addr.add_add] at this; exact this); (intro K hK; go_simp)) | ((with_reducible refine k_load (T := 3) ?_); refine st_load1 rfl _ _ rfl _ rfl ?_ Hc0.out ?_; (kernel_rfl); (intro K hK; go_simp)) | ((with_reducible refine k_load ?_); refine st_load rfl _ _ rfl _ _ rfl ?_ HF 0 rfl rfl ?_; (kernel_rfl); (intro K hK; go_simp)))
          go_ret
          exact ⟨by rw [Hs.out]; rfl, (HF.sel 2 [1]).lift0 H0.out⟩
        | true =>
          have Hs := Lib.hid (show edgeG (h.row.drop (k + 1)) (h.upto + k + 1) = edgeS h by have := Hst.out; rw [if_pos ⟨Hn.out, hd⟩] at this; exact this)
          rw [hd] at Hc14
          go_wp2_with (first | ((with_reducible refine k_load (T := 4) ?_); refine st_load1 (v := .bool true) rfl _ _ rfl _ rfl ?_ ?_ ?_; (kernel_rfl); (have := Hc14.out; rw [show k * 15 + 14 = k * 15 + 1 + 13 from rfl, ← Addr.add_add, ← Addr.add_add] at this; exact this); (intro K hK; go_simp)) | ((with_reducible refine k_load (T := 3) ?_); refine st_load1 rfl _ _ rfl _ rfl ?_ Hc0.out ?_; (kernel_rfl); (intro K hK; go_simp)) | ((with_reducible refine k_load ?_); refine st_load rfl _ _ rfl _ _ rfl ?_ HF 0 rfl rfl ?_; (kernel_rfl); (intro K hK; go_simp)))
          go_roundw
          case rel => exact ⟨k + 1, by omega, rfl, by rw [Int.natCast_add, ← Int.add_assoc]; rfl, by rw [Int.natCast_add, ← Int.add_assoc]; exact Hs.out, HF⟩
          case measure => simp [intOf]; omega
      · have hnb : (p.n == h.upto + k + 1) = false := by simpa using hn
        have Hs := Lib.hid (show h.upto + k = edgeS h by have := Hst.out; rw [if_neg (fun hx => hn hx.1)] at this; exact this)
        clear hn
        go_wp2_with (first | ((with_reducible refine k_load (T := 4) ?_); refine st_load1 (v := .bool false) rfl _ _ rfl _ rfl ?_ ?_ ?_; (kernel_rfl); (have := Hc14.out; rw [show k * 15 + 14 = k * 15 + 1 + 13 from rfl, ← Addr.add_add, ← Addr.add_add] at this; exact this); (intro K hK; go_simp)) | ((with_reducible refine k_load (T := 3) ?_); refine st_load1 rfl _ _ rfl _ rfl ?_ Hc0.out ?_; (kernel_rfl); (intro K hK; go_simp)) | ((with_reducible refine k_load ?_); refine st_load rfl _ _ rfl _ _ rfl ?_ HF 0 rfl rfl ?_; (kernel_rfl); (intro K hK; go_simp)))
        go_ret
        exact ⟨by rw [Hs.out]; rfl, (HF.sel 2 [1]).lift0 H0.out⟩
    · have g1x : ¬ (k : Int) < h.row.length := by omega
      have Hs := Lib.hid (show h.upto + k = edgeS h by have := He.out; rw [List.drop_eq_nil_of_le (by omega), edgeG] at this; exact this)
      go_wp2_with (first | ((with_reducible refine k_load ?_); refine st_load rfl _ _ rfl _ _ rfl ?_ HF 0 rfl rfl ?_; (kernel_rfl); (intro K hK; go_simp)))
      go_ret
      exact ⟨by rw [Hs.out]; rfl, (HF.sel 2 [1]).lift0 H0.out⟩
end
end Md
end Go.Proofs.Ytjobojgmadjmfaa
