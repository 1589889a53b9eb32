/-
  The reference's At.
-/
import Derived.Test.YtjobojgmadjmfaaMdSpoil
namespace Go.Proofs.Ytjobojgmadjmfaa
open Go.Hp Go.RowKit
set_option linter.unusedVariables false
set_option linter.unusedSimpArgs false
set_option maxRecDepth 100000
set_option maxHeartbeats 1000000
namespace Md

def zI : List Value := [.int .i64 0, .int .i64 0, .int .i64 0, .int .i64 0, .int .i64 0, .int .i64 0, .int .i64 0, .string ⟨#[]⟩, .int .i64 0, .int .i64 0, .int .i64 0, .int .i64 0, .int .i64 0, .bool false]
theorem z69 : zeroT Try.prog 69 = some (.agg zI.toArray) := by kernel_rfl
def atS (h : Hd) (n : Int) : List Value := ((h.row.find? (·.n == n)).map Pl.inst).getD zI

theorem find_none_of {l : List Pl} {n : Int} (h : ∀ p ∈ l, p.n ≠ n) : l.find? (·.n == n) = none := by
  rw [List.find?_eq_none]
  intro p hp
  simpa using h p hp
theorem find_first {l : List Pl} {n : Int} {k : Nat} {p : Pl} (hp : l[k]? = some p) (hn : p.n = n) (h : ∀ (j : Nat) (q : Pl), j < k → l[j]? = some q → q.n ≠ n) : l.find? (·.n == n) = some p := by
  rw [List.find?_eq_some_iff_getElem]
  obtain ⟨hk, hpk⟩ := List.getElem?_eq_some_iff.1 hp
  refine ⟨by simpa using hn, k, hk, hpk, fun j hj => ?_⟩
  have := h j (l[j]'(by omega)) hj (List.getElem?_eq_getElem (by omega))
  simpa using this
theorem fits_app : ∀ {ks ls : List Ck} {xs ys : List Value}, Fits ks xs → Fits ls ys → Fits (ks ++ ls) (xs ++ ys)
  | [], _, [], _, _, h => h
  | [], _, _ :: _, _, h, _ => nomatch h
  | _ :: _, _, [], _, h, _ => nomatch h
  | _ :: _, _, _ :: _, _, h1, h2 => ⟨h1.1, fits_app h1.2 h2⟩
theorem fits_inst {p : Pl} (h : p.Ok) : Fits instK p.inst := fits_app h.pa (fits_app h.cmd ⟨⟨_, rfl⟩, trivial⟩)

section
variable {w0 w : World} {L : List HProp}

theorem rat {h : Hd} {vd ve vl vr : Value} (hok : h.Ok) (hsz : h.row.length ≤ 140737488355328) (hv : RecsAt w vr 15 (h.row.map Pl.cells)) (n : Int) (H : At w0 L w) :
    Calls Try.prog 41 #[.agg (hdV h vd ve vl vr), .int .i64 n] w (fun e w' => e = .returned (.agg (atS h n).toArray) ∧ At w0 L w') := by
  obtain ⟨W, rfl⟩ : ∃ W : World, W = w := ⟨_, rfl⟩
  have HF := At.of W
  have H0 := Lib.hid H
  obtain ⟨ad, cap, rfl, c1, c2, c3⟩ := hv.value
  rw [List.length_map] at c1 c3
  simp only [List.length_map] at hv ⊢
  have Hv := Lib.hid hv
  have Hok := Lib.hid hok
  have C3 := Lib.hid c3
  clear H hv hok c3
  simp only [hdV]
  go_enter Try.func41, Try.ntmps41
  go_wp2_with (first | ((with_reducible refine k_box (T := 44) ?_); refine st_box rfl _ _ rfl _ rfl HF ?_; (clear HF; intro g1 w HF K hK; simp only [Value.cells, Act.eval, Value.cells, Array.getD_eq_getD_getElem?, List.getElem?_toArray, List.getElem?_cons_succ, List.getElem?_cons_zero, Option.getD_some] at HF; go_simp)) | ((with_reducible refine k_alloc (T := 69) ?_); refine st_alloc rfl _ rfl _ z69 #[.int .i64 0, .int .i64 0, .int .i64 0, .int .i64 0, .int .i64 0, .int .i64 0, .int .i64 0, .string ⟨#[]⟩, .int .i64 0, .int .i64 0, .int .i64 0, .int .i64 0, .int .i64 0, .bool false] rfl HF ?_; (clear HF; intro g4 w HF K hK; go_simp)))
  go_loopw [5] (fun i wr => ∃ k : Nat, k ≤ h.row.length ∧ i = .int .i64 k ∧ (∀ (j : Nat) (q : Pl), j < k → h.row[j]? = some q → q.n ≠ n) ∧ At W (Blk g4 (.cells #[.int .i64 0, .int .i64 0, .int .i64 0, .int .i64 0, .int .i64 0, .int .i64 0, .int .i64 0, .string ⟨#[]⟩, .int .i64 0, .int .i64 0, .int .i64 0, .int .i64 0, .int .i64 0, .bool false] 69 (0, 0)) :: Blk g1 (.cells #[.int .i64 h.sn, .int .i64 h.sc, vd, .int .i64 h.upto, ve, vl, .slice ad h.row.length cap] 44 (0, 0)) :: Arg W :: []) wr) (fun i _ => h.row.length - (intOf i).toNat)
  case atStart => exact ⟨0, Nat.zero_le _, rfl, fun j q hj => absurd hj (Nat.not_lt_zero _), HF⟩
  case round =>
    clear HF
    obtain ⟨k, hk, rfl, hb, HF⟩ := hrel
    have Hb := Lib.hid hb
    clear hb
    by_cases hlt : k < h.row.length
    · have g1x : (k : Int) < h.row.length := by omega
      obtain ⟨p, hp⟩ : ∃ p, h.row[k]? = some p := ⟨_, List.getElem?_eq_getElem hlt⟩
      have hpo := Hok.out.row p (List.mem_of_getElem? hp)
      obtain ⟨b, rfl⟩ := C3.out (by omega)
      have hr : (h.row.map Pl.cells)[k]? = some p.cells := by rw [List.getElem?_map, hp]; rfl
      have hcl := Hv.out
      have hc0 := (HF.ext 2 rfl).cell (hcl.cell (by rw [List.length_map]) hr (show p.cells[0]? = some (.int .i64 p.n) from rfl))
      have hci : ∀ j u, p.inst[j]? = some u → W.cell? (b.add (k * 15 + (1 + j))) = some u := fun j u hj => hcl.cell (by rw [List.length_map]) hr (by rw [Pl.cells, Nat.add_comm, List.getElem?_cons_succ]; exact hj)
      have hin : Fits instK p.inst := fits_inst hpo
      have Hc0 := Lib.hid hc0
      have Hci := Lib.hid hci
      have hil := Lib.hid hin.len
      have hio := Lib.hid hin.one
      have Hp := Lib.hid hp
      clear hcl hc0 hci hr hp hpo hin
      by_cases he : p.n = n
      · have hbe : (p.n == n) = true := by simpa using he
        have hs := Lib.hid (show atS h n = p.inst by unfold atS; rw [find_first Hp.out he Hb.out]; rfl)
        clear he
        go_wp2_with (first | ((with_reducible refine k_load (T := 3) ?_); refine st_load1 rfl _ _ rfl _ rfl ?_ Hc0.out ?_; (kernel_rfl); (intro K hK; go_simp)) | ((with_reducible refine k_load ?_); refine st_load rfl _ _ rfl _ _ rfl ?_ HF 1 rfl rfl ?_; (kernel_rfl); (intro K hK; go_simp))            | ((with_reducible refine k_load (T := 69) ?_); refine st_loadCells rfl _ _ rfl _ rfl a69 p.inst (by rw [hil.out]; exact s69) (fun j u hj => (HF.ext 2 rfl).cell (by have := Hci.out j u hj; rwa [← Addr.add_add, ← Addr.add_add] at this)) ?_; (intro K hK; go_simp))            | ((with_reducible refine k_store (T := 69) ?_); refine st_put rfl _ _ _ rfl _ rfl _ rfl ?_ ?_ HF 0 rfl ?_ ?_; (exact hio.out); (rw [List.size_toArray, hil.out]; exact s69); (rw [List.size_toArray, hil.out]; rfl); (clear HF; intro w HF K hK; go_simp)))
        refine bodyPost_ret (results_cell rfl rfl a69 s69 (HF.get 0 rfl) (by rw [List.size_toArray, hil.out]; rfl)) rfl ?_
        rw [hs.out]
        exact ⟨rfl, (HF.sel 3 [2]).lift0 H0.out⟩
      · have hbe : (p.n == n) = false := by simpa using he
        go_wp2_with (first | ((with_reducible refine k_load (T := 3) ?_); refine st_load1 rfl _ _ rfl _ rfl ?_ Hc0.out ?_; (kernel_rfl); (intro K hK; go_simp)) | ((with_reducible refine k_load ?_); refine st_load rfl _ _ rfl _ _ rfl ?_ HF 1 rfl rfl ?_; (kernel_rfl); (intro K hK; go_simp)))
        go_roundw
        case rel =>
          refine ⟨k + 1, by omega, rfl, fun j q hj hq => ?_, HF⟩
          by_cases hjk : j = k
          · subst hjk
            rw [Hp.out] at hq
            cases hq
            exact he
          · exact Hb.out j q (by omega) hq
        case measure => simp [intOf]; omega
    · have g1x : ¬ (k : Int) < h.row.length := by omega
      have hs := Lib.hid (show atS h n = zI by
        unfold atS
        rw [find_none_of fun p hp => ?_]
        · rfl
        · obtain ⟨j, hj⟩ := List.getElem?_of_mem hp
          exact Hb.out j p (by have := (List.getElem?_eq_some_iff.1 hj).1; omega) hj)
      go_wp2_with (first | ((with_reducible refine k_store (T := 69) ?_); refine st_put rfl _ _ _ rfl _ rfl _ rfl ?_ s69 HF 0 rfl rfl ?_; (simp [Value.oneCell']); (clear HF; intro w HF K hK; simp only [List.set_cons_zero, List.set_cons_succ, Act.eval, Value.cells, Array.getD_eq_getD_getElem?, List.getElem?_toArray, List.getElem?_cons_succ, List.getElem?_cons_zero, Option.getD_some] at HF; go_simp)) | ((with_reducible refine k_load ?_); refine st_load rfl _ _ rfl _ _ rfl ?_ HF 1 rfl rfl ?_; (kernel_rfl); (intro K hK; go_simp)))
      refine bodyPost_ret (results_cell rfl rfl a69 s69 (HF.get 0 rfl) rfl) rfl ?_
      rw [hs.out]
      exact ⟨rfl, (HF.sel 3 [2]).lift0 H0.out⟩
end
end Md
end Go.Proofs.Ytjobojgmadjmfaa
