/-
  What is decided of an instance; the edge of what is held.
-/
import Derived.Test.YtjobojgmadjmfaaMdBase
namespace Go.Proofs.Ytjobojgmadjmfaa
open Go.Hp Go.RowKit
set_option linter.unusedVariables false
set_option linter.unusedSimpArgs false
namespace Md

theorem results_cell_tmp {P : Program} {fn : Func} {p q : Tmp} {ty : TypeId} (h : fn.results = #[.cell p ty, .tmp q]) {tmps : Array Value} {w : World} {g : Nat} {t : TypeId} {cs : Array Value} {fr : Nat × Nat} {n : Nat}
    (hp : tmps.getD p undef = .pointer (some ⟨g, 0, none⟩)) (hT : aggT P ty = true) (hn : sizeT P ty = some n) (hg : w.heap[g]? = some (.cells cs t fr)) (hc : cs.size = n) :
    (results fn tmps).run P w = .ok (.tuple #[.agg cs, tmps.getD q undef]) w := by
  have hr := run_loadVar_agg (P := P) (off := 0) hT hn hg (by omega)
  have e : cs.extract 0 (0 + n) = cs := by rw [Nat.zero_add, ← hc, Array.extract_size]
  rw [e] at hr
  have hp' : tmps[p]?.getD undef = .pointer (some ⟨g, 0, none⟩) := by simpa using hp
  simp [results, h, hp', asAddr, hr]

def decV : Option (List Value) → Value
  | some c => .tuple #[.agg c.toArray, .bool true]
  | none => .tuple #[.agg zc.toArray, .bool false]

theorem rising_at {l : List Pl} (hr : Rising l) {i j : Nat} {p q : Pl} (hi : l[i]? = some p) (hj : l[j]? = some q) (hn : p.n = q.n) : i = j ∧ p = q := by
  rcases Nat.lt_trichotomy i j with h | h | h
  · have := hr i j p q h hi hj; omega
  · subst h
    rw [hi] at hj
    cases hj
    exact ⟨rfl, rfl⟩
  · have := hr j i q p h hj hi; omega

theorem dec_none {h : Hd} (hr : Rising h.row) {n : Int} {k : Nat} (hb : BsOk h.row n k false) : decS h n = none := by
  unfold decS
  rw [Option.map_eq_none_iff, List.find?_eq_none]
  intro p hp
  simp only [Bool.and_eq_true, beq_iff_eq, not_and, Bool.not_eq_true]
  intro hn
  exfalso
  obtain ⟨j, hj⟩ := List.getElem?_of_mem hp
  obtain ⟨h1, h2, h3, h4⟩ := hb
  have hjk : k ≤ j := by
    rcases Nat.lt_or_ge j k with hjk | hjk
    · have := h2 j p hj hjk; omega
    · exact hjk
  rcases Nat.eq_or_lt_of_le hjk with e | hlt
  · subst e
    exact Bool.noConfusion (h4.2 ⟨p, hj, hn⟩)
  · have hlt2 := (List.getElem?_eq_some_iff.1 hj).1
    have hk : k < h.row.length := by omega
    have a1 := h3 k h.row[k] (List.getElem?_eq_getElem hk) (Nat.le_refl _)
    have a2 := hr k j _ p hlt (List.getElem?_eq_getElem hk) hj
    omega

theorem dec_some {h : Hd} (hr : Rising h.row) {n : Int} {k : Nat} {p : Pl} (hp : h.row[k]? = some p) (hn : p.n = n) : decS h n = if p.dec = true then some p.cmd else none := by
  unfold decS
  have huniq : ∀ q ∈ h.row, q.n = n → q = p := by
    intro q hq hqn
    obtain ⟨j, hj⟩ := List.getElem?_of_mem hq
    exact (rising_at hr hj hp (by omega)).2
  split
  · rename_i hd
    have : h.row.find? (fun p => p.n == n && p.dec) = some p := by
      cases hf : h.row.find? (fun p => p.n == n && p.dec) with
      | none =>
        rw [List.find?_eq_none] at hf
        have := hf p (List.mem_of_getElem? hp)
        simp [hn, hd] at this
      | some q =>
        have h1 := List.find?_some hf
        have h2 := List.mem_of_find?_eq_some hf
        simp only [Bool.and_eq_true, beq_iff_eq] at h1
        rw [huniq q h2 h1.1]
    rw [this]
    rfl
  · rename_i hd
    rw [Option.map_eq_none_iff, List.find?_eq_none]
    intro q hq
    simp only [Bool.and_eq_true, beq_iff_eq, not_and]
    intro hqn
    rw [huniq q hq hqn]
    exact hd

/-- What is held, in a variable of its own. -/
def HdBlk (g : Nat) (h : Hd) (vd ve vl vr : Value) : HProp := Blk g (.cells (hdV h vd ve vl vr) 49 (0, 0))

section
variable {w0 w : World} {L : List HProp}

set_option maxRecDepth 100000 in
set_option maxHeartbeats 8000000 in
theorem dec1 {g : Nat} {h : Hd} {vd ve vl vr : Value} (hrs : Rising h.row) (hok : h.Ok) (hsz : h.row.length ≤ 140737488355328) (hv : RecsAt w vr 15 (h.row.map Pl.cells)) (n : Int) (H : At w0 (HdBlk g h vd ve vl vr :: L) w) :
    Calls Try.prog 57 #[.int .i64 n, .pointer (some ⟨g, 0, none⟩)] w (fun e w' => e = .returned (decV (decS h n)) ∧ Ext w w' ∧ At w0 (HdBlk g h vd ve vl vr :: L) w') := by
  have HF := At.of w
  have hblk : w.heap[g]? = some (.cells (hdV h vd ve vl vr) 49 (0, 0)) := H.get0
  have hcell : w.cell? ⟨g, 6, none⟩ = some vr := by rw [cell_of_row w g 6 _ _ _ hblk]; rfl
  have Hrs := Lib.hid hrs
  have Hv := Lib.hid hv
  have H0 := Lib.hid H
  have Hc6 := Lib.hid hcell
  clear hrs hv H hblk hcell
  go_enter Try.func57, Try.ntmps57
  go_wp2_with (first | ((with_reducible refine k_alloc ?_); refine st_alloc rfl _ rfl (.agg zc.toArray) ?_ zc.toArray rfl HF ?_; (kernel_rfl); (clear HF; intro gc w1 HF K hK; go_simp)) | ((with_reducible refine k_load ?_); refine st_load1 rfl _ _ rfl _ rfl ?_ ((HF.ext 1 rfl).cell Hc6.out) ?_; (kernel_rfl); (intro K hK; go_simp)))
  refine (bs Hrs.out hsz (Hv.out.ext (HF.ext 1 rfl)) n HF).mono ?_
  rintro e w2 ⟨k, b, rfl, _, HF2, hb⟩
  have Hb := Lib.hid hb
  clear hb HF
  have HF := HF2
  clear HF2
  cases b with
  | false =>
    have hd := Lib.hid (dec_none Hrs.out Hb.out)
    go_wp2_with (first | ((with_reducible refine k_store ?_); refine st_put rfl _ _ _ rfl _ rfl _ rfl ?_ ?_ HF 0 rfl ?_ ?_; (simp [Value.oneCell', zc]); (kernel_rfl); (simp [zc]); (clear HF; intro w HF K hK; go_simp)))
    refine bodyPost_ret (results_cell_tmp (n := 9) rfl rfl a32 s32 (HF.get 0 rfl) rfl) rfl ?_
    rw [hd.out]
    exact ⟨rfl, HF.ext 1 rfl, (HF.sel 2 [1]).lift0 H0.out⟩
  | true =>
    obtain ⟨p, hp, hpn⟩ := Hb.out.2.2.2.1 rfl
    have hd := Lib.hid (dec_some Hrs.out hp hpn)
    have hkl := (List.getElem?_eq_some_iff.1 hp).1
    have hko := (Hv.out.value)
    obtain ⟨ad, cap, hvr, c1, c2, c3⟩ := hko
    rw [List.length_map] at hvr c1 c3
    obtain ⟨b, rfl⟩ := c3 (by omega)
    subst hvr
    have hlp : p.cells.length = 15 := Hv.out.2 _ (List.mem_map_of_mem (List.mem_of_getElem? hp))
    have hpok := hok.row p (List.mem_of_getElem? hp)
    have hcl := hpok.cmd.len
    have hpl := hpok.pa.len
    have hc := fun j u hj => (HF.ext 1 rfl).cell (recs_get Hv.out hp j u hj)
    have hdec := hc 14 (.bool p.dec) (by
      show (p.inst)[13]? = _
      unfold Pl.inst
      rw [List.getElem?_append_right (by rw [hpl]; decide), hpl, List.getElem?_append_right (by rw [hcl]; decide), hcl]
      rfl)
    have hcm := Lib.hid (show ∀ j u, p.cmd[j]? = some u → w2.cell? ((((b.add (k * 15)).add 1).add 4).add j) = some u from fun j u hj => by
      have hjl := (List.getElem?_eq_some_iff.1 hj).1
      have h := hc (5 + j) u (by
        rw [show 5 + j = (4 + j) + 1 by omega]
        show (p.inst)[4 + j]? = _
        unfold Pl.inst
        rw [List.getElem?_append_right (by rw [hpl]; show 4 ≤ 4 + j; omega), hpl, show 4 + j - paK.length = j from Nat.add_sub_cancel_left .., List.getElem?_append_left (by omega)]
        exact hj)
      rw [Addr.add_add] at h
      rw [Addr.add_add, Addr.add_add, Addr.add_add, show k * 15 + (1 + (4 + j)) = k * 15 + (5 + j) by omega]
      exact h)
    have hsc := Lib.hid (show sizeT Try.prog 32 = some p.cmd.length by rw [hcl]; exact s32)
    have hdec2 := Lib.hid hdec
    have hcl2 := Lib.hid hcl
    have hone := Lib.hid hpok.cmd.one
    clear hc hdec hp hpn hlp hpok hcl hpl
    have gk : (k : Int) < h.row.length := by omega
    cases hpd : p.dec with
    | false =>
      rw [hpd] at hdec2 hd
      clear hpd
      go_wp2_with (first | ((with_reducible refine k_store ?_); refine st_put rfl _ _ _ rfl _ rfl _ rfl ?_ ?_ HF 0 rfl ?_ ?_; (simp [Value.oneCell', zc]); (kernel_rfl); (simp [zc]); (clear HF; intro w HF K hK; go_simp)) | ((with_reducible refine k_load ?_); refine st_load1 rfl _ _ rfl _ rfl ?_ ((HF.ext 1 rfl).cell Hc6.out) ?_; (kernel_rfl); (intro K hK; go_simp)) | ((with_reducible refine k_load ?_); refine st_load1 rfl _ _ rfl _ rfl ?_ hdec2.out ?_; (kernel_rfl); (intro K hK; go_simp)))
      refine bodyPost_ret (results_cell_tmp (n := 9) rfl rfl a32 s32 (HF.get 0 rfl) rfl) rfl ?_
      rw [hd.out]
      exact ⟨rfl, HF.ext 1 rfl, (HF.sel 2 [1]).lift0 H0.out⟩
    | true =>
      rw [hpd] at hdec2 hd
      clear hpd
      go_wp2_with (first | ((with_reducible refine k_store ?_); refine st_put rfl _ _ _ rfl _ rfl _ rfl ?_ ?_ HF 0 rfl ?_ ?_; (exact hone.out); (rw [List.size_toArray, hcl2.out]; exact s32); (rw [List.size_toArray, hcl2.out]; rfl); (clear HF; intro w HF K hK; go_simp)) | ((with_reducible refine k_load ?_); refine st_load1 rfl _ _ rfl _ rfl ?_ ((HF.ext 1 rfl).cell Hc6.out) ?_; (kernel_rfl); (intro K hK; go_simp)) | ((with_reducible refine k_load ?_); refine st_load1 rfl _ _ rfl _ rfl ?_ hdec2.out ?_; (kernel_rfl); (intro K hK; go_simp))           | ((with_reducible refine k_load ?_); refine st_loadCells rfl _ _ rfl _ rfl a32 p.cmd hsc.out hcm.out ?_; (intro K hK; go_simp)))
      refine bodyPost_ret (results_cell_tmp (n := 9) rfl rfl a32 s32 (HF.get 0 rfl) (by rw [List.size_toArray, hcl2.out]; rfl)) rfl ?_
      rw [hd.out]
      exact ⟨rfl, HF.ext 1 rfl, (HF.sel 2 [1]).lift0 H0.out⟩
end
end Md
end Go.Proofs.Ytjobojgmadjmfaa
