/-
  The edge of what is held.
-/
import Derived.Test.YtjobojgmadjmfaaMdBase2
namespace Go.Proofs.Ytjobojgmadjmfaa
open Go.Hp Go.RowKit
set_option linter.unusedVariables false
set_option linter.unusedSimpArgs false
namespace Md

/-- A closure that tells what is decided. -/
def ClAt (v : Value) (h : Hd) (vd ve vl vr : Value) : HProp := fun hp => ∃ g, v = .func (.func 57) #[] #[.pointer (some ⟨g, 0, none⟩)] ∧ HdBlk g h vd ve vl vr hp

/-- What is held may be. -/
structure May (h : Hd) : Prop where
  u0 : 0 ≤ h.upto
  u1 : h.upto ≤ 1048576
  rise : Rising h.row
  lo : ∀ p ∈ h.row, h.upto < p.n
  hi : ∀ p ∈ h.row, p.n ≤ 1048576
  z : h.upto = 0 → h.ents = [] ∧ h.lasts = []
  kind : ∀ p ∈ h.row, p.dec = true → p.cmd ≠ zc

def edgeG : List Pl → Int → Int
  | [], n => n
  | p :: r, n => if p.n = n + 1 ∧ p.dec = true then edgeG r (n + 1) else n

def edgeS (h : Hd) : Int := edgeG h.row h.upto

/-- Those of the row's head that follow one another, decided. -/
theorem edgeG_le : ∀ (l : List Pl) (n : Int), n ≤ edgeG l n ∧ edgeG l n ≤ n + l.length
  | [], n => by simp [edgeG]
  | p :: r, n => by
    unfold edgeG
    have := edgeG_le r (n + 1)
    split
    · simp; omega
    · simp; omega

theorem edgeG_step : ∀ (l : List Pl) (n : Int) (i : Nat), n + i < edgeG l n → ∃ p, l[i]? = some p ∧ p.n = n + i + 1 ∧ p.dec = true
  | [], n, i, h => by simp [edgeG] at h; omega
  | p :: r, n, i, h => by
    unfold edgeG at h
    split at h
    · rename_i hc
      match i, h with
      | 0, h => exact ⟨p, rfl, by simpa using hc.1, hc.2⟩
      | i + 1, h =>
        obtain ⟨q, h1, h2, h3⟩ := edgeG_step r (n + 1) i (by simp at h ⊢; omega)
        exact ⟨q, by simpa using h1, by simp; omega, h3⟩
    · omega

theorem edgeG_end : ∀ (l : List Pl) (n : Int) (i : Nat) (p : Pl), n + i = edgeG l n → l[i]? = some p → ¬ (p.n = n + i + 1 ∧ p.dec = true)
  | [], n, i, p, h, hi => by simp at hi
  | p :: r, n, i, q, h, hi => by
    unfold edgeG at h
    split at h
    · rename_i hc
      match i, h, hi with
      | 0, h, hi => have := (edgeG_le r (n + 1)).1; simp at h; omega
      | i + 1, h, hi =>
        have := edgeG_end r (n + 1) i q (by simp at h ⊢; omega) (by simpa using hi)
        intro hh
        exact this ⟨by have := hh.1; simp at this ⊢; omega, hh.2⟩
    · rename_i hc
      have : i = 0 := by omega
      subst this
      simp at hi
      subst hi
      simpa using hc

theorem decS_at {h : Hd} (hm : May h) {k : Nat} {p : Pl} (hp : h.row[k]? = some p) : decS h p.n = if p.dec = true then some p.cmd else none := dec_some hm.rise hp rfl

theorem edge_some {h : Hd} (hm : May h) {i : Nat} (hlt : h.upto + i < edgeS h) : ∃ c, decS h (h.upto + i + 1) = some c := by
  obtain ⟨p, h1, h2, h3⟩ := edgeG_step h.row h.upto i hlt
  refine ⟨p.cmd, ?_⟩
  rw [← h2, decS_at hm h1, if_pos h3]

theorem rising_ge {l : List Pl} (hr : Rising l) {u : Int} (hlo : ∀ p ∈ l, u < p.n) : ∀ (j : Nat) (p : Pl), l[j]? = some p → u + j + 1 ≤ p.n
  | 0, p, h => by have := hlo p (List.mem_of_getElem? h); simp; omega
  | j + 1, p, h => by
    have hj := (List.getElem?_eq_some_iff.1 h).1
    have h0 : l[j]? = some (l[j]'(by omega)) := List.getElem?_eq_getElem (by omega)
    have h1 := rising_ge hr hlo j _ h0
    have h2 := hr j (j + 1) _ p (by omega) h0 h
    simp; omega

theorem edge_none {h : Hd} (hm : May h) {i : Nat} (he : h.upto + i = edgeS h) : decS h (h.upto + i + 1) = none := by
  unfold decS
  rw [Option.map_eq_none_iff, List.find?_eq_none]
  intro q hq
  simp only [Bool.and_eq_true, beq_iff_eq, not_and]
  intro hqn hd
  obtain ⟨j, hj⟩ := List.getElem?_of_mem hq
  have hge := rising_ge hm.rise hm.lo j q hj
  have hji : j ≤ i := by omega
  rcases Nat.eq_or_lt_of_le hji with e | hlt
  · subst e
    exact edgeG_end h.row h.upto j q he hj ⟨hqn, hd⟩
  · obtain ⟨p, h1, h2, h3⟩ := edgeG_step h.row h.upto j (by unfold edgeS at he; omega)
    rw [hj] at h1
    cases h1
    omega

theorem decS_fits {h : Hd} (hok : h.Ok) {n : Int} {c : List Value} (hd : decS h n = some c) : Fits cmdK c := by
  unfold decS at hd
  rw [Option.map_eq_some_iff] at hd
  obtain ⟨p, hp, rfl⟩ := hd
  exact (hok.row p (List.mem_of_find?_eq_some hp)).cmd

theorem edge_bound {h : Hd} (hm : May h) : h.upto ≤ edgeS h ∧ edgeS h ≤ 1048576 := by
  refine ⟨(edgeG_le _ _).1, ?_⟩
  rcases Int.lt_or_le h.upto (edgeS h) with hlt | hge
  · obtain ⟨p, h1, h2, h3⟩ := edgeG_step h.row h.upto (edgeS h - 1 - h.upto).toNat (by unfold edgeS at hlt ⊢; omega)
    have := hm.hi p (List.mem_of_getElem? h1)
    omega
  · have := hm.u1; omega

section
variable {w0 w : World} {L : List HProp}

theorem dec (h : Hd) (vd ve vl vr : Value) (H : At w0 L w) : Calls Try.prog 52 #[.agg (hdV h vd ve vl vr)] w (fun e w' => ∃ g, e = .returned (.func (.func 57) #[] #[.pointer (some ⟨g, 0, none⟩)]) ∧ At w0 (HdBlk g h vd ve vl vr :: L) w') := by
  go_enter Try.func52, Try.ntmps52
  go_wp2_with (first | ((with_reducible refine k_box ?_); refine st_box rfl _ _ rfl _ rfl H ?_; (clear H; intro g w H K hK; go_simp)))
  go_ret
  exact ⟨g, rfl, H⟩

set_option maxRecDepth 100000 in
set_option maxHeartbeats 1000000 in
theorem edge {h : Hd} {vd ve vl vr : Value} (hm : May h) (hok : h.Ok) (hsz : h.row.length ≤ 140737488355328) (hv : RecsAt w vr 15 (h.row.map Pl.cells)) (H : At w0 L w) :
    Calls Try.prog 46 #[.agg (hdV h vd ve vl vr)] w (fun e w' => e = .returned (.int .i64 (edgeS h)) ∧ Ext w w' ∧ At w0 L w') := by
  have HF := At.of w
  have H0 := Lib.hid H
  have Hm := Lib.hid hm
  have Hv := Lib.hid hv
  clear hm hv H
  go_enter Try.func46, Try.ntmps46
  go_wp2_with (first | ((with_reducible refine k_box ?_); refine st_box rfl _ _ rfl _ rfl HF ?_; (clear HF; intro g1 w1 HF K hK; go_simp)))
  replace HF : At w (HdBlk g1 h vd ve vl vr :: [Arg w]) w1 := HF
  apply wp_region_eff [4] (fun i => (#[[], [], [], [], [], [], [4]] : Array (List Nat)).getD i []) (fun val i => ((_ :: _ :: _ :: _ :: val 4 :: _ :: _ :: []) : List Value).toArray.getD i undef) (fun E val => At w ((if E 4 = true then ClAt (val 4) h vd ve vl vr else emp) :: HdBlk g1 h vd ve vl vr :: [Arg w])) (by kernel_rfl) (by kernel_rfl) (by kernel_rfl) (by kernel_rfl) (At.addEmp HF)
  case step =>
    iterate 4 (refine ⟨eff_pl rfl (fun _ => by rfl) fun E val hn T ds w K H hk ho hK => ?_, ?_⟩; rotate_left)
    refine ⟨eff_mk rfl (fun _ => by rfl) fun E val hE0 hcl hn T ds w K H hk ho hK => ?_, ?_⟩; rotate_left
    iterate 2 (refine ⟨eff_pl rfl (fun _ => by rfl) fun E val hn T ds w K H hk ho hK => ?_, ?_⟩; rotate_left)
    exact trivial
    · have o1 := ho 1 (by kernel_rfl); clear ho; simp [know, dstAt, Region.binds] at hk o1; go_simp; exact hK _ H
    · clear ho; simp [know, dstAt, Region.binds] at hk; go_simp; exact hK _ H
    · clear ho; simp [know, dstAt, Region.binds] at hk
      (refine op_loadT rfl hk (by kernel_rfl) H 1 rfl rfl ?_; exact hK _ H)
    · have o1 := ho 1 (by kernel_rfl); clear ho; simp [know, dstAt, Region.binds] at hk o1
      (refine op_rowT rfl o1 a49 s49 H 1 rfl rfl ?_; exact hK _ H)
    · clear ho; simp [know, dstAt, Region.binds] at hk
      (simp only [hE0, Bool.false_eq_true, if_false] at H); go_simp; refine (dec h vd ve vl vr (H.sel 1 [])).mono ?_; rintro e w' ⟨g, rfl, H⟩; exact hK _ _ (At.imp H fun _ hh => ⟨g, rfl, hh⟩)
    · clear ho; simp [know, dstAt, Region.binds] at hk; go_simp; exact hK _ H
    · clear ho; simp [know, dstAt, Region.binds] at hk; go_simp; exact hK _ H
  case ins =>
    iterate 4 (refine ⟨ins_pl rfl (fun _ _ _ => rfl), ?_⟩)
    refine ⟨ins_mk rfl (fun _ => rfl), ?_⟩
    refine ⟨ins_pl rfl (fun _ _ _ => rfl), ?_⟩
    refine ⟨ins_pl rfl (fun val val' h => by first | rfl | ((have h4 := h 4 (by decide)); first | (simp only [h4]; done) | (simp only [h4]; rfl))), ?_⟩
    exact trivial
  case jns =>
    iterate 4 (refine ⟨j_pl (fun _ _ _ => rfl), ?_⟩)
    refine ⟨j_mk rfl, ?_⟩
    iterate 2 (refine ⟨j_pl (fun _ _ _ => rfl), ?_⟩)
    exact trivial
  case fin =>
    intro E val w2 hE H
    have e4 := hE 4 (by decide)
    simp only [e4, if_true] at H
    obtain ⟨g, H⟩ := At.ex H
    obtain ⟨hv4, H⟩ := At.and H
    simp [putAll, Act.put, hv4]
    clear HF hE e4 hv4
    have HB := Lib.hid (edge_bound Hm.out)
    have HU := Lib.hid Hm.out.u0
    go_wp2_with fail
    go_loopw [3] (fun a wr => ∃ i : Nat, h.upto + i ≤ edgeS h ∧ a = .int .i64 (h.upto + i) ∧ At w (HdBlk g h vd ve vl vr :: [Arg w]) wr) (fun a _ => (edgeS h - intOf a).toNat)
    case atStart => exact ⟨0, by have := HB.out.1; simp; exact this, by simp, H.sel 2 [0]⟩
    case round =>
      clear H
      obtain ⟨i, hi, rfl, H⟩ := hrel
      have b1 : h.upto + i ≤ 1048576 := by have := HB.out.2; omega
      have b0 : 0 ≤ h.upto := HU.out
      rcases Int.lt_or_eq_of_le hi with hlt | heq
      · obtain ⟨c, hc⟩ := edge_some Hm.out hlt
        have Hc := Lib.hid hc
        have Hone := Lib.hid (decS_fits hok hc).one
        have Hlen := Lib.hid (decS_fits hok hc).len
        clear hc
        go_wp2_with fail
        refine (dec1 Hm.out.rise hok hsz (Hv.out.ext (H.ext 1 rfl)) (h.upto + i + 1) H).mono ?_
        rintro e w3 ⟨rfl, _, H3⟩
        rw [Hc.out]
        dsimp only [decV]
        go_wp2_with (first | ((with_reducible refine k_alloc ?_); refine st_alloc rfl _ rfl (.agg zc.toArray) ?_ zc.toArray rfl H3 ?_; (kernel_rfl); (clear H3; intro gc w4 H3 K hK; go_simp)) | ((with_reducible refine k_store ?_); refine st_put rfl _ _ _ rfl _ rfl _ rfl ?_ ?_ H3 0 rfl ?_ ?_; (exact Hone.out); (rw [List.size_toArray, Hlen.out]; exact s32); (rw [List.size_toArray, Hlen.out]; rfl); (clear H3; intro w H3 K hK; go_simp)))
        go_roundw
        case rel => exact ⟨i + 1, by simp; omega, by simp; omega, H3.sel 3 [1, 2]⟩
        case measure => simp [intOf]; omega
      · have hn := edge_none Hm.out heq
        have Hn := Lib.hid hn
        have Heq := Lib.hid heq
        clear hn heq hi
        go_wp2_with fail
        refine (dec1 Hm.out.rise hok hsz (Hv.out.ext (H.ext 1 rfl)) (h.upto + i + 1) H).mono ?_
        rintro e w3 ⟨rfl, _, H3⟩
        rw [Hn.out]
        dsimp only [decV]
        go_wp2_with (first | ((with_reducible refine k_alloc ?_); refine st_alloc rfl _ rfl (.agg zc.toArray) ?_ zc.toArray rfl H3 ?_; (kernel_rfl); (clear H3; intro gc w4 H3 K hK; go_simp)) | ((with_reducible refine k_store ?_); refine st_put rfl _ _ _ rfl _ rfl _ rfl ?_ ?_ H3 0 rfl ?_ ?_; (simp [Value.oneCell', zc]); (kernel_rfl); (simp [zc]); (clear H3; intro w H3 K hK; go_simp)))
        go_ret
        exact ⟨by rw [← Heq.out]; rfl, H3.ext 2 rfl, (H3.sel 3 [2]).lift0 H0.out⟩
end
end Md
end Go.Proofs.Ytjobojgmadjmfaa
