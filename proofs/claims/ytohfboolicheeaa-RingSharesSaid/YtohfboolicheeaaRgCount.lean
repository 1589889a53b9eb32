/-
  The document's count of the hashes for which a server is the first.
-/
import Derived.Test.YtohfboolicheeaaRgCnt
namespace Go.Proofs.Ytohfboolicheeaa
open Go.Hp Go.RowKit
set_option linter.unusedVariables false
set_option linter.unusedSimpArgs false
set_option maxRecDepth 100000
set_option maxHeartbeats 2000000
namespace Rg
section
variable {w0 w : World} {L : List HProp}
theorem rcount {v : Value} {c : Cf} {S : List Int} {pts : List Pt} (hr : RgF 45 w v c S pts) (hh : ∀ p ∈ pts, 0 ≤ p.h ∧ p.h < 4294967296) (hsz : pts.length ≤ 100000) (hpos : 0 < pts.length) (server : Int)
    (H : At w0 L w) : Calls Try.prog 20 #[v, .int .i64 server] w (Ret w0 (.int .i64 (countS pts server)) L) := by
  obtain ⟨W, rfl⟩ : ∃ W : World, W = w := ⟨_, rfl⟩
  have HF := At.of W
  have H0 := Lib.hid H
  obtain ⟨g, s1, s2, s3, p1, p2, p3, rfl, hg, hS, hp⟩ := hr
  have Hg := Lib.hid (fun (w2 : World) (hx : Ext W w2) => hx.cell (show W.cell? ⟨g, 6, none⟩ = some (.slice p1 p2 p3) from by
    have := cells_of hg 6 (.slice p1 p2 p3) rfl
    rwa [Addr.add_lit, Nat.zero_add] at this))
  obtain ⟨ad, cap, hv, c1, c2, c3⟩ := hp.value
  cases hv
  rw [List.length_map] at c1 c3 hp Hg
  have HV := Lib.hid hp
  obtain ⟨b, rfl⟩ := c3 hpos
  obtain ⟨z, hz⟩ : ∃ z, pts[pts.length - 1]? = some z := ⟨_, List.getElem?_eq_getElem (by omega)⟩
  have hlast : lastH pts = z.h := by
    unfold lastH
    rw [List.getLast?_eq_getElem?, hz]
  have Hz := Lib.hid (fun (w2 : World) (hxx : Ext W w2) => hxx.cell (show W.cell? (b.add ((pts.length - 1) * 3)) = some (.int .i64 z.h) from by
    have := recs_get hp hz 0 _ rfl
    rwa [Addr.add_add, Nat.add_zero] at this))
  have hzb := hh z (List.mem_of_getElem? hz)
  obtain ⟨zh, hzh⟩ : ∃ zh, z.h = zh := ⟨_, rfl⟩
  rw [hzh] at hzb hlast Hz
  have HH := Lib.hid hh
  obtain ⟨R, hR⟩ : ∃ R, countS pts server = R := ⟨_, rfl⟩
  have HR := Lib.hid (show cnt server (zh - 4294967296) pts = R by rw [← hR]; unfold countS; rw [hlast])
  have HPL := Lib.hid (show (((pts.length - 1 : Nat)) : Int) = (pts.length : Int) - 1 by omega)
  rw [hR]
  clear H hp hS hg hh hz hlast hR hzh
  go_enter Try.func20, Try.ntmps20
  go_wp2_with fail
  go_loopw [5, 6] (fun a i wr => ∃ (k : Nat) (n last : Int), k ≤ pts.length ∧ a = .int .i64 n ∧ i = .int .i64 k ∧ Hid (n + cnt server last (pts.drop k) = R) ∧ Hid (k = 0 → last = zh - 4294967296) ∧ Hid (0 < k → ∃ q, pts[k - 1]? = some q ∧ q.h = last) ∧ (-(k * 8589934592 : Int) ≤ n ∧ n ≤ k * 8589934592) ∧ (-4294967296 ≤ last ∧ last < 4294967296) ∧ At W (Arg W :: []) wr) (fun _ i _ => pts.length - (intOf i).toNat)
  case atStart => exact ⟨0, 0, zh - 4294967296, Nat.zero_le _, rfl, rfl, Lib.hid (by rw [List.drop_zero, Int.zero_add]; exact HR.out), Lib.hid (fun _ => rfl), Lib.hid (fun h => absurd h (Nat.lt_irrefl _)), by omega, by omega, HF⟩
  case round =>
    clear HF
    obtain ⟨k, n, last, hk, rfl, rfl, HI, HL0, HL1, hn, hla, HF⟩ := hrel
    by_cases hlt : k < pts.length
    · have gk : (k : Int) < pts.length := by omega
      obtain ⟨p, hp⟩ : ∃ p, pts[k]? = some p := ⟨_, List.getElem?_eq_getElem hlt⟩
      have Hc := Lib.hid (fun (w2 : World) (hxx : Ext W w2) j u hj => hxx.cell (recs_get HV.out hp j u hj))
      have hpb := HH.out p (List.mem_of_getElem? hp)
      have HS := Lib.hid (cnt_step (server := server) (last := last) hp)
      have HP := Lib.hid hp
      obtain ⟨ph, ps, pn⟩ := p
      dsimp only at hpb HS
      have Hc0 := Lib.hid (fun (w2 : World) (hxx : Ext W w2) => show w2.cell? (b.add (k * 3)) = some (.int .i64 ph) from by
        have := Hc.out w2 hxx 0 _ rfl
        rwa [Addr.add_add, Nat.add_zero] at this)
      clear hp
      by_cases he : ps = server
      · have HS2 := Lib.hid (show n + (ph - last) + cnt server ph (pts.drop (k + 1)) = R by have := HI.out; rw [HS.out, if_pos he] at this; omega)
        subst he
        rcases Nat.eq_zero_or_pos k with hk0 | hk0
        · have hl := HL0.out hk0
          have g0 : ¬ (0 : Int) < (k : Int) := by omega
          have HK0 := Lib.hid hk0
          have Hf := Lib.hid (fun (w2 : World) (hxx : Ext W w2) => show w2.cell? (b.add (0 * 3)) = some (.int .i64 ph) from by have := Hc0.out w2 hxx; rwa [HK0.out] at this)
          have gp : (0 : Int) < pts.length := by omega
          clear hk0
          go_wp2_with (first | ((with_reducible refine k_load ?_); (first | refine st_load1 rfl _ _ rfl _ rfl rfl (Hg.out _ (HF.ext 0 rfl)) ?_ | refine st_load1 rfl _ _ rfl _ rfl rfl (Hc.out _ (HF.ext 0 rfl) 1 _ rfl) ?_); (intro K hK; go_simp)))
          have hwl : IntKind.i64.wrap ((pts.length : Int) - 1) = ((pts.length - 1 : Nat) : Int) := by rw [HPL.out]; exact IntWalk.i64_in _ (by omega)
          have gl : ((pts.length - 1 : Nat) : Int) < pts.length := by omega
          have hw1 : IntKind.i64.wrap (ph + 4294967296) = ph + 4294967296 := IntWalk.i64_in _ (by omega)
          have hw2 : IntKind.i64.wrap (ph + 4294967296 - zh) = ph - last := by rw [IntWalk.i64_in _ (by omega)]; omega
          have hw3 : IntKind.i64.wrap (n + (ph - last)) = n + (ph - last) := IntWalk.i64_in _ (by omega)
          have HL := Lib.hid hl
          clear hl
          apply wp_region_effN [0] (fun i => (#[[], [], [], [], [], [], [], [], [], [], [], [], [], [], [], [], [], [], [], [], [], [], [], [0], [0]] : Array (List Nat)).getD i []) (fun val i => ((val 0 :: _ :: _ :: _ :: .slice (some b) pts.length p3 :: _ :: _ :: .int .i64 ph :: .int .i64 (ph + 4294967296) :: _ :: _ :: _ :: .slice (some b) pts.length p3 :: _ :: _ :: _ :: .slice (some b) pts.length p3 :: _ :: .int .i64 ((pts.length - 1 : Nat) : Int) :: _ :: _ :: .int .i64 zh :: .int .i64 (ph - last) :: .int .i64 (n + (ph - last)) :: _ :: []) : List Value).toArray.getD i undef) (fun E val => At W (Arg W :: (if E 0 = true then pur (val 0 = .int .i64 n) else emp) :: [])) (by kernel_rfl) (by kernel_rfl) (by kernel_rfl) (by kernel_rfl) (HF.addEmp.sel 2 [1, 0])
          case step =>
            refine ⟨eff_mkN rfl (fun _ => by rfl) fun E val hE0 hcl hn T ds w K H hk ho hK => ?_, ?_⟩; rotate_left
            iterate 24 (refine ⟨eff_plN rfl (fun _ => by rfl) fun E val hn T ds w K H hk ho hK => ?_, ?_⟩; rotate_left)
            exact trivial
            · have o5 := ho 5 (by kernel_rfl); clear ho; simp [know, dstAt, Region.binds] at hk o5
              go_simp; refine hK _ _ ?_; have t0 : updE E 0 0 = true := rfl; simp only [t0, if_true]; exact (At.pure (rfl : Value.int .i64 n = .int .i64 n) H).sel 3 [1, 0]
            · have o0 := ho 0 (by kernel_rfl); clear ho; simp [know, dstAt, Region.binds] at hk o0; go_simp; exact hK _ H
            · clear ho; simp [know, dstAt, Region.binds] at hk; go_simp; exact hK _ H
            · clear ho; simp [know, dstAt, Region.binds] at hk; go_simp; exact hK _ H
            · clear ho; simp [know, dstAt, Region.binds] at hk
              (refine op_load1T rfl hk (by kernel_rfl) (Hg.out _ (H.ext 0 rfl)) ?_; exact hK _ H)
            · clear ho; simp [know, dstAt, Region.binds] at hk; go_simp; exact hK _ H
            · clear ho; simp [know, dstAt, Region.binds] at hk; go_simp; exact hK _ H
            · clear ho; simp [know, dstAt, Region.binds] at hk
              (refine op_load1T rfl hk (by kernel_rfl) (Hf.out _ (H.ext 0 rfl)) ?_; exact hK _ H)
            · clear ho; simp [know, dstAt, Region.binds] at hk; go_simp; exact hK _ H
            · have o0 := ho 0 (by kernel_rfl); clear ho; simp [know, dstAt, Region.binds] at hk o0; go_simp; exact hK _ H
            · clear ho; simp [know, dstAt, Region.binds] at hk; go_simp; exact hK _ H
            · clear ho; simp [know, dstAt, Region.binds] at hk; go_simp; exact hK _ H
            · clear ho; simp [know, dstAt, Region.binds] at hk
              (refine op_load1T rfl hk (by kernel_rfl) (Hg.out _ (H.ext 0 rfl)) ?_; exact hK _ H)
            · have o0 := ho 0 (by kernel_rfl); clear ho; simp [know, dstAt, Region.binds] at hk o0; go_simp; exact hK _ H
            · clear ho; simp [know, dstAt, Region.binds] at hk; go_simp; exact hK _ H
            · clear ho; simp [know, dstAt, Region.binds] at hk; go_simp; exact hK _ H
            · clear ho; simp [know, dstAt, Region.binds] at hk
              (refine op_load1T rfl hk (by kernel_rfl) (Hg.out _ (H.ext 0 rfl)) ?_; exact hK _ H)
            · clear ho; simp [know, dstAt, Region.binds] at hk; go_simp; exact hK _ H
            · clear ho; simp [know, dstAt, Region.binds] at hk; go_simp; exact hK _ H
            · clear ho; simp [know, dstAt, Region.binds] at hk; go_simp; exact hK _ H
            · clear ho; simp [know, dstAt, Region.binds] at hk; go_simp; exact hK _ H
            · clear ho; simp [know, dstAt, Region.binds] at hk
              (refine op_load1T rfl hk (by kernel_rfl) (Hz.out _ (H.ext 0 rfl)) ?_; exact hK _ H)
            · clear ho; simp [know, dstAt, Region.binds] at hk; go_simp; exact hK _ H
            · clear ho; simp [know, dstAt, Region.binds] at hk
              first | (have e0 := hn 0 (by decide); simp only [e0, if_true] at H; (have hv0 := (At.unpure (H.pick 1 rfl)).1); have hk1 := hk.1.trans hv0; have hk2 := hk.2; clear hk hv0; go_simp; exact hK _ (by simp only [e0, if_true]; exact H)) | (go_simp; exact hK _ H)
            · clear ho; simp [know, dstAt, Region.binds] at hk; go_simp; exact hK _ H
          case ins =>
            refine ⟨ins_mk rfl (fun _ => rfl), ?_⟩
            iterate 22 (refine ⟨ins_pl rfl (fun _ _ _ => rfl), ?_⟩)
            iterate 2 (refine ⟨ins_pl rfl (fun val val' h => by first | rfl | ((have h0 := h 0 (by decide)); first | (simp only [h0]; done) | (simp only [h0]; rfl))), ?_⟩)
            exact trivial
          case jns =>
            refine ⟨j_mk rfl, ?_⟩
            iterate 24 (refine ⟨j_pl (fun _ _ _ => rfl), ?_⟩)
            exact trivial
          case fin =>
            intro E val w5 hE H
            clear HF hE hwl gl hw1 hw2 hw3
            have HF := H.sel 2 [0]
            clear H
            simp [putAll, Act.put]
            go_wp2_with fail
            go_roundw
            case rel => exact ⟨k + 1, n + (ph - last), ph, by omega, rfl, rfl, Lib.hid HS2.out, Lib.hid (fun h => absurd h (Nat.succ_ne_zero _)), Lib.hid (fun _ => ⟨_, HP.out, rfl⟩), by omega, by omega, HF⟩
            case measure => simp [intOf]; omega
        · obtain ⟨q, hq, hql⟩ := HL1.out hk0
          have g0 : (0 : Int) < (k : Int) := by omega
          have Hq := Lib.hid (fun (w2 : World) (hxx : Ext W w2) => hxx.cell (show W.cell? (b.add ((k - 1) * 3)) = some (.int .i64 last) from by
            have := recs_get HV.out hq 0 _ rfl
            rw [Addr.add_add, Nat.add_zero] at this
            rw [this, hql]))
          clear hq hql
          go_wp2_with (first | ((with_reducible refine k_load ?_); (first | refine st_load1 rfl _ _ rfl _ rfl rfl (Hg.out _ (HF.ext 0 rfl)) ?_ | refine st_load1 rfl _ _ rfl _ rfl rfl (Hc.out _ (HF.ext 0 rfl) 1 _ rfl) ?_); (intro K hK; go_simp)))
          have hwk : IntKind.i64.wrap ((k : Int) - 1) = ((k - 1 : Nat) : Int) := by rw [IntWalk.i64_in _ (by omega)]; omega
          have gk1 : ((k - 1 : Nat) : Int) < pts.length := by omega
          have hw2 : IntKind.i64.wrap (ph - last) = ph - last := IntWalk.i64_in _ (by omega)
          have hw3 : IntKind.i64.wrap (n + (ph - last)) = n + (ph - last) := IntWalk.i64_in _ (by omega)
          apply wp_region_effN [0] (fun i => (#[[], [], [], [], [], [], [], [], [], [], [], [], [], [], [], [], [], [], [], [0], [0]] : Array (List Nat)).getD i []) (fun val i => ((val 0 :: _ :: _ :: _ :: .slice (some b) pts.length p3 :: _ :: _ :: _ :: .int .i64 ph :: _ :: _ :: _ :: .slice (some b) pts.length p3 :: _ :: .int .i64 ((k - 1 : Nat) : Int) :: _ :: _ :: .int .i64 last :: .int .i64 (ph - last) :: .int .i64 (n + (ph - last)) :: _ :: []) : List Value).toArray.getD i undef) (fun E val => At W (Arg W :: (if E 0 = true then pur (val 0 = .int .i64 n) else emp) :: [])) (by kernel_rfl) (by kernel_rfl) (by kernel_rfl) (by kernel_rfl) (HF.addEmp.sel 2 [1, 0])
          case step =>
            refine ⟨eff_mkN rfl (fun _ => by rfl) fun E val hE0 hcl hn T ds w K H hk ho hK => ?_, ?_⟩; rotate_left
            iterate 20 (refine ⟨eff_plN rfl (fun _ => by rfl) fun E val hn T ds w K H hk ho hK => ?_, ?_⟩; rotate_left)
            exact trivial
            · have o5 := ho 5 (by kernel_rfl); clear ho; simp [know, dstAt, Region.binds] at hk o5
              go_simp; refine hK _ _ ?_; have t0 : updE E 0 0 = true := rfl; simp only [t0, if_true]; exact (At.pure (rfl : Value.int .i64 n = .int .i64 n) H).sel 3 [1, 0]
            · have o0 := ho 0 (by kernel_rfl); clear ho; simp [know, dstAt, Region.binds] at hk o0; go_simp; exact hK _ H
            · clear ho; simp [know, dstAt, Region.binds] at hk; go_simp; exact hK _ H
            · clear ho; simp [know, dstAt, Region.binds] at hk; go_simp; exact hK _ H
            · clear ho; simp [know, dstAt, Region.binds] at hk
              (refine op_load1T rfl hk (by kernel_rfl) (Hg.out _ (H.ext 0 rfl)) ?_; exact hK _ H)
            · have o6 := ho 6 (by kernel_rfl); clear ho; simp [know, dstAt, Region.binds] at hk o6; go_simp; exact hK _ H
            · clear ho; simp [know, dstAt, Region.binds] at hk; go_simp; exact hK _ H
            · clear ho; simp [know, dstAt, Region.binds] at hk; go_simp; exact hK _ H
            · clear ho; simp [know, dstAt, Region.binds] at hk
              (refine op_load1T rfl hk (by kernel_rfl) (Hc0.out _ (H.ext 0 rfl)) ?_; exact hK _ H)
            · have o0 := ho 0 (by kernel_rfl); clear ho; simp [know, dstAt, Region.binds] at hk o0; go_simp; exact hK _ H
            · clear ho; simp [know, dstAt, Region.binds] at hk; go_simp; exact hK _ H
            · clear ho; simp [know, dstAt, Region.binds] at hk; go_simp; exact hK _ H
            · clear ho; simp [know, dstAt, Region.binds] at hk
              (refine op_load1T rfl hk (by kernel_rfl) (Hg.out _ (H.ext 0 rfl)) ?_; exact hK _ H)
            · have o6 := ho 6 (by kernel_rfl); clear ho; simp [know, dstAt, Region.binds] at hk o6; go_simp; exact hK _ H
            · clear ho; simp [know, dstAt, Region.binds] at hk; go_simp; exact hK _ H
            · clear ho; simp [know, dstAt, Region.binds] at hk; go_simp; exact hK _ H
            · clear ho; simp [know, dstAt, Region.binds] at hk; go_simp; exact hK _ H
            · clear ho; simp [know, dstAt, Region.binds] at hk
              (refine op_load1T rfl hk (by kernel_rfl) (Hq.out _ (H.ext 0 rfl)) ?_; exact hK _ H)
            · clear ho; simp [know, dstAt, Region.binds] at hk; go_simp; exact hK _ H
            · clear ho; simp [know, dstAt, Region.binds] at hk
              first | (have e0 := hn 0 (by decide); simp only [e0, if_true] at H; (have hv0 := (At.unpure (H.pick 1 rfl)).1); have hk1 := hk.1.trans hv0; have hk2 := hk.2; clear hk hv0; go_simp; exact hK _ (by simp only [e0, if_true]; exact H)) | (go_simp; exact hK _ H)
            · clear ho; simp [know, dstAt, Region.binds] at hk; go_simp; exact hK _ H
          case ins =>
            refine ⟨ins_mk rfl (fun _ => rfl), ?_⟩
            iterate 18 (refine ⟨ins_pl rfl (fun _ _ _ => rfl), ?_⟩)
            iterate 2 (refine ⟨ins_pl rfl (fun val val' h => by first | rfl | ((have h0 := h 0 (by decide)); first | (simp only [h0]; done) | (simp only [h0]; rfl))), ?_⟩)
            exact trivial
          case jns =>
            refine ⟨j_mk rfl, ?_⟩
            iterate 20 (refine ⟨j_pl (fun _ _ _ => rfl), ?_⟩)
            exact trivial
          case fin =>
            intro E val w5 hE H
            clear HF hE hwk gk1 hw2 hw3
            have HF := H.sel 2 [0]
            clear H
            simp [putAll, Act.put]
            go_wp2_with fail
            go_roundw
            case rel => exact ⟨k + 1, n + (ph - last), ph, by omega, rfl, rfl, Lib.hid HS2.out, Lib.hid (fun h => absurd h (Nat.succ_ne_zero _)), Lib.hid (fun _ => ⟨_, HP.out, rfl⟩), by omega, by omega, HF⟩
            case measure => simp [intOf]; omega
      · have HS2 := Lib.hid (show n + cnt server ph (pts.drop (k + 1)) = R by have := HI.out; rw [HS.out, if_neg he] at this; omega)
        have heb : (ps == server) = false := by rw [beq_eq_false_iff_ne]; exact he
        go_wp2_with (first | ((with_reducible refine k_load ?_); (first | refine st_load1 rfl _ _ rfl _ rfl rfl (Hg.out _ (HF.ext 0 rfl)) ?_ | refine st_load1 rfl _ _ rfl _ rfl rfl (Hc.out _ (HF.ext 0 rfl) 1 _ rfl) ?_); (intro K hK; go_simp)))
        go_roundw
        case rel => exact ⟨k + 1, n, ph, by omega, rfl, rfl, Lib.hid HS2.out, Lib.hid (fun h => absurd h (Nat.succ_ne_zero _)), Lib.hid (fun _ => ⟨_, HP.out, rfl⟩), by omega, by omega, HF⟩
        case measure => simp [intOf]; omega
    · have hk8 : k = pts.length := by omega
      subst hk8
      have hnR : n = R := by have := HI.out; rw [List.drop_length] at this; simpa [cnt] using this
      subst hnR
      have gk : ¬ ((pts.length : Nat) : Int) < pts.length := by omega
      go_wp2_with (first | ((with_reducible refine k_load ?_); refine st_load1 rfl _ _ rfl _ rfl rfl (Hg.out _ (HF.ext 0 rfl)) ?_; (intro K hK; go_simp)))
      go_ret
      exact ⟨rfl, HF.lift0 H0.out⟩
end
end Rg
end Go.Proofs.Ytohfboolicheeaa
