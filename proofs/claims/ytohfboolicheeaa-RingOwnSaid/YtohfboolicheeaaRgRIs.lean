/-
  The document's configurations and servers in rising order.
-/
import Derived.Test.YtohfboolicheeaaRgRight
namespace Go.Proofs.Ytohfboolicheeaa
open Go.Hp Go.RowKit
set_option linter.unusedVariables false
set_option linter.unusedSimpArgs false
set_option maxRecDepth 100000
set_option maxHeartbeats 2000000
namespace Rg
section
variable {w0 w : World} {L : List HProp}

theorem nodup_step {S : List Int} {k : Nat} {s : Int} (hs : S[k]? = some s) (hd : (S.take k).Nodup) (hn : ∀ j x, j < k → S[j]? = some x → x ≠ s) : (S.take (k + 1)).Nodup := by
  rw [List.take_add_one, hs, Option.toList_some, List.nodup_append]
  refine ⟨hd, by simp, fun a ha b hb => ?_⟩
  rw [List.mem_singleton] at hb
  subst hb
  obtain ⟨j, hj⟩ := List.getElem?_of_mem ha
  have hjl := (List.getElem?_eq_some_iff.1 hj).1
  rw [List.length_take] at hjl
  rw [List.getElem?_take_of_lt (by omega)] at hj
  exact hn j a (by omega) hj
theorem not_nodup {S : List Int} {j k : Nat} {s : Int} (hj : S[j]? = some s) (hk : S[k]? = some s) (h : j < k) : ¬ S.Nodup := by
  intro hn
  rw [List.Nodup, List.pairwise_iff_getElem] at hn
  obtain ⟨h1, e1⟩ := List.getElem?_eq_some_iff.1 hj
  obtain ⟨h2, e2⟩ := List.getElem?_eq_some_iff.1 hk
  exact hn j k h1 h2 h (e1.trans e2.symm)

theorem isC {v : Value} {c : Cf} {S : List Int} (hv : RecsAt w v 1 (S.map iC)) (H : At w0 L w) :
    Calls Try.prog 22 #[.agg #[v, .int .i64 c.F, .int .i64 c.P, .int .i64 c.B, .int .i64 c.K, .int .i64 c.R]] w (RightPost w0 L c S) := by
  obtain ⟨W, rfl⟩ : ∃ W : World, W = w := ⟨_, rfl⟩
  have HF := At.of W
  have H0 := Lib.hid H
  obtain ⟨ad, cap, rfl, c1, c2, c3⟩ := hv.value
  rw [List.length_map] at c1 c3 hv ⊢
  have HV := Lib.hid hv
  have C3 := Lib.hid c3
  have hl63 : S.length ≤ 9223372036854775807 := by simp only [maxLen] at c2; omega
  obtain ⟨cF, cP, cB, cK, cR⟩ := c
  dsimp only
  clear H hv c3
  by_cases f1 : cF < 0
  · go_enter Try.func22, Try.ntmps22
    go_wp2_with (first | ((with_reducible refine k_box ?_); refine st_box rfl _ _ rfl _ rfl HF ?_; (clear HF; intro g1 w HF K hK; simp only [Value.cells, Act.eval, Value.cells, Array.getD_eq_getD_getElem?, List.getElem?_toArray, List.getElem?_cons_succ, List.getElem?_cons_zero, Option.getD_some] at HF; go_simp)) | ((with_reducible refine k_load ?_); refine st_load rfl _ _ rfl _ _ rfl ?_ HF 0 rfl rfl ?_; (kernel_rfl); (intro K hK; go_simp)))
    go_ret
    exact ⟨_, rfl, ⟨fun h => (by cases h), fun h => absurd h.f.1 (show ¬ 0 ≤ cF by omega)⟩, (HF.sel 2 [1]).lift0 H0.out⟩
  · by_cases f2 : 3 < cF
    · go_enter Try.func22, Try.ntmps22
      go_wp2_with (first | ((with_reducible refine k_box ?_); refine st_box rfl _ _ rfl _ rfl HF ?_; (clear HF; intro g1 w HF K hK; simp only [Value.cells, Act.eval, Value.cells, Array.getD_eq_getD_getElem?, List.getElem?_toArray, List.getElem?_cons_succ, List.getElem?_cons_zero, Option.getD_some] at HF; go_simp)) | ((with_reducible refine k_load ?_); refine st_load rfl _ _ rfl _ _ rfl ?_ HF 0 rfl rfl ?_; (kernel_rfl); (intro K hK; go_simp)))
      go_ret
      exact ⟨_, rfl, ⟨fun h => (by cases h), fun h => absurd h.f.2 (show ¬ cF ≤ 3 by omega)⟩, (HF.sel 2 [1]).lift0 H0.out⟩
    · have hw1 : wrap64 (2 * cF) = 2 * cF := wrap64_of (by omega) (by omega)
      have hw2 : wrap64 (2 * cF + 1) = 2 * cF + 1 := wrap64_of (by omega) (by omega)
      by_cases f3 : (S.length : Int) < 2 * cF + 1
      · go_enter Try.func22, Try.ntmps22
        go_wp2_with (first | ((with_reducible refine k_box ?_); refine st_box rfl _ _ rfl _ rfl HF ?_; (clear HF; intro g1 w HF K hK; simp only [Value.cells, Act.eval, Value.cells, Array.getD_eq_getD_getElem?, List.getElem?_toArray, List.getElem?_cons_succ, List.getElem?_cons_zero, Option.getD_some] at HF; go_simp)) | ((with_reducible refine k_load ?_); refine st_load rfl _ _ rfl _ _ rfl ?_ HF 0 rfl rfl ?_; (kernel_rfl); (intro K hK; go_simp)))
        go_ret
        exact ⟨_, rfl, ⟨fun h => (by cases h), fun h => absurd h.n.1 (show ¬ 2 * cF + 1 ≤ (S.length : Int) by omega)⟩, (HF.sel 2 [1]).lift0 H0.out⟩
      · by_cases f4 : (64 : Int) < S.length
        · go_enter Try.func22, Try.ntmps22
          go_wp2_with (first | ((with_reducible refine k_box ?_); refine st_box rfl _ _ rfl _ rfl HF ?_; (clear HF; intro g1 w HF K hK; simp only [Value.cells, Act.eval, Value.cells, Array.getD_eq_getD_getElem?, List.getElem?_toArray, List.getElem?_cons_succ, List.getElem?_cons_zero, Option.getD_some] at HF; go_simp)) | ((with_reducible refine k_load ?_); refine st_load rfl _ _ rfl _ _ rfl ?_ HF 0 rfl rfl ?_; (kernel_rfl); (intro K hK; go_simp)))
          go_ret
          exact ⟨_, rfl, ⟨fun h => (by cases h), fun h => absurd h.n.2 (show ¬ (S.length : Int) ≤ 64 by omega)⟩, (HF.sel 2 [1]).lift0 H0.out⟩
        · go_enter Try.func22, Try.ntmps22
          go_wp2_with (first | ((with_reducible refine k_box ?_); refine st_box rfl _ _ rfl _ rfl HF ?_; (clear HF; intro g1 w HF K hK; simp only [Value.cells, Act.eval, Value.cells, Array.getD_eq_getD_getElem?, List.getElem?_toArray, List.getElem?_cons_succ, List.getElem?_cons_zero, Option.getD_some] at HF; go_simp)) | ((with_reducible refine k_load ?_); refine st_load rfl _ _ rfl _ _ rfl ?_ HF 0 rfl rfl ?_; (kernel_rfl); (intro K hK; go_simp)))
          have HN := Lib.hid (show (0 ≤ cF ∧ cF ≤ 3) ∧ (2 * cF + 1 ≤ S.length ∧ (S.length : Int) ≤ 64) by omega)
          have hl64 : S.length ≤ 64 := by omega
          clear f1 f2 f3 f4 hw1 hw2
          go_loopw [3] (fun i wr => ∃ k : Nat, k ≤ S.length ∧ i = .int .i64 k ∧ Hid ((∀ x ∈ S.take k, 1 ≤ x ∧ x ≤ 255) ∧ (S.take k).Nodup) ∧ At W (Blk g1 (.cells #[.slice ad S.length cap, .int .i64 cF, .int .i64 cP, .int .i64 cB, .int .i64 cK, .int .i64 cR] 29 (0, 0)) :: Arg W :: []) wr) (fun i _ => S.length - (intOf i).toNat)
          case atStart => exact ⟨0, Nat.zero_le _, rfl, Lib.hid ⟨(fun x hx => absurd hx (by simp)), by simp⟩, HF⟩
          case round =>
            clear HF
            obtain ⟨k, hk, rfl, HI, HF⟩ := hrel
            by_cases hlt : k < S.length
            · have gk : (k : Int) < S.length := by omega
              obtain ⟨s, hs⟩ : ∃ s, S[k]? = some s := ⟨_, List.getElem?_eq_getElem hlt⟩
              obtain ⟨ba, rfl⟩ := C3.out (by omega)
              have Hc := Lib.hid (show ∀ w2, Ext W w2 → w2.cell? (ba.add k) = some (.int .i64 s) from fun w2 hx => hx.cell (recs_int HV.out hs))
              have Hs := Lib.hid hs
              have Hm := Lib.hid (List.mem_of_getElem? hs)
              clear hs
              by_cases s1 : s < 1
              · go_wp2_with (first | ((with_reducible refine k_load ?_); refine st_load1 rfl _ _ rfl _ rfl rfl (Hc.out _ (HF.ext 1 rfl)) ?_; (intro K hK; go_simp)) | ((with_reducible refine k_load ?_); refine st_load rfl _ _ rfl _ _ rfl ?_ HF 0 rfl rfl ?_; (kernel_rfl); (intro K hK; go_simp)))
                go_ret
                exact ⟨_, rfl, ⟨fun h => (by cases h), fun h => absurd (h.s s Hm.out).1 (show ¬ 1 ≤ s by omega)⟩, (HF.sel 2 [1]).lift0 H0.out⟩
              · by_cases s2 : 255 < s
                · go_wp2_with (first | ((with_reducible refine k_load ?_); refine st_load1 rfl _ _ rfl _ rfl rfl (Hc.out _ (HF.ext 1 rfl)) ?_; (intro K hK; go_simp)) | ((with_reducible refine k_load ?_); refine st_load rfl _ _ rfl _ _ rfl ?_ HF 0 rfl rfl ?_; (kernel_rfl); (intro K hK; go_simp)))
                  go_ret
                  exact ⟨_, rfl, ⟨fun h => (by cases h), fun h => absurd (h.s s Hm.out).2 (show ¬ s ≤ 255 by omega)⟩, (HF.sel 2 [1]).lift0 H0.out⟩
                · go_wp2_with (first | ((with_reducible refine k_load ?_); refine st_load1 rfl _ _ rfl _ rfl rfl (Hc.out _ (HF.ext 1 rfl)) ?_; (intro K hK; go_simp)) | ((with_reducible refine k_load ?_); refine st_load rfl _ _ rfl _ _ rfl ?_ HF 0 rfl rfl ?_; (kernel_rfl); (intro K hK; go_simp)))
                  have Hr := Lib.hid (show 1 ≤ s ∧ s ≤ 255 by omega)
                  clear s1 s2
                  go_loopw [4] (fun i wr => ∃ j : Nat, j ≤ k ∧ i = .int .i64 j ∧ Hid (∀ q x, q < j → S[q]? = some x → x ≠ s) ∧ At W (Blk g1 (.cells #[.slice (some ba) S.length cap, .int .i64 cF, .int .i64 cP, .int .i64 cB, .int .i64 cK, .int .i64 cR] 29 (0, 0)) :: Arg W :: []) wr) (fun i _ => k - (intOf i).toNat)
                  case atStart => exact ⟨0, Nat.zero_le _, rfl, Lib.hid (fun q x h => absurd h (Nat.not_lt_zero _)), HF⟩
                  case round =>
                    clear HF
                    obtain ⟨j, hj, rfl, HJ, HF⟩ := hrel
                    by_cases hlt2 : j < k
                    · have gj : (j : Int) < k := by omega
                      have gj2 : (j : Int) < S.length := by omega
                      obtain ⟨x, hx⟩ : ∃ x, S[j]? = some x := ⟨_, List.getElem?_eq_getElem (by omega)⟩
                      have Hx := Lib.hid (show ∀ w2, Ext W w2 → w2.cell? (ba.add j) = some (.int .i64 x) from fun w2 hxx => hxx.cell (recs_int HV.out hx))
                      have Hxx := Lib.hid hx
                      clear hx
                      obtain ⟨bq, hbq⟩ : ∃ b : Bool, (x == s) = b := ⟨_, rfl⟩
                      have HBQ := Lib.hid hbq
                      go_wp2_with fail
                      apply wp_region_eff [] (fun i => (#[[], [], [], [], [], [], [], [], [], [], []] : Array (List Nat)).getD i []) (fun val i => ((_ :: .slice (some ba) S.length cap :: _ :: _ :: .int .i64 x :: _ :: .slice (some ba) S.length cap :: _ :: _ :: .int .i64 s :: .bool bq :: []) : List Value).toArray.getD i undef) (fun E val => At W (Blk g1 (.cells #[.slice (some ba) S.length cap, .int .i64 cF, .int .i64 cP, .int .i64 cB, .int .i64 cK, .int .i64 cR] 29 (0, 0)) :: Arg W :: [])) (by kernel_rfl) (by kernel_rfl) (by kernel_rfl) (by kernel_rfl) (HF)
                      case step =>
                        iterate 11 (refine ⟨eff_pl rfl (fun _ => by rfl) fun E val hn T ds w K H hk ho hK => ?_, ?_⟩; rotate_left)
                        exact trivial
                        · have o1 := ho 1 (by kernel_rfl); clear ho; simp [know, dstAt, Region.binds] at hk o1; go_simp; exact hK _ H
                        · clear ho; simp [know, dstAt, Region.binds] at hk
                          (refine op_loadT rfl hk ?_ H 0 rfl rfl ?_; (kernel_rfl); exact hK _ H)
                        · have o4 := ho 4 (by kernel_rfl); clear ho; simp [know, dstAt, Region.binds] at hk o4; go_simp; exact hK _ H
                        · clear ho; simp [know, dstAt, Region.binds] at hk; go_simp; exact hK _ H
                        · clear ho; simp [know, dstAt, Region.binds] at hk
                          (refine op_load1T rfl hk (by kernel_rfl) (Hx.out _ (H.ext 1 rfl)) ?_; exact hK _ H)
                        · have o1 := ho 1 (by kernel_rfl); clear ho; simp [know, dstAt, Region.binds] at hk o1; go_simp; exact hK _ H
                        · clear ho; simp [know, dstAt, Region.binds] at hk
                          (refine op_loadT rfl hk ?_ H 0 rfl rfl ?_; (kernel_rfl); exact hK _ H)
                        · have o3 := ho 3 (by kernel_rfl); clear ho; simp [know, dstAt, Region.binds] at hk o3; go_simp; exact hK _ H
                        · clear ho; simp [know, dstAt, Region.binds] at hk; go_simp; exact hK _ H
                        · clear ho; simp [know, dstAt, Region.binds] at hk
                          (refine op_load1T rfl hk (by kernel_rfl) (Hc.out _ (H.ext 1 rfl)) ?_; exact hK _ H)
                        · clear ho; simp [know, dstAt, Region.binds] at hk; go_simp; exact hK _ H
                      case ins =>
                        iterate 11 (refine ⟨ins_pl rfl (fun _ _ _ => rfl), ?_⟩)
                        exact trivial
                      case jns =>
                        iterate 11 (refine ⟨j_pl (fun _ _ _ => rfl), ?_⟩)
                        exact trivial
                      case fin =>
                        intro E val w5 hE H
                        clear HF hE
                        have HF := H
                        clear H hbq
                        simp [putAll, Act.put]
                        cases bq with
                        | true =>
                          have hxs : x = s := by have := HBQ.out; simpa using this
                          subst hxs
                          have HN2 := Lib.hid (not_nodup Hxx.out Hs.out hlt2)
                          go_wp2_with fail
                          go_ret
                          exact ⟨_, rfl, ⟨fun h => (by cases h), fun h => absurd h.d HN2.out⟩, (HF.sel 2 [1]).lift0 H0.out⟩
                        | false =>
                          have hxs : x ≠ s := by have := HBQ.out; simpa using this
                          have HN2 := Lib.hid (show ∀ q y, q < j + 1 → S[q]? = some y → y ≠ s from fun q y hq hy => by
                            rcases Nat.lt_or_ge q j with h | h
                            · exact HJ.out q y h hy
                            · have e : q = j := by omega
                              subst e
                              rw [Hxx.out] at hy
                              cases hy
                              exact hxs)
                          clear hxs
                          go_wp2_with fail
                          go_roundw
                          case rel => exact ⟨j + 1, by omega, rfl, Lib.hid HN2.out, HF⟩
                          case measure => simp [intOf]; omega
                    · have hjk : j = k := by omega
                      subst hjk
                      have HN2 := Lib.hid (show (∀ x ∈ S.take (j + 1), 1 ≤ x ∧ x ≤ 255) ∧ (S.take (j + 1)).Nodup from by
                        obtain ⟨i1, i2⟩ := HI.out
                        refine ⟨fun x hx => ?_, nodup_step Hs.out i2 HJ.out⟩
                        rw [List.take_add_one, Hs.out, Option.toList_some] at hx
                        rcases List.mem_append.1 hx with h | h
                        · exact i1 x h
                        · rw [List.mem_singleton] at h; subst h; exact Hr.out)
                      go_wp2_with fail
                      go_roundw
                      case rel => exact ⟨j + 1, by omega, rfl, Lib.hid HN2.out, HF⟩
                      case measure => simp [intOf]; omega
            · have gk : ¬ (k : Int) < S.length := by omega
              have HA := Lib.hid (show (∀ x ∈ S, 1 ≤ x ∧ x ≤ 255) ∧ S.Nodup from by
                obtain ⟨i2, i3⟩ := HI.out
                rw [List.take_of_length_le (by omega)] at i2 i3
                exact ⟨i2, i3⟩)
              clear HI
              go_wp2_with ((with_reducible refine k_load ?_); refine st_load rfl _ _ rfl _ _ rfl ?_ HF 0 rfl rfl ?_; (kernel_rfl); (intro K hK; go_simp))
              obtain ⟨b1, hb1⟩ : ∃ b, inS cP 1 64 = b := ⟨_, rfl⟩
              have hw := rwithin HF cP 1 64
              rw [hb1] at hw
              refine hw.mono ?_
              rintro e w2 ⟨rfl, HX⟩
              clear HF hw
              have HF := HX
              clear HX
              have HB1 := Lib.hid hb1
              clear hb1
              cases b1 with
              | false =>
                go_wp2_with ((with_reducible refine k_load ?_); refine st_load rfl _ _ rfl _ _ rfl ?_ HF 0 rfl rfl ?_; (kernel_rfl); (intro K hK; go_simp))
                go_ret
                exact ⟨_, rfl, ⟨fun h => (by cases h), fun h => absurd h.p (inS_false.1 HB1.out)⟩, (HF.sel 2 [1]).lift0 H0.out⟩
              | true =>
                go_wp2_with ((with_reducible refine k_load ?_); refine st_load rfl _ _ rfl _ _ rfl ?_ HF 0 rfl rfl ?_; (kernel_rfl); (intro K hK; go_simp))
                obtain ⟨b2, hb2⟩ : ∃ b, inS cB 1 256 = b := ⟨_, rfl⟩
                have hw := rwithin HF cB 1 256
                rw [hb2] at hw
                refine hw.mono ?_
                rintro e w2 ⟨rfl, HX⟩
                clear HF hw
                have HF := HX
                clear HX
                have HB2 := Lib.hid hb2
                clear hb2
                cases b2 with
                | false =>
                  go_wp2_with ((with_reducible refine k_load ?_); refine st_load rfl _ _ rfl _ _ rfl ?_ HF 0 rfl rfl ?_; (kernel_rfl); (intro K hK; go_simp))
                  go_ret
                  exact ⟨_, rfl, ⟨fun h => (by cases h), fun h => absurd h.b (inS_false.1 HB2.out)⟩, (HF.sel 2 [1]).lift0 H0.out⟩
                | true =>
                  go_wp2_with ((with_reducible refine k_load ?_); refine st_load rfl _ _ rfl _ _ rfl ?_ HF 0 rfl rfl ?_; (kernel_rfl); (intro K hK; go_simp))
                  obtain ⟨b3, hb3⟩ : ∃ b, inS cK 1 4096 = b := ⟨_, rfl⟩
                  have hw := rwithin HF cK 1 4096
                  rw [hb3] at hw
                  refine hw.mono ?_
                  rintro e w2 ⟨rfl, HX⟩
                  clear HF hw
                  have HF := HX
                  clear HX
                  have HB3 := Lib.hid hb3
                  clear hb3
                  cases b3 with
                  | false =>
                    go_wp2_with ((with_reducible refine k_load ?_); refine st_load rfl _ _ rfl _ _ rfl ?_ HF 0 rfl rfl ?_; (kernel_rfl); (intro K hK; go_simp))
                    go_ret
                    exact ⟨_, rfl, ⟨fun h => (by cases h), fun h => absurd h.k (inS_false.1 HB3.out)⟩, (HF.sel 2 [1]).lift0 H0.out⟩
                  | true =>
                    go_wp2_with ((with_reducible refine k_load ?_); refine st_load rfl _ _ rfl _ _ rfl ?_ HF 0 rfl rfl ?_; (kernel_rfl); (intro K hK; go_simp))
                    obtain ⟨b4, hb4⟩ : ∃ b, inS cR 1 256 = b := ⟨_, rfl⟩
                    have hw := rwithin HF cR 1 256
                    rw [hb4] at hw
                    refine hw.mono ?_
                    rintro e w2 ⟨rfl, HX⟩
                    clear HF hw
                    have HF := HX
                    clear HX
                    have HB4 := Lib.hid hb4
                    clear hb4
                    cases b4 with
                    | false =>
                      go_wp2_with ((with_reducible refine k_load ?_); refine st_load rfl _ _ rfl _ _ rfl ?_ HF 0 rfl rfl ?_; (kernel_rfl); (intro K hK; go_simp))
                      go_ret
                      exact ⟨_, rfl, ⟨fun h => (by cases h), fun h => absurd h.r (inS_false.1 HB4.out)⟩, (HF.sel 2 [1]).lift0 H0.out⟩
                    | true =>
                      go_wp2_with ((with_reducible refine k_load ?_); refine st_load rfl _ _ rfl _ _ rfl ?_ HF 0 rfl rfl ?_; (kernel_rfl); (intro K hK; go_simp))
                      go_ret
                      exact ⟨_, rfl, ⟨fun _ => ⟨HN.out.1, inS_true.1 HB1.out, inS_true.1 HB2.out, inS_true.1 HB3.out, inS_true.1 HB4.out, HN.out.2, HA.out.1, HA.out.2⟩, fun _ => rfl⟩, (HF.sel 2 [1]).lift0 H0.out⟩

theorem oi_snoc {v : Value} {l : List Int} {n : Int} (H : At w0 (OwnRow 3 1 v (l.length + 1) (iCs l ++ [.int .i64 n]) :: L) w) : At w0 (OI v (l ++ [n]) :: L) w := by
  unfold OI
  rw [iCs_app, List.length_append]
  have e : iCs [n] = [.int .i64 n] := by unfold iCs; simp [iC]
  rw [e]
  exact H

theorem rising {v : Value} {l : List Int} (hv : RecsAt w v 1 (l.map iC)) (hl : l.length ≤ 1000) (H : At w0 L w) : Calls Try.prog 60 #[v] w (fun e w' => ∃ v', e = .returned v' ∧ At w0 (OI v' (risingS l) :: L) w') := by
  obtain ⟨W, rfl⟩ : ∃ W : World, W = w := ⟨_, rfl⟩
  have HF := At.of W
  have H0 := Lib.hid H
  obtain ⟨ad, cap, rfl, c1, c2, c3⟩ := hv.value
  rw [List.length_map] at c1 c3 hv ⊢
  have HV := Lib.hid hv
  have C3 := Lib.hid c3
  clear H hv c3 c1 c2
  go_enter Try.func60, Try.ntmps60
  go_wp2_with fail
  replace HF := oi_nil HF
  go_loopw [3, 4] (fun a i wr => ∃ (k : Nat) (acc : List Int) (b3 : Option Addr) (m3 p3 : Nat), k ≤ 255 ∧ i = .int .i64 ((k : Int) + 1) ∧ a = .slice b3 m3 p3 ∧ Hid (acc = (List.range k).flatMap fun i : Nat => l.filter fun x => decide (x = (i : Int) + 1)) ∧ acc.length ≤ k * 1000 ∧ At W (OI (.slice b3 m3 p3) acc :: Arg W :: []) wr) (fun _ i _ => 256 - (intOf i).toNat)
  case atStart => exact ⟨0, [], _, _, _, Nat.zero_le _, rfl, rfl, Lib.hid (by simp), by simp, HF⟩
  case round =>
    clear HF
    obtain ⟨k, acc, b3, m3, p3, hk, rfl, rfl, HA, hacc, HF⟩ := hrel
    by_cases hlt : k < 255
    · have gk : (k : Int) + 1 ≤ 255 := by omega
      go_wp2_with fail
      go_loopw [3, 5] (fun a j wr => ∃ (m : Nat) (b3 : Option Addr) (m3 p3 : Nat) (X : List Int), m ≤ l.length ∧ j = .int .i64 m ∧ a = .slice b3 m3 p3 ∧ Hid (X = acc ++ (l.take m).filter fun x => decide (x = (k : Int) + 1)) ∧ X.length ≤ acc.length + m ∧ At W (OI (.slice b3 m3 p3) X :: Arg W :: []) wr) (fun _ j _ => l.length - (intOf j).toNat)
      case atStart => exact ⟨0, _, _, _, acc, Nat.zero_le _, rfl, rfl, Lib.hid (by simp), by simp, HF⟩
      case round =>
        clear HF
        obtain ⟨m, b4, m4, p4, X, hm, rfl, rfl, HX, hX, HF⟩ := hrel
        by_cases hlt2 : m < l.length
        · have gm : (m : Int) < l.length := by omega
          obtain ⟨x, hx⟩ : ∃ x, l[m]? = some x := ⟨_, List.getElem?_eq_getElem hlt2⟩
          obtain ⟨ba, rfl⟩ := C3.out (by omega)
          have Hc := Lib.hid (show ∀ w2, Ext W w2 → w2.cell? (ba.add m) = some (.int .i64 x) from fun w2 hxx => hxx.cell (recs_int HV.out hx))
          have HT := Lib.hid (show l.take (m + 1) = l.take m ++ [x] by rw [List.take_add_one, hx, Option.toList_some])
          clear hx
          by_cases he : x = ((k : Int) + 1)
          · have hxl : X.length + 1 ≤ 256000 + 1000 := by omega
            have HX2 := Lib.hid (show X ++ [((k : Int) + 1)] = acc ++ (l.take (m + 1)).filter fun x => decide (x = (k : Int) + 1) from by
              rw [HT.out, List.filter_append, HX.out, List.append_assoc, he]
              simp)
            subst he
            go_wp2_with (first | ((with_reducible refine k_load ?_); refine st_load1 rfl _ _ rfl _ rfl rfl (Hc.out _ (HF.ext 1 rfl)) ?_; (intro K hK; go_simp))                | ((with_reducible refine k_builtin ?_); refine st_append rfl _ _ _ rfl 3 Try.underlying27 1 st3 8 bt3 _ zt3 rfl (.slice b4 m4 p4) X.length (iCs X) rfl ((HF.alloc _).sel 3 [1, 0, 2]) (some ⟨wr.heap.size, 0, none⟩) 1 1 [.int .i64 ((k : Int) + 1)] rfl rfl (fun _ => ⟨_, rfl, cells_of ((HF.alloc _).get 0 rfl)⟩) (by simp [Value.oneCell']) ?_ ?_ ?_; ((try simp only [maxLen]); omega); (omega); (clear HF; intro v7 w HF K hK; obtain ⟨s4, t4, u4, rfl⟩ := own_form HF; go_simp)))
            go_roundw
            case rel => exact ⟨m + 1, s4, t4, u4, X ++ [((k : Int) + 1)], by omega, rfl, rfl, Lib.hid HX2.out, by rw [List.length_append]; simp; omega, oi_snoc (HF.sel 3 [0, 2])⟩
            case measure => simp [intOf]; omega
          · have HX2 := Lib.hid (show X = acc ++ (l.take (m + 1)).filter fun x => decide (x = (k : Int) + 1) from by
              rw [HT.out, List.filter_append, ← List.append_assoc, ← HX.out]
              have : ([x].filter fun x => decide (x = (k : Int) + 1)) = [] := by
                rw [List.filter_cons_of_neg (by simpa using he)]
                rfl
              rw [this, List.append_nil])
            have heb : (x == ((k : Int) + 1)) = false := by rw [beq_eq_false_iff_ne]; exact he
            go_wp2_with (first | ((with_reducible refine k_load ?_); refine st_load1 rfl _ _ rfl _ rfl rfl (Hc.out _ (HF.ext 1 rfl)) ?_; (intro K hK; go_simp)))
            go_roundw
            case rel => exact ⟨m + 1, b4, m4, p4, X, by omega, rfl, rfl, Lib.hid HX2.out, by omega, HF⟩
            case measure => simp [intOf]; omega
        · have hm8 : m = l.length := by omega
          subst hm8
          have HX2 := Lib.hid (show X = (List.range (k + 1)).flatMap fun i : Nat => l.filter fun x => decide (x = (i : Int) + 1) from by
            have hX2 := HX.out
            rw [List.take_of_length_le (Nat.le_refl _)] at hX2
            rw [hX2, HA.out, List.range_succ, List.flatMap_append, List.flatMap_cons, List.flatMap_nil, List.append_nil])
          go_wp2_with fail
          go_roundw
          case rel => exact ⟨k + 1, X, b4, m4, p4, by omega, (by congr 1), rfl, Lib.hid HX2.out, by omega, HF⟩
          case measure => simp [intOf]; omega
    · have hk8 : k = 255 := by omega
      have gk : ¬ (k : Int) + 1 ≤ 255 := by omega
      have HE := Lib.hid (show acc = risingS l from by rw [HA.out, hk8]; rfl)
      go_wp2_with fail
      go_ret
      rw [HE.out] at HF
      exact ⟨_, rfl, HF.lift1 H0.out⟩
end
end Rg
end Go.Proofs.Ytohfboolicheeaa
