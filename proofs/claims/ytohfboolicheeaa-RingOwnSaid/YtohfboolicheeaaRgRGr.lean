/-
  What the document's Group asks.
-/
import Derived.Test.YtohfboolicheeaaRgBoth
namespace Go.Proofs.Ytohfboolicheeaa
open Go.Hp Go.RowKit
set_option linter.unusedVariables false
set_option linter.unusedSimpArgs false
set_option maxRecDepth 100000
set_option maxHeartbeats 2000000
namespace Rg
section
variable {w0 w : World} {L : List HProp}

theorem has {v : Value} {l : List Int} (hv : RecsAt w v 1 (l.map iC)) (n : Int) (H : At w0 L w) : Calls Try.prog 30 #[v, .int .i64 n] w (Ret w0 (.bool (decide (n ∈ l))) L) := by
  obtain ⟨W, rfl⟩ : ∃ W : World, W = w := ⟨_, rfl⟩
  have HF := At.of W
  have H0 := Lib.hid H
  obtain ⟨ad, cap, rfl, c1, c2, c3⟩ := hv.value
  rw [List.length_map] at c1 c3 hv ⊢
  have hl63 : l.length ≤ 9223372036854775807 := by simp only [maxLen] at c2; omega
  have HV := Lib.hid hv
  have C3 := Lib.hid c3
  obtain ⟨R, hR⟩ : ∃ R, decide (n ∈ l) = R := ⟨_, rfl⟩
  rw [hR]
  have HR := Lib.hid hR
  clear H hv c3 hR
  go_enter Try.func30, Try.ntmps30
  go_wp2_with fail
  go_loopw [5] (fun i wr => ∃ k : Nat, k ≤ l.length ∧ i = .int .i64 k ∧ Hid (n ∉ l.take k) ∧ At W (Arg W :: []) wr) (fun i _ => l.length - (intOf i).toNat)
  case atStart => exact ⟨0, Nat.zero_le _, rfl, Lib.hid (by simp), HF⟩
  case round =>
    clear HF
    obtain ⟨k, hk, rfl, HI, HF⟩ := hrel
    by_cases hlt : k < l.length
    · have g1 : (k : Int) < l.length := by omega
      obtain ⟨x, hx⟩ : ∃ x, l[k]? = some x := ⟨_, List.getElem?_eq_getElem hlt⟩
      obtain ⟨ba, rfl⟩ := C3.out (by omega)
      have Hc := Lib.hid (fun (w2 : World) (hxx : Ext W w2) => hxx.cell (recs_int HV.out hx))
      have Hm := Lib.hid (List.mem_of_getElem? hx)
      have HT := Lib.hid (show l.take (k + 1) = l.take k ++ [x] by rw [List.take_add_one, hx, Option.toList_some])
      clear hx
      by_cases he : x = n
      · have HE := Lib.hid (show R = true by rw [← HR.out]; exact decide_eq_true (he ▸ Hm.out))
        subst he
        go_wp2_with (first | ((with_reducible refine k_load ?_); refine st_load1 rfl _ _ rfl _ rfl rfl (Hc.out _ (HF.ext 0 rfl)) ?_; (intro K hK; go_simp)))
        go_ret
        rw [HE.out]
        exact ⟨rfl, HF.lift0 H0.out⟩
      · have HN := Lib.hid (show n ∉ l.take (k + 1) from fun h => by
          rw [HT.out] at h
          rcases List.mem_append.1 h with h | h
          · exact HI.out h
          · rw [List.mem_singleton] at h; exact he h.symm)
        have heb : (x == n) = false := by rw [beq_eq_false_iff_ne]; exact he
        go_wp2_with (first | ((with_reducible refine k_load ?_); refine st_load1 rfl _ _ rfl _ rfl rfl (Hc.out _ (HF.ext 0 rfl)) ?_; (intro K hK; go_simp)))
        go_roundw
        case rel => exact ⟨k + 1, by omega, rfl, Lib.hid HN.out, HF⟩
        case measure => simp [intOf]; omega
    · have g1 : ¬ (k : Int) < l.length := by omega
      have HE := Lib.hid (show R = false by
        have := HI.out
        rw [List.take_of_length_le (by omega)] at this
        rw [← HR.out]
        exact decide_eq_false this)
      go_wp2_with fail
      go_ret
      rw [HE.out]
      exact ⟨rfl, HF.lift0 H0.out⟩

theorem rfirst {v : Value} {c : Cf} {S : List Int} {pts : List Pt} (hr : RgF 45 w v c S pts) (hsz : pts.length ≤ 100000) (hpos : 0 < pts.length) (hs : PS pts) (h : Int) (H : At w0 L w) :
    Calls Try.prog 46 #[v, .int .i64 h] w (Ret w0 (.int .i64 (firstS pts h : Nat)) L) := by
  obtain ⟨W, rfl⟩ : ∃ W : World, W = w := ⟨_, rfl⟩
  have HF := At.of W
  have H0 := Lib.hid H
  obtain ⟨g, s1, s2, s3, p1, p2, p3, rfl, hg, hS, hp⟩ := hr
  have Hg := Lib.hid (fun (w2 : World) (hx : Ext W w2) => hx.cell (show W.cell? ⟨g, 6, none⟩ = some (.slice p1 p2 p3) from by
    have := cells_of hg 6 (.slice p1 p2 p3) rfl
    rwa [Addr.add_lit, Nat.zero_add] at this))
  obtain ⟨ad, cap, hv, c1, c2, c3⟩ := hp.value
  cases hv
  rw [List.length_map] at c1 c3 hp Hg
  have HV := Lib.hid hp
  obtain ⟨b, rfl⟩ := c3 hpos
  have HS := Lib.hid hs
  obtain ⟨R, hR⟩ : ∃ R, firstS pts h = R := ⟨_, rfl⟩
  rw [hR]
  have HR := Lib.hid hR
  clear H hp hS hg hR hs
  go_enter Try.func46, Try.ntmps46
  go_wp2_with fail
  go_loopw [5] (fun i wr => ∃ k : Nat, k ≤ pts.length ∧ i = .int .i64 k ∧ Hid (∀ j p, pts[j]? = some p → j < k → p.h < h) ∧ At W (Arg W :: []) wr) (fun i _ => pts.length - (intOf i).toNat)
  case atStart => exact ⟨0, Nat.zero_le _, rfl, Lib.hid (fun j p _ hj => absurd hj (Nat.not_lt_zero _)), HF⟩
  case round =>
    clear HF
    obtain ⟨k, hk, rfl, HI, HF⟩ := hrel
    by_cases hlt : k < pts.length
    · have g1 : (k : Int) < pts.length := by omega
      obtain ⟨x, hx⟩ : ∃ x, pts[k]? = some x := ⟨_, List.getElem?_eq_getElem hlt⟩
      have Hc := Lib.hid (fun (w2 : World) (hxx : Ext W w2) => hxx.cell (show W.cell? (b.add (k * 3)) = some (.int .i64 x.h) from by
        have := recs_get HV.out hx 0 _ rfl
        rwa [Addr.add_add, Nat.add_zero] at this))
      have Hx := Lib.hid hx
      clear hx
      by_cases he : h ≤ x.h
      · have HE := Lib.hid (show k = R from by
          have hf : fi pts h = k := fi_eq (by omega) HI.out (fun j p hp hj => by have := ps_mono HS.out Hx.out hp hj; omega)
          rw [← HR.out]
          unfold firstS
          rw [hf, Nat.mod_eq_of_lt hlt])
        go_wp2_with (first | ((with_reducible refine k_load ?_); (first | refine st_load1 rfl _ _ rfl _ rfl rfl (Hg.out _ (HF.ext 0 rfl)) ?_ | refine st_load1 rfl _ _ rfl _ rfl rfl (Hc.out _ (HF.ext 0 rfl)) ?_); (intro K hK; go_simp)))
        go_ret
        rw [← HE.out]
        exact ⟨rfl, HF.lift0 H0.out⟩
      · have HN := Lib.hid (show ∀ j p, pts[j]? = some p → j < k + 1 → p.h < h from fun j p hp hj => by
          rcases Nat.lt_or_ge j k with h1 | h1
          · exact HI.out j p hp h1
          · have e : j = k := by omega
            subst e
            rw [Hx.out] at hp
            cases hp
            omega)
        go_wp2_with (first | ((with_reducible refine k_load ?_); (first | refine st_load1 rfl _ _ rfl _ rfl rfl (Hg.out _ (HF.ext 0 rfl)) ?_ | refine st_load1 rfl _ _ rfl _ rfl rfl (Hc.out _ (HF.ext 0 rfl)) ?_); (intro K hK; go_simp)))
        go_roundw
        case rel => exact ⟨k + 1, by omega, rfl, Lib.hid HN.out, HF⟩
        case measure => simp [intOf]; omega
    · have g1 : ¬ (k : Int) < pts.length := by omega
      have HE := Lib.hid (show 0 = R from by
        have hf : fi pts h = pts.length := fi_eq (Nat.le_refl _) (fun j p hp hj => HI.out j p hp (by omega)) (fun j p hp hj => absurd (List.getElem?_eq_some_iff.1 hp).1 (by omega))
        rw [← HR.out]
        unfold firstS
        rw [hf, Nat.mod_self])
      go_wp2_with (first | ((with_reducible refine k_load ?_); refine st_load1 rfl _ _ rfl _ rfl rfl (Hg.out _ (HF.ext 0 rfl)) ?_; (intro K hK; go_simp)))
      go_ret
      rw [← HE.out]
      exact ⟨rfl, HF.lift0 H0.out⟩

theorem rkeyRight (H : At w0 L w) (k : Ky) (c : Cf) (hB : 1 ≤ c.B ∧ c.B ≤ 256) (s1 : Option Addr) (s2 s3 : Nat) :
    Calls Try.prog 26 #[.agg #[.int .i64 k.k, .int .i64 k.a, .int .i64 k.b, .int .i64 k.c], .agg #[.slice s1 s2 s3, .int .i64 c.F, .int .i64 c.P, .int .i64 c.B, .int .i64 c.K, .int .i64 c.R]] w (KeyPost w0 L k c.B) := by
  obtain ⟨kk, ka, kb, kc⟩ := k
  obtain ⟨cF, cP, cB, cK, cR⟩ := c
  dsimp only at *
  have hwb : wrap64 (cB - 1) = cB - 1 := wrap64_of (by omega) (by omega)
  have HW := Lib.hid (fun (w2 : World) (M : List HProp) (n lo hi : Int) (HM : At w0 M w2) => rwithin HM n lo hi)
  by_cases k1 : kk = 1
  · subst k1
    go_enter Try.func26, Try.ntmps26
    go_wp2_with (first | ((with_reducible refine k_box (T := 38) ?_); refine st_box rfl _ _ rfl _ rfl H ?_; (clear H; intro g2 w H K hK; simp only [Value.cells, Act.eval, Value.cells, Array.getD_eq_getD_getElem?, List.getElem?_toArray, List.getElem?_cons_succ, List.getElem?_cons_zero, Option.getD_some] at H; go_simp)) | ((with_reducible refine k_box (T := 29) ?_); refine st_box rfl _ _ rfl _ rfl H ?_; (clear H; intro g3 w H K hK; simp only [Value.cells, Act.eval, Value.cells, Array.getD_eq_getD_getElem?, List.getElem?_toArray, List.getElem?_cons_succ, List.getElem?_cons_zero, Option.getD_some] at H; go_simp)) | ((with_reducible refine k_load ?_); (first | refine st_load rfl _ _ rfl _ _ rfl ?_ H 0 rfl rfl ?_ | refine st_load rfl _ _ rfl _ _ rfl ?_ H 1 rfl rfl ?_); (kernel_rfl); (intro K hK; go_simp)))
    obtain ⟨b1, hb1⟩ : ∃ b, inS ka 1 255 = b := ⟨_, rfl⟩
    have hw := HW.out _ _ ka 1 255 H
    rw [hb1] at hw
    refine hw.mono ?_
    rintro e w2 ⟨rfl, HX⟩
    clear H hw
    have H := HX
    clear HX
    have HB1 := Lib.hid hb1
    clear hb1
    cases b1 with
    | false =>
      go_wp2_with ((with_reducible refine k_load ?_); (first | refine st_load rfl _ _ rfl _ _ rfl ?_ H 0 rfl rfl ?_ | refine st_load rfl _ _ rfl _ _ rfl ?_ H 1 rfl rfl ?_); (kernel_rfl); (intro K hK; go_simp))
      go_ret
      exact ⟨_, rfl, ⟨fun h => (by cases h), fun h => (by have := inS_false.1 HB1.out; unfold KeyR at h; dsimp only at h; omega)⟩, H.sel 2 []⟩
    | true =>
      go_wp2_with ((with_reducible refine k_load ?_); (first | refine st_load rfl _ _ rfl _ _ rfl ?_ H 0 rfl rfl ?_ | refine st_load rfl _ _ rfl _ _ rfl ?_ H 1 rfl rfl ?_); (kernel_rfl); (intro K hK; go_simp))
      obtain ⟨b2, hb2⟩ : ∃ b, inS kb 1 1099511627776 = b := ⟨_, rfl⟩
      have hw := HW.out _ _ kb 1 1099511627776 H
      rw [hb2] at hw
      refine hw.mono ?_
      rintro e w2 ⟨rfl, HX⟩
      clear H hw
      have H := HX
      clear HX
      have HB2 := Lib.hid hb2
      clear hb2
      cases b2 with
      | false =>
        go_wp2_with ((with_reducible refine k_load ?_); (first | refine st_load rfl _ _ rfl _ _ rfl ?_ H 0 rfl rfl ?_ | refine st_load rfl _ _ rfl _ _ rfl ?_ H 1 rfl rfl ?_); (kernel_rfl); (intro K hK; go_simp))
        go_ret
        exact ⟨_, rfl, ⟨fun h => (by cases h), fun h => (by have := inS_false.1 HB2.out; unfold KeyR at h; dsimp only at h; omega)⟩, H.sel 2 []⟩
      | true =>
        go_wp2_with ((with_reducible refine k_load ?_); (first | refine st_load rfl _ _ rfl _ _ rfl ?_ H 0 rfl rfl ?_ | refine st_load rfl _ _ rfl _ _ rfl ?_ H 1 rfl rfl ?_); (kernel_rfl); (intro K hK; go_simp))
        obtain ⟨b3, hb3⟩ : ∃ b, inS kc 0 1048575 = b := ⟨_, rfl⟩
        have hw := HW.out _ _ kc 0 1048575 H
        rw [hb3] at hw
        refine hw.mono ?_
        rintro e w2 ⟨rfl, HX⟩
        clear H hw
        have H := HX
        clear HX
        have HB3 := Lib.hid hb3
        clear hb3
        cases b3 with
        | false =>
          go_wp2_with ((with_reducible refine k_load ?_); (first | refine st_load rfl _ _ rfl _ _ rfl ?_ H 0 rfl rfl ?_ | refine st_load rfl _ _ rfl _ _ rfl ?_ H 1 rfl rfl ?_); (kernel_rfl); (intro K hK; go_simp))
          go_ret
          exact ⟨_, rfl, ⟨fun h => (by cases h), fun h => (by have := inS_false.1 HB3.out; unfold KeyR at h; dsimp only at h; omega)⟩, H.sel 2 []⟩
        | true =>
          go_wp2_with ((with_reducible refine k_load ?_); (first | refine st_load rfl _ _ rfl _ _ rfl ?_ H 0 rfl rfl ?_ | refine st_load rfl _ _ rfl _ _ rfl ?_ H 1 rfl rfl ?_); (kernel_rfl); (intro K hK; go_simp))
          go_ret
          exact ⟨_, rfl, ⟨fun _ => (by have q1 := inS_true.1 HB1.out; have q2 := inS_true.1 HB2.out; have q3 := inS_true.1 HB3.out; unfold KeyR; dsimp only; omega), fun _ => rfl⟩, H.sel 2 []⟩
  · have k1b : (kk == 1) = false := by rw [beq_eq_false_iff_ne]; exact k1
    by_cases k2 : kk = 2
    · subst k2
      go_enter Try.func26, Try.ntmps26
      go_wp2_with (first | ((with_reducible refine k_box (T := 38) ?_); refine st_box rfl _ _ rfl _ rfl H ?_; (clear H; intro g2 w H K hK; simp only [Value.cells, Act.eval, Value.cells, Array.getD_eq_getD_getElem?, List.getElem?_toArray, List.getElem?_cons_succ, List.getElem?_cons_zero, Option.getD_some] at H; go_simp)) | ((with_reducible refine k_box (T := 29) ?_); refine st_box rfl _ _ rfl _ rfl H ?_; (clear H; intro g3 w H K hK; simp only [Value.cells, Act.eval, Value.cells, Array.getD_eq_getD_getElem?, List.getElem?_toArray, List.getElem?_cons_succ, List.getElem?_cons_zero, Option.getD_some] at H; go_simp)) | ((with_reducible refine k_load ?_); (first | refine st_load rfl _ _ rfl _ _ rfl ?_ H 0 rfl rfl ?_ | refine st_load rfl _ _ rfl _ _ rfl ?_ H 1 rfl rfl ?_); (kernel_rfl); (intro K hK; go_simp)))
      obtain ⟨b1, hb1⟩ : ∃ b, inS ka 0 (cB - 1) = b := ⟨_, rfl⟩
      have hw := HW.out _ _ ka 0 (cB - 1) H
      rw [hb1] at hw
      refine hw.mono ?_
      rintro e w2 ⟨rfl, HX⟩
      clear H hw
      have H := HX
      clear HX
      have HB1 := Lib.hid hb1
      clear hb1
      cases b1 with
      | false =>
        go_wp2_with ((with_reducible refine k_load ?_); (first | refine st_load rfl _ _ rfl _ _ rfl ?_ H 0 rfl rfl ?_ | refine st_load rfl _ _ rfl _ _ rfl ?_ H 1 rfl rfl ?_); (kernel_rfl); (intro K hK; go_simp))
        go_ret
        exact ⟨_, rfl, ⟨fun h => (by cases h), fun h => (by have := inS_false.1 HB1.out; unfold KeyR at h; dsimp only at h; omega)⟩, H.sel 2 []⟩
      | true =>
        by_cases zb : kb = 0
        · subst zb
          by_cases zc : kc = 0
          · subst zc
            go_wp2_with ((with_reducible refine k_load ?_); (first | refine st_load rfl _ _ rfl _ _ rfl ?_ H 0 rfl rfl ?_ | refine st_load rfl _ _ rfl _ _ rfl ?_ H 1 rfl rfl ?_); (kernel_rfl); (intro K hK; go_simp))
            go_ret
            exact ⟨_, rfl, ⟨fun _ => (by have q1 := inS_true.1 HB1.out; unfold KeyR; dsimp only; omega), fun _ => rfl⟩, H.sel 2 []⟩
          · have zcb : (kc == 0) = false := by rw [beq_eq_false_iff_ne]; exact zc
            go_wp2_with ((with_reducible refine k_load ?_); (first | refine st_load rfl _ _ rfl _ _ rfl ?_ H 0 rfl rfl ?_ | refine st_load rfl _ _ rfl _ _ rfl ?_ H 1 rfl rfl ?_); (kernel_rfl); (intro K hK; go_simp))
            go_ret
            exact ⟨_, rfl, ⟨fun h => (by cases h), fun h => (by unfold KeyR at h; dsimp only at h; omega)⟩, H.sel 2 []⟩
        · have zbb : (kb == 0) = false := by rw [beq_eq_false_iff_ne]; exact zb
          go_wp2_with ((with_reducible refine k_load ?_); (first | refine st_load rfl _ _ rfl _ _ rfl ?_ H 0 rfl rfl ?_ | refine st_load rfl _ _ rfl _ _ rfl ?_ H 1 rfl rfl ?_); (kernel_rfl); (intro K hK; go_simp))
          go_ret
          exact ⟨_, rfl, ⟨fun h => (by cases h), fun h => (by unfold KeyR at h; dsimp only at h; omega)⟩, H.sel 2 []⟩
    · have k2b : (kk == 2) = false := by rw [beq_eq_false_iff_ne]; exact k2
      by_cases k3 : kk = 3
      · subst k3
        go_enter Try.func26, Try.ntmps26
        go_wp2_with (first | ((with_reducible refine k_box (T := 38) ?_); refine st_box rfl _ _ rfl _ rfl H ?_; (clear H; intro g2 w H K hK; simp only [Value.cells, Act.eval, Value.cells, Array.getD_eq_getD_getElem?, List.getElem?_toArray, List.getElem?_cons_succ, List.getElem?_cons_zero, Option.getD_some] at H; go_simp)) | ((with_reducible refine k_box (T := 29) ?_); refine st_box rfl _ _ rfl _ rfl H ?_; (clear H; intro g3 w H K hK; simp only [Value.cells, Act.eval, Value.cells, Array.getD_eq_getD_getElem?, List.getElem?_toArray, List.getElem?_cons_succ, List.getElem?_cons_zero, Option.getD_some] at H; go_simp)) | ((with_reducible refine k_load ?_); (first | refine st_load rfl _ _ rfl _ _ rfl ?_ H 0 rfl rfl ?_ | refine st_load rfl _ _ rfl _ _ rfl ?_ H 1 rfl rfl ?_); (kernel_rfl); (intro K hK; go_simp)))
        obtain ⟨b1, hb1⟩ : ∃ b, inS ka 0 (cB - 1) = b := ⟨_, rfl⟩
        have hw := HW.out _ _ ka 0 (cB - 1) H
        rw [hb1] at hw
        refine hw.mono ?_
        rintro e w2 ⟨rfl, HX⟩
        clear H hw
        have H := HX
        clear HX
        have HB1 := Lib.hid hb1
        clear hb1
        cases b1 with
        | false =>
          go_wp2_with ((with_reducible refine k_load ?_); (first | refine st_load rfl _ _ rfl _ _ rfl ?_ H 0 rfl rfl ?_ | refine st_load rfl _ _ rfl _ _ rfl ?_ H 1 rfl rfl ?_); (kernel_rfl); (intro K hK; go_simp))
          go_ret
          exact ⟨_, rfl, ⟨fun h => (by cases h), fun h => (by have := inS_false.1 HB1.out; unfold KeyR at h; dsimp only at h; omega)⟩, H.sel 2 []⟩
        | true =>
          go_wp2_with ((with_reducible refine k_load ?_); (first | refine st_load rfl _ _ rfl _ _ rfl ?_ H 0 rfl rfl ?_ | refine st_load rfl _ _ rfl _ _ rfl ?_ H 1 rfl rfl ?_); (kernel_rfl); (intro K hK; go_simp))
          obtain ⟨b2, hb2⟩ : ∃ b, inS kb 1 1048576 = b := ⟨_, rfl⟩
          have hw := HW.out _ _ kb 1 1048576 H
          rw [hb2] at hw
          refine hw.mono ?_
          rintro e w2 ⟨rfl, HX⟩
          clear H hw
          have H := HX
          clear HX
          have HB2 := Lib.hid hb2
          clear hb2
          cases b2 with
          | false =>
            go_wp2_with ((with_reducible refine k_load ?_); (first | refine st_load rfl _ _ rfl _ _ rfl ?_ H 0 rfl rfl ?_ | refine st_load rfl _ _ rfl _ _ rfl ?_ H 1 rfl rfl ?_); (kernel_rfl); (intro K hK; go_simp))
            go_ret
            exact ⟨_, rfl, ⟨fun h => (by cases h), fun h => (by have := inS_false.1 HB2.out; unfold KeyR at h; dsimp only at h; omega)⟩, H.sel 2 []⟩
          | true =>
            by_cases zc : kc = 0
            · subst zc
              go_wp2_with ((with_reducible refine k_load ?_); (first | refine st_load rfl _ _ rfl _ _ rfl ?_ H 0 rfl rfl ?_ | refine st_load rfl _ _ rfl _ _ rfl ?_ H 1 rfl rfl ?_); (kernel_rfl); (intro K hK; go_simp))
              go_ret
              exact ⟨_, rfl, ⟨fun _ => (by have q1 := inS_true.1 HB1.out; have q2 := inS_true.1 HB2.out; unfold KeyR; dsimp only; omega), fun _ => rfl⟩, H.sel 2 []⟩
            · have zcb : (kc == 0) = false := by rw [beq_eq_false_iff_ne]; exact zc
              go_wp2_with ((with_reducible refine k_load ?_); (first | refine st_load rfl _ _ rfl _ _ rfl ?_ H 0 rfl rfl ?_ | refine st_load rfl _ _ rfl _ _ rfl ?_ H 1 rfl rfl ?_); (kernel_rfl); (intro K hK; go_simp))
              go_ret
              exact ⟨_, rfl, ⟨fun h => (by cases h), fun h => (by unfold KeyR at h; dsimp only at h; omega)⟩, H.sel 2 []⟩
      · have k3b : (kk == 3) = false := by rw [beq_eq_false_iff_ne]; exact k3
        go_enter Try.func26, Try.ntmps26
        go_wp2_with (first | ((with_reducible refine k_box (T := 38) ?_); refine st_box rfl _ _ rfl _ rfl H ?_; (clear H; intro g2 w H K hK; simp only [Value.cells, Act.eval, Value.cells, Array.getD_eq_getD_getElem?, List.getElem?_toArray, List.getElem?_cons_succ, List.getElem?_cons_zero, Option.getD_some] at H; go_simp)) | ((with_reducible refine k_box (T := 29) ?_); refine st_box rfl _ _ rfl _ rfl H ?_; (clear H; intro g3 w H K hK; simp only [Value.cells, Act.eval, Value.cells, Array.getD_eq_getD_getElem?, List.getElem?_toArray, List.getElem?_cons_succ, List.getElem?_cons_zero, Option.getD_some] at H; go_simp)) | ((with_reducible refine k_load ?_); (first | refine st_load rfl _ _ rfl _ _ rfl ?_ H 0 rfl rfl ?_ | refine st_load rfl _ _ rfl _ _ rfl ?_ H 1 rfl rfl ?_); (kernel_rfl); (intro K hK; go_simp)))
        go_ret
        exact ⟨_, rfl, ⟨fun h => (by cases h), fun h => (by unfold KeyR at h; dsimp only at h; omega)⟩, H.sel 2 []⟩
end
end Rg
end Go.Proofs.Ytohfboolicheeaa
