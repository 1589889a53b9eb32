/-
  Which configurations are right: on either side.
-/
import Derived.Test.YtohfboolicheeaaRgHash
import Derived.Lib.Walk
namespace Go.Proofs.Ytohfboolicheeaa
open Go.Hp Go.RowKit
set_option linter.unusedVariables false
set_option linter.unusedSimpArgs false
set_option maxRecDepth 100000
set_option maxHeartbeats 2000000
namespace Rg

structure RightC (c : Cf) (S : List Int) : Prop where
  f : 0 ≤ c.F ∧ c.F ≤ 3
  p : 1 ≤ c.P ∧ c.P ≤ 64
  b : 1 ≤ c.B ∧ c.B ≤ 256
  k : 1 ≤ c.K ∧ c.K ≤ 4096
  r : 1 ≤ c.R ∧ c.R ≤ 256
  n : 2 * c.F + 1 ≤ S.length ∧ (S.length : Int) ≤ 64
  s : ∀ x ∈ S, 1 ≤ x ∧ x ≤ 255
  d : S.Nodup
def inS (n lo hi : Int) : Bool := decide (lo ≤ n) && decide (n ≤ hi)
theorem inS_true {n lo hi : Int} : inS n lo hi = true ↔ lo ≤ n ∧ n ≤ hi := by unfold inS; simp
theorem inS_false {n lo hi : Int} : inS n lo hi = false ↔ ¬ (lo ≤ n ∧ n ≤ hi) := by rw [← inS_true]; simp

def RightPost (w0 : World) (L : List HProp) (c : Cf) (S : List Int) (e : Ending) (w' : World) : Prop := ∃ r : Bool, e = .returned (.bool r) ∧ (r = true ↔ RightC c S) ∧ At w0 L w'

/-- What a map of the servers seen holds. -/
def setF (T : List Int) : Int → Option Value := fun n => if n ∈ T then some (.int .i64 1) else none
theorem setF_snoc (T : List Int) (s : Int) : (fun m => if m = s then some (.int .i64 1) else setF T m) = setF (T ++ [s]) := by
  funext m
  unfold setF
  by_cases h : m = s
  · subst h; simp
  · by_cases h2 : m ∈ T <;> simp [h, h2]
theorem setF_in {T : List Int} {s : Int} (h : s ∈ T) : setF T s = some (.int .i64 1) := by unfold setF; rw [if_pos h]
theorem setF_out {T : List Int} {s : Int} (h : s ∉ T) : setF T s = none := by unfold setF; rw [if_neg h]

section
variable {w0 w : World} {L : List HProp}
theorem within (H : At w0 L w) (n lo hi : Int) : Calls Try.prog 66 #[.int .i64 n, .int .i64 lo, .int .i64 hi] w (Ret w0 (.bool (inS n lo hi)) L) := by
  unfold inS
  by_cases h1 : lo ≤ n
  · by_cases h2 : n ≤ hi
    · go_enter Try.func66, Try.ntmps66
      go_wp2_with fail
      go_ret
      exact ⟨by simp [h1, h2], H⟩
    · go_enter Try.func66, Try.ntmps66
      go_wp2_with fail
      go_ret
      exact ⟨by simp [h1, h2], H⟩
  · go_enter Try.func66, Try.ntmps66
    go_wp2_with fail
    go_ret
    have h1' : ¬ lo ≤ n := by omega
    exact ⟨by simp [h1'], H⟩
theorem rwithin (H : At w0 L w) (n lo hi : Int) : Calls Try.prog 47 #[.int .i64 n, .int .i64 lo, .int .i64 hi] w (Ret w0 (.bool (inS n lo hi)) L) := by
  unfold inS
  by_cases h1 : lo ≤ n
  · by_cases h2 : n ≤ hi
    · go_enter Try.func47, Try.ntmps47
      go_wp2_with fail
      go_ret
      exact ⟨by simp [h1, h2], H⟩
    · go_enter Try.func47, Try.ntmps47
      go_wp2_with fail
      go_ret
      exact ⟨by simp [h1, h2], H⟩
  · go_enter Try.func47, Try.ntmps47
    go_wp2_with fail
    go_ret
    have h1' : ¬ lo ≤ n := by omega
    exact ⟨by simp [h1'], H⟩

theorem right {v : Value} {c : Cf} {S : List Int} (hv : RecsAt w v 1 (S.map iC)) (H : At w0 L w) :
    Calls Try.prog 56 #[.agg #[v, .int .i64 c.F, .int .i64 c.P, .int .i64 c.B, .int .i64 c.K, .int .i64 c.R]] w (RightPost w0 L c S) := by
  obtain ⟨W, rfl⟩ : ∃ W : World, W = w := ⟨_, rfl⟩
  have HF := At.of W
  have H0 := Lib.hid H
  obtain ⟨ad, cap, rfl, c1, c2, c3⟩ := hv.value
  rw [List.length_map] at c1 c3 hv ⊢
  have HV := Lib.hid hv
  have C3 := Lib.hid c3
  have hl63 : S.length ≤ 9223372036854775807 := by simp only [maxLen] at c2; omega
  obtain ⟨cF, cP, cB, cK, cR⟩ := c
  dsimp only
  clear H hv c3
  go_enter Try.func56, Try.ntmps56
  go_wp2_with (first | ((with_reducible refine k_box ?_); refine st_box rfl _ _ rfl _ rfl HF ?_; (clear HF; intro g1 w HF K hK; simp only [Value.cells, Act.eval, Value.cells, Array.getD_eq_getD_getElem?, List.getElem?_toArray, List.getElem?_cons_succ, List.getElem?_cons_zero, Option.getD_some] at HF; go_simp)) | ((with_reducible refine k_load ?_); refine st_load rfl _ _ rfl _ _ rfl ?_ HF 0 rfl rfl ?_; (kernel_rfl); (intro K hK; go_simp)))
  obtain ⟨b1, hb1⟩ : ∃ b, inS cF 0 3 = b := ⟨_, rfl⟩
  have hw := within HF cF 0 3
  rw [hb1] at hw
  refine hw.mono ?_
  rintro e w2 ⟨rfl, HX⟩
  clear HF hw
  have HF := HX
  clear HX
  have HB1 := Lib.hid hb1
  clear hb1
  cases b1 with
  | false =>
    go_wp2_with ((with_reducible refine k_load ?_); refine st_load rfl _ _ rfl _ _ rfl ?_ HF 0 rfl rfl ?_; (kernel_rfl); (intro K hK; go_simp))
    go_ret
    exact ⟨_, rfl, ⟨fun h => (by cases h), fun h => absurd h.f (inS_false.1 HB1.out)⟩, (HF.sel 2 [1]).lift0 H0.out⟩
  | true =>
    go_wp2_with ((with_reducible refine k_load ?_); refine st_load rfl _ _ rfl _ _ rfl ?_ HF 0 rfl rfl ?_; (kernel_rfl); (intro K hK; go_simp))
    obtain ⟨b2, hb2⟩ : ∃ b, inS cP 1 64 = b := ⟨_, rfl⟩
    have hw := within HF cP 1 64
    rw [hb2] at hw
    refine hw.mono ?_
    rintro e w2 ⟨rfl, HX⟩
    clear HF hw
    have HF := HX
    clear HX
    have HB2 := Lib.hid hb2
    clear hb2
    cases b2 with
    | false =>
      go_wp2_with ((with_reducible refine k_load ?_); refine st_load rfl _ _ rfl _ _ rfl ?_ HF 0 rfl rfl ?_; (kernel_rfl); (intro K hK; go_simp))
      go_ret
      exact ⟨_, rfl, ⟨fun h => (by cases h), fun h => absurd h.p (inS_false.1 HB2.out)⟩, (HF.sel 2 [1]).lift0 H0.out⟩
    | true =>
      go_wp2_with ((with_reducible refine k_load ?_); refine st_load rfl _ _ rfl _ _ rfl ?_ HF 0 rfl rfl ?_; (kernel_rfl); (intro K hK; go_simp))
      obtain ⟨b3, hb3⟩ : ∃ b, inS cB 1 256 = b := ⟨_, rfl⟩
      have hw := within HF cB 1 256
      rw [hb3] at hw
      refine hw.mono ?_
      rintro e w2 ⟨rfl, HX⟩
      clear HF hw
      have HF := HX
      clear HX
      have HB3 := Lib.hid hb3
      clear hb3
      cases b3 with
      | false =>
        go_wp2_with ((with_reducible refine k_load ?_); refine st_load rfl _ _ rfl _ _ rfl ?_ HF 0 rfl rfl ?_; (kernel_rfl); (intro K hK; go_simp))
        go_ret
        exact ⟨_, rfl, ⟨fun h => (by cases h), fun h => absurd h.b (inS_false.1 HB3.out)⟩, (HF.sel 2 [1]).lift0 H0.out⟩
      | true =>
        go_wp2_with ((with_reducible refine k_load ?_); refine st_load rfl _ _ rfl _ _ rfl ?_ HF 0 rfl rfl ?_; (kernel_rfl); (intro K hK; go_simp))
        obtain ⟨b4, hb4⟩ : ∃ b, inS cK 1 4096 = b := ⟨_, rfl⟩
        have hw := within HF cK 1 4096
        rw [hb4] at hw
        refine hw.mono ?_
        rintro e w2 ⟨rfl, HX⟩
        clear HF hw
        have HF := HX
        clear HX
        have HB4 := Lib.hid hb4
        clear hb4
        cases b4 with
        | false =>
          go_wp2_with ((with_reducible refine k_load ?_); refine st_load rfl _ _ rfl _ _ rfl ?_ HF 0 rfl rfl ?_; (kernel_rfl); (intro K hK; go_simp))
          go_ret
          exact ⟨_, rfl, ⟨fun h => (by cases h), fun h => absurd h.k (inS_false.1 HB4.out)⟩, (HF.sel 2 [1]).lift0 H0.out⟩
        | true =>
          go_wp2_with ((with_reducible refine k_load ?_); refine st_load rfl _ _ rfl _ _ rfl ?_ HF 0 rfl rfl ?_; (kernel_rfl); (intro K hK; go_simp))
          obtain ⟨b5, hb5⟩ : ∃ b, inS cR 1 256 = b := ⟨_, rfl⟩
          have hw := within HF cR 1 256
          rw [hb5] at hw
          refine hw.mono ?_
          rintro e w2 ⟨rfl, HX⟩
          clear HF hw
          have HF := HX
          clear HX
          have HB5 := Lib.hid hb5
          clear hb5
          cases b5 with
          | false =>
            go_wp2_with ((with_reducible refine k_load ?_); refine st_load rfl _ _ rfl _ _ rfl ?_ HF 0 rfl rfl ?_; (kernel_rfl); (intro K hK; go_simp))
            go_ret
            exact ⟨_, rfl, ⟨fun h => (by cases h), fun h => absurd h.r (inS_false.1 HB5.out)⟩, (HF.sel 2 [1]).lift0 H0.out⟩
          | true =>
            have hF3 := inS_true.1 HB1.out
            have hw1 : wrap64 (2 * cF) = 2 * cF := wrap64_of (by omega) (by omega)
            have hw2 : wrap64 (2 * cF + 1) = 2 * cF + 1 := wrap64_of (by omega) (by omega)
            go_wp2_with ((with_reducible refine k_load ?_); refine st_load rfl _ _ rfl _ _ rfl ?_ HF 0 rfl rfl ?_; (kernel_rfl); (intro K hK; go_simp))
            clear hF3 hw1 hw2
            obtain ⟨b6, hb6⟩ : ∃ b, inS S.length (2 * cF + 1) 64 = b := ⟨_, rfl⟩
            have hw := within HF S.length (2 * cF + 1) 64
            rw [hb6] at hw
            refine hw.mono ?_
            rintro e w2 ⟨rfl, HX⟩
            clear HF hw
            have HF := HX
            clear HX
            have HB6 := Lib.hid hb6
            clear hb6
            cases b6 with
            | false =>
              go_wp2_with ((with_reducible refine k_load ?_); refine st_load rfl _ _ rfl _ _ rfl ?_ HF 0 rfl rfl ?_; (kernel_rfl); (intro K hK; go_simp))
              go_ret
              exact ⟨_, rfl, ⟨fun h => (by cases h), fun h => absurd h.n (inS_false.1 HB6.out)⟩, (HF.sel 2 [1]).lift0 H0.out⟩
            | true =>
              go_wp2_with (first | ((with_reducible refine k_load ?_); (first | refine st_load rfl _ _ rfl _ _ rfl ?_ HF 0 rfl rfl ?_ | refine st_load rfl _ _ rfl _ _ rfl ?_ HF 1 rfl rfl ?_); (kernel_rfl); (intro K hK; go_simp)) | (refine st_makeMap rfl _ rfl HF ?_; (clear HF; intro mb w HF K hK; go_simp)))
              replace HF : At W (Blk mb (.map #[] 0) :: Arg W :: []) _ := HF.sel 3 [0, 2]
              go_loopw [54] (fun i wr => ∃ (k : Nat) (es : Array MapEntry) (ck : Nat), k ≤ S.length ∧ i = .int .i64 k ∧ Hid (IMap es (setF (S.take k)) ∧ (∀ x ∈ S.take k, 1 ≤ x ∧ x ≤ 255) ∧ (S.take k).Nodup) ∧ At W (Blk mb (.map es ck) :: Arg W :: []) wr) (fun i _ => S.length - (intOf i).toNat)
              case atStart => exact ⟨0, _, _, Nat.zero_le _, rfl, Lib.hid ⟨IMap.empty, (fun x hx => absurd hx (by simp)), by simp⟩, HF⟩
              case round =>
                clear HF
                obtain ⟨k, es, ck, hk, rfl, HI, HF⟩ := hrel
                by_cases hlt : k < S.length
                · have g1 : (k : Int) < S.length := by omega
                  obtain ⟨s, hs⟩ : ∃ s, S[k]? = some s := ⟨_, List.getElem?_eq_getElem hlt⟩
                  obtain ⟨ba, rfl⟩ := C3.out (by omega)
                  have Hc := Lib.hid (show ∀ w2, Ext W w2 → w2.cell? (ba.add k) = some (.int .i64 s) from fun w2 hx => hx.cell (recs_int HV.out hs))
                  have Hmem := Lib.hid (List.mem_of_getElem? hs)
                  have HT := Lib.hid (show S.take (k + 1) = S.take k ++ [s] by rw [List.take_add_one, hs, Option.toList_some])
                  have HD := Lib.hid (show s ∈ S.take k → ¬ S.Nodup from fun hin hnd => by
                    have e : S = S.take k ++ S.drop k := (List.take_append_drop k S).symm
                    rw [e, List.nodup_append] at hnd
                    have hd : s ∈ S.drop k := by
                      refine List.mem_of_getElem? (i := 0) ?_
                      rw [List.getElem?_drop, Nat.add_zero, hs]
                    exact hnd.2.2 s hin s hd rfl)
                  clear hs
                  go_wp2_with (first | ((with_reducible refine k_load ?_); refine st_load1 rfl _ _ rfl _ rfl rfl (Hc.out _ (HF.ext 1 rfl)) ?_; (intro K hK; go_simp)))
                  obtain ⟨b7, hb7⟩ : ∃ b, inS s 1 255 = b := ⟨_, rfl⟩
                  have hw := within HF s 1 255
                  rw [hb7] at hw
                  refine hw.mono ?_
                  rintro e w2 ⟨rfl, HX⟩
                  clear HF hw
                  have HF := HX
                  clear HX
                  have HB7 := Lib.hid hb7
                  clear hb7
                  cases b7 with
                  | false =>
                    go_wp2_with fail
                    go_ret
                    exact ⟨_, rfl, ⟨fun h => (by cases h), fun h => absurd (h.s s Hmem.out) (inS_false.1 HB7.out)⟩, (HF.sel 2 [1]).lift0 H0.out⟩
                  | true =>
                    by_cases hin : s ∈ S.take k
                    · have HG := Lib.hid (show (setF (S.take k) s).getD (.int .i64 0) = .int .i64 1 by rw [setF_in hin]; rfl)
                      have HN := Lib.hid (HD.out hin)
                      clear hin
                      go_wp2_with (first | (refine st_lookup rfl _ _ _ _ rfl _ rfl _ rfl _ _ Try.underlying85 Try.underlying3 (.int .i64 0) zt3 HF 0 rfl _ HI.out.1 ?_; (intro K hK; simp only [Bool.false_eq_true, if_false]; rw [HG.out]; go_simp)))
                      go_ret
                      exact ⟨_, rfl, ⟨fun h => (by cases h), fun h => absurd h.d HN.out⟩, (HF.sel 2 [1]).lift0 H0.out⟩
                    · have HG := Lib.hid (show (setF (S.take k) s).getD (.int .i64 0) = .int .i64 0 by rw [setF_out hin]; rfl)
                      have HN := Lib.hid (show (∀ x ∈ S.take (k + 1), 1 ≤ x ∧ x ≤ 255) ∧ (S.take (k + 1)).Nodup from by
                        obtain ⟨_, i2, i3⟩ := HI.out
                        rw [HT.out]
                        refine ⟨fun x hx => ?_, ?_⟩
                        · rcases List.mem_append.1 hx with h | h
                          · exact i2 x h
                          · rw [List.mem_singleton] at h; subst h; exact inS_true.1 HB7.out
                        · rw [List.nodup_append]
                          refine ⟨i3, by simp, fun a ha b hb => ?_⟩
                          rw [List.mem_singleton] at hb
                          subst hb
                          rintro rfl
                          exact hin ha)
                      have HIM := Lib.hid HI.out.1
                      clear hin HI
                      go_wp2_with (first | (refine st_lookup rfl _ _ _ _ rfl _ rfl _ rfl _ _ Try.underlying85 Try.underlying3 (.int .i64 0) zt3 HF 0 rfl _ HIM.out ?_; (intro K hK; simp only [Bool.false_eq_true, if_false]; rw [HG.out]; go_simp))                          | (refine st_mapUpdate rfl _ _ _ _ rfl mb rfl s rfl (.int .i64 1) rfl _ _ Try.underlying85 Try.underlying3 HF 0 rfl _ HIM.out ?_; (clear HF; intro es2 ck2 w HF HM2 K hK; have HM3 := Lib.hid HM2; clear HM2; go_simp)))
                      go_roundw
                      case rel => exact ⟨k + 1, es2, ck2, by omega, rfl, Lib.hid ⟨by rw [HT.out, ← setF_snoc]; exact HM3.out, HN.out⟩, HF⟩
                      case measure => simp [intOf]; omega
                · have g1 : ¬ (k : Int) < S.length := by omega
                  have HA := Lib.hid (show RightC ⟨cF, cP, cB, cK, cR⟩ S from by
                    obtain ⟨_, i2, i3⟩ := HI.out
                    rw [List.take_of_length_le (by omega)] at i2 i3
                    exact ⟨inS_true.1 HB1.out, inS_true.1 HB2.out, inS_true.1 HB3.out, inS_true.1 HB4.out, inS_true.1 HB5.out, inS_true.1 HB6.out, i2, i3⟩)
                  clear HI
                  go_wp2_with fail
                  go_ret
                  exact ⟨_, rfl, ⟨fun _ => HA.out, fun _ => rfl⟩, (HF.sel 2 [1]).lift0 H0.out⟩
-- (right is printed by gen/mkright2.py)
end
end Rg
end Go.Proofs.Ytohfboolicheeaa
