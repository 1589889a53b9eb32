/-
  GrownInts: rows that were handed out, written full and grown.
-/
import Derived.Test.YtohfboolicheeaaRgIts
namespace Go.Proofs.Ytohfboolicheeaa
open Go.Hp Go.RowKit
set_option linter.unusedVariables false
set_option linter.unusedSimpArgs false
set_option maxRecDepth 100000
set_option maxHeartbeats 4000000
namespace Rg
theorem stg27 : sizeT Try.prog 27 = some 1 := by kernel_rfl
theorem btg27 : bytesT Try.prog 27 = some 24 := by kernel_rfl
theorem ztg27 : zeroT Try.prog 27 = some (.slice none 0 0) := by kernel_rfl
def slC (vs : Nat → Value) (N : Nat) : List Value := (List.range N).map vs
theorem slC_len (vs : Nat → Value) (N : Nat) : (slC vs N).length = N := by simp [slC]
theorem slC_get {vs : Nat → Value} {N i : Nat} (h : i < N) : (slC vs N)[i]? = some (vs i) := by simp [slC, h]
theorem slC_set {vs : Nat → Value} {N i : Nat} (u : Value) : (slC vs N).set i u = slC (fun j => if j = i then u else vs j) N := by
  apply List.ext_getElem?
  intro j
  by_cases hj : j < N
  · rw [slC_get hj]
    by_cases e : j = i
    · subst e
      rw [List.getElem?_set_self (by rw [slC_len]; exact hj), if_pos rfl]
    · rw [List.getElem?_set_ne (by omega), slC_get hj, if_neg e]
  · rw [List.getElem?_eq_none (by rw [List.length_set, slC_len]; omega), List.getElem?_eq_none (by rw [slC_len]; omega)]
theorem slC_snoc (vs : Nat → Value) (N : Nat) : slC vs (N + 1) = slC vs N ++ [vs N] := by simp [slC, List.range_succ]
theorem slC_one {vs : Nat → Value} {N : Nat} (h : ∀ i, i < N → ∃ a n c, vs i = .slice a n c) : ∀ u ∈ slC vs N, u.oneCell' = true := by
  intro u hu
  obtain ⟨i, hi, rfl⟩ := List.mem_map.1 hu
  obtain ⟨a, n, c, e⟩ := h i (List.mem_range.1 hi)
  rw [e]
  rfl
theorem set_iCs {X : List Int} {k : Nat} {t : Int} : (iCs X).set k (.int .i64 t) = iCs (X.set k t) := by rw [iCs_map, iCs_map, List.map_set]

/-- How many numbers stand behind a row, while one is put behind each in turns. -/
def cntB (k i0 i : Nat) : Nat := if i < i0 then k + 1 else k
def GSt (vs mv : Nat → Value) (sh : Nat → Bool) (nl c : Nat → Nat) (i : Nat) : HProp := Stars [OI (mv i) (bsI i (nl i) ++ mkI i (c i)), if sh i then emp else OI (vs i) (bsI i (nl i))]
def ShA (vs mv : Nat → Value) (sh : Nat → Bool) (nl c : Nat → Nat) (N : Nat) : Prop := ∀ i, i < N → Shr (sh i) (vs i) (bsI i (nl i)) (mv i) (bsI i (nl i) ++ mkI i (c i))

theorem cntB_same {k i j : Nat} (h : j ≠ i) : cntB k (i + 1) j = cntB k i j := by
  unfold cntB
  by_cases e : j < i
  · rw [if_pos e, if_pos (by omega)]
  · rw [if_neg e, if_neg (by omega)]
theorem cntB_at (k i : Nat) : cntB k i i = k := by unfold cntB; rw [if_neg (Nat.lt_irrefl i)]
theorem cntB_up (k i : Nat) : cntB k (i + 1) i = k + 1 := by unfold cntB; rw [if_pos (Nat.lt_succ_self i)]
theorem gst_at {vs mv : Nat → Value} {sh : Nat → Bool} {nl : Nat → Nat} {k i : Nat} {v' : Value} {b' : Bool} : GSt vs (fun j => if j = i then v' else mv j) (fun j => if j = i then b' else sh j) nl (cntB k (i + 1)) i = Stars [OI v' (bsI i (nl i) ++ mkI i k ++ [0 - 1000 * (i : Int) - k - 1]), if b' then emp else OI (vs i) (bsI i (nl i))] := by
  unfold GSt
  have e1 : (fun j => if j = i then v' else mv j) i = v' := if_pos rfl
  have e2 : (fun j => if j = i then b' else sh j) i = b' := if_pos rfl
  rw [e1, e2, cntB_up, mkI_snoc, ← List.append_assoc]
theorem gst_ne {vs mv : Nat → Value} {sh : Nat → Bool} {nl : Nat → Nat} {k i j : Nat} {v' : Value} {b' : Bool} (hj : j ≠ i) : GSt vs (fun j => if j = i then v' else mv j) (fun j => if j = i then b' else sh j) nl (cntB k (i + 1)) j = GSt vs mv sh nl (cntB k i) j := by
  unfold GSt
  have e1 : (fun j => if j = i then v' else mv j) j = mv j := if_neg hj
  have e2 : (fun j => if j = i then b' else sh j) j = sh j := if_neg hj
  rw [e1, e2, cntB_same hj]
section
variable {w0 w : World} {L : List HProp}
theorem grown {N : Nat} {va : Value} {vs : Nat → Value} {ls : Nat → List Int} (hN : N ≤ 1000) (hl : ∀ i, i < N → (ls i).length ≤ 100)
    (H : At w0 (OwnRow 27 1 va N (slC vs N) :: (Its (fun i => OI (vs i) (ls i)) N ++ L)) w) :
    Calls Try.prog 42 #[va] w (Ret w0 (.bool true) L) := by
  obtain ⟨nl, hnl⟩ : ∃ nl : Nat → Nat, ∀ i, (ls i).length = nl i := ⟨fun i => (ls i).length, fun _ => rfl⟩
  have HL := Lib.hid (fun i (hi : i < N) => (show nl i ≤ 100 by rw [← hnl]; exact hl i hi))
  have HNL := Lib.hid hnl
  have HV := Lib.hid (fun i (hi : i < N) => (show ∃ a c, vs i = .slice a (nl i) c ∧ (0 < nl i → ∃ b, a = some b) by
    obtain ⟨a, c, h1, _, _, _, h2, _⟩ := own_value (its_take (f := fun i => OI (vs i) (ls i)) [OwnRow 27 1 va N (slC vs N)] hi H)
    rw [hnl] at h1 h2
    exact ⟨a, c, h1, h2⟩))
  clear hl hnl
  obtain ⟨ada, capa, rfl, q1, q2, _, q4, _⟩ := own_value H
  have Q4 := Lib.hid q4
  clear q1 q2 q4
  go_enter Try.func42, Try.ntmps42
  go_wp2_with fail
  go_loopw [3] (fun i wr => ∃ k : Nat, k ≤ N ∧ i = .int .i64 k ∧ At w0 (OwnRow 27 1 (.slice ada N capa) N (slC vs N) :: (Its (fun i => OI (vs i) (if i < k then bsI i (nl i) else ls i)) N ++ L)) wr) (fun i _ => N - (intOf i).toNat)
  case atStart => exact ⟨0, Nat.zero_le _, rfl, H⟩
  case round =>
    clear H
    obtain ⟨i, hi, rfl, H⟩ := hrel
    by_cases hlt : i < N
    · have gi : (i : Int) < N := by omega
      obtain ⟨ba, rfl⟩ := Q4.out (by omega)
      obtain ⟨ai, ci, hvi, _⟩ := HV.out i hlt
      have Hsl := Lib.hid (slC_get (vs := vs) hlt)
      rw [hvi] at Hsl
      have HF := its_take (f := fun i_1 => OI (vs i_1) (if i_1 < i then bsI i_1 (nl i_1) else ls i_1)) [OwnRow 27 1 (.slice (some ba) N capa) N (slC vs N)] hlt H
      have hni := HL.out i hlt
      have hll := Lib.hid (show (bsI i (nl i)).length = (ls i).length by rw [bsI_len, HNL.out])
      have hlen := Lib.hid (HNL.out i)
      have hput := Lib.hid (fun (w : World) (HX : At w0 (OwnRow 3 1 (.slice ai (nl i) ci) (nl i) (iCs (mixL (bsI i (nl i)) (ls i) (nl i))) :: OwnRow 27 1 (.slice (some ba) N capa) N (slC vs N) :: (Ers (fun j => OI (vs j) (if j < i then bsI j (nl j) else ls j)) N i ++ L)) w) => (show At w0 (OwnRow 27 1 (.slice (some ba) N capa) N (slC vs N) :: (Its (fun j => OI (vs j) (if j < i + 1 then bsI j (nl j) else ls j)) N ++ L)) w from by
        refine its_put (f := fun j => OI (vs j) (if j < i then bsI j (nl j) else ls j)) (f' := fun j => OI (vs j) (if j < i + 1 then bsI j (nl j) else ls j)) [OwnRow 27 1 (.slice (some ba) N capa) N (slC vs N)] hlt (fun j hj => ?_) ?_
        · by_cases h : j < i
          · rw [if_pos h, if_pos (by omega)]
          · rw [if_neg h, if_neg (by omega)]
        · rw [if_pos (Nat.lt_succ_self i), hvi]
          have e : mixL (bsI i (nl i)) (ls i) (nl i) = bsI i (nl i) := by
            unfold mixL
            rw [List.take_of_length_le (by rw [bsI_len]; exact Nat.le_refl _), List.drop_of_length_le (by rw [HNL.out]; exact Nat.le_refl _), List.append_nil]
          rw [e] at HX
          unfold OI
          rw [bsI_len]
          exact HX))
      have HF2 : At w0 (OwnRow 3 1 (.slice ai (nl i) ci) (nl i) (iCs (mixL (bsI i (nl i)) (ls i) 0)) :: OwnRow 27 1 (.slice (some ba) N capa) N (slC vs N) :: (Ers (fun j => OI (vs j) (if j < i then bsI j (nl j) else ls j)) N i ++ L)) wr := by
        rw [if_neg (Nat.lt_irrefl i), hvi] at HF
        have e : mixL (bsI i (nl i)) (ls i) 0 = ls i := by unfold mixL; simp
        rw [e]
        unfold OI at HF
        rw [hlen.out] at HF
        exact HF
      clear H HF hvi
      have HF := HF2
      clear HF2
      obtain ⟨n, hn⟩ : ∃ n, nl i = n := ⟨_, rfl⟩
      rw [hn] at HF hni hll hlen Hsl hput
      obtain ⟨R, hR⟩ : ∃ R, Ers (fun j => OI (vs j) (if j < i then bsI j (nl j) else ls j)) N i ++ L = R := ⟨_, rfl⟩
      rw [hR] at HF hput
      clear hn hR
      go_wp2_with fail
      go_loopw [4] (fun j wr => ∃ k : Nat, k ≤ n ∧ j = .int .i64 k ∧ At w0 (OwnRow 3 1 (.slice ai n ci) n (iCs (mixL (bsI i n) (ls i) k)) :: OwnRow 27 1 (.slice (some ba) N capa) N (slC vs N) :: R) wr) (fun j _ => n - (intOf j).toNat)
      case atStart => exact ⟨0, Nat.zero_le _, rfl, HF⟩
      case round =>
        clear HF
        obtain ⟨k, hk, rfl, HF⟩ := hrel
        by_cases hkl : k < n
        · have gk : (k : Int) < n := by omega
          obtain ⟨gb, rfl⟩ := own_base (by omega) HF
          have HST := Lib.hid (show (iCs (mixL (bsI i n) (ls i) k)).set k (.int .i64 (1000 * (i : Int) + k)) = iCs (mixL (bsI i n) (ls i) (k + 1)) by rw [set_iCs, mixL_set hll.out (bsI_get hkl)])
          have HSZ := Lib.hid (show k < (iCs (mixL (bsI i n) (ls i) k)).length by rw [iCs_len, mixL_len hll.out (by rw [hlen.out]; omega), hlen.out]; omega)
          have hw1 : wrap64 (1000 * (i : Int)) = 1000 * (i : Int) := wrap64_of (by omega) (by omega)
          have hw2 : wrap64 (1000 * (i : Int) + k) = 1000 * (i : Int) + k := wrap64_of (by omega) (by omega)
          go_wp2_with (first | ((with_reducible refine k_load ?_); refine st_load1 rfl _ _ rfl _ rfl rfl (own_cell (HF.pick 1 rfl) Hsl.out) ?_; (intro K hK; go_simp))              | ((with_reducible refine k_store ?_); refine st_ownStore rfl _ _ _ rfl (b := ⟨gb, 0, none⟩) k (by rw [Go.Hp.add_off]; rfl) (.int .i64 (1000 * (i : Int) + k)) rfl rfl st3 HF HSZ.out ?_; (clear HF; intro w HF K hK; rw [HST.out] at HF; go_simp)))
          go_roundw
          case rel => exact ⟨k + 1, by omega, rfl, HF⟩
          case measure => simp [intOf]; omega
        · have gk : ¬ (k : Int) < n := by omega
          have hkn : k = n := by omega
          subst hkn
          go_wp2_with ((with_reducible refine k_load ?_); refine st_load1 rfl _ _ rfl _ rfl rfl (own_cell (HF.pick 1 rfl) Hsl.out) ?_; (intro K hK; go_simp))
          go_roundw
          case rel => exact ⟨i + 1, by omega, rfl, hput.out _ HF⟩
          case measure => simp [intOf]; omega
    · have gi : ¬ (i : Int) < N := by omega
      have e1 : Its (fun j => OI (vs j) (if j < i then bsI j (nl j) else ls j)) N = Its (fun j => OI (vs j) (bsI j (nl j))) N := its_congr (fun j hj => by rw [if_pos (by omega)])
      rw [e1] at H
      have HF := own_nil H 27 1
      clear e1 H
      have Hlen := Lib.hid (slC_len vs N)
      have Hone := Lib.hid (slC_one (vs := vs) (N := N) (fun i hi => by obtain ⟨a, c, e, _⟩ := HV.out i hi; exact ⟨a, _, c, e⟩))
      go_wp2_with ((with_reducible refine k_builtin ?_); refine st_append rfl _ _ _ rfl 27 Try.underlying74 1 stg27 24 btg27 _ ztg27 rfl (.slice none 0 0) 0 [] rfl HF ada N capa (slC vs N) rfl (by rw [Hlen.out, Nat.mul_one]) ?_ Hone.out ?_ ?_ ?_; (intro hp; obtain ⟨bb, rfl⟩ := Q4.out hp; exact ⟨bb, rfl, fun j u hj => own_cell (HF.pick 1 rfl) hj⟩); (simp only [maxLen]; omega); (omega); (clear HF; intro v7 w HF K hK; rw [Nat.zero_add, List.nil_append] at HF; obtain ⟨am, cm, rfl, _, _, _, qm, _⟩ := own_value HF; go_simp))
      have QM := Lib.hid qm
      clear qm
      have H0 : At w0 (OwnRow 27 1 (.slice am N cm) N (slC vs N) :: OwnRow 27 1 (.slice ada N capa) N (slC vs N) :: (Its (GSt vs vs (fun _ => true) nl (fun _ => 0)) N ++ L)) w := by
        refine its_conv (f := fun j => OI (vs j) (bsI j (nl j))) (f' := GSt vs vs (fun _ => true) nl (fun _ => 0)) [OwnRow 27 1 (.slice am N cm) N (slC vs N), OwnRow 27 1 (.slice ada N capa) N (slC vs N)] (fun i hi M HM => ?_) HF
        have e : bsI i (nl i) ++ mkI i 0 = bsI i (nl i) := by simp [mkI]
        unfold GSt
        rw [e]
        exact At.fold (M := [_, _]) (HM.addEmp.sel 2 [1, 0])
      have hsh0 : ShA vs vs (fun _ => true) nl (fun _ => 0) N := by
        intro i hi _
        obtain ⟨a, c, e, _⟩ := HV.out i hi
        have e2 : bsI i (nl i) ++ mkI i 0 = bsI i (nl i) := by simp [mkI]
        exact ⟨a, c, by rw [bsI_len]; exact e, by rw [e2, bsI_len]; exact e, by rw [e2]; exact List.prefix_refl _⟩
      have HS0 := Lib.hid hsh0
      clear hsh0 HF
      have HF := H0
      clear H0 gi hlt hi
      go_loopw [6] (fun i wr => ∃ (k : Nat) (mv : Nat → Value) (sh : Nat → Bool), k ≤ 32 ∧ i = .int .i64 k ∧ Hid (ShA vs mv sh nl (fun _ => k) N) ∧ At w0 (OwnRow 27 1 (.slice am N cm) N (slC mv N) :: OwnRow 27 1 (.slice ada N capa) N (slC vs N) :: (Its (GSt vs mv sh nl (fun _ => k)) N ++ L)) wr) (fun i _ => 32 - (intOf i).toNat)
      case atStart => exact ⟨0, vs, fun _ => true, Nat.zero_le _, rfl, Lib.hid HS0.out, HF⟩
      case round =>
        clear HF
        obtain ⟨k, mv, sh, hk, rfl, HSh, HF⟩ := hrel
        by_cases hk32 : k < 32
        · have gk : (k : Int) < 32 := by omega
          go_wp2_with fail
          go_loopw [7] (fun j wr => ∃ (i : Nat) (mv : Nat → Value) (sh : Nat → Bool), i ≤ N ∧ j = .int .i64 i ∧ Hid (ShA vs mv sh nl (cntB k i) N) ∧ At w0 (OwnRow 27 1 (.slice am N cm) N (slC mv N) :: OwnRow 27 1 (.slice ada N capa) N (slC vs N) :: (Its (GSt vs mv sh nl (cntB k i)) N ++ L)) wr) (fun i _ => N - (intOf i).toNat)
          case atStart =>
            have e : (cntB k 0) = fun _ => k := by funext j; unfold cntB; rw [if_neg (Nat.not_lt_zero j)]
            refine ⟨0, mv, sh, Nat.zero_le _, rfl, Lib.hid ?_, ?_⟩
            · rw [e]; exact HSh.out
            · rw [e]; exact HF
          case round =>
            clear HF HSh
            obtain ⟨i, mv, sh, hi, rfl, HSh, H⟩ := hrel
            by_cases hlt : i < N
            · have gi : (i : Int) < N := by omega
              obtain ⟨bm, rfl⟩ := QM.out (by omega)
              have HT := At.flat (its_take (f := GSt vs mv sh nl (cntB k i)) [OwnRow 27 1 (.slice (some bm) N cm) N (slC mv N), OwnRow 27 1 (.slice ada N capa) N (slC vs N)] hlt H)
              have hshi := HSh.out i hlt
              rw [cntB_at] at HT hshi
              have hni := HL.out i hlt
              obtain ⟨ami, cmi, hmv⟩ := own_any HT
              have Hsl := Lib.hid (slC_get (vs := mv) hlt)
              have hxl : (bsI i (nl i) ++ mkI i k).length ≤ 1000 := by rw [List.length_append, bsI_len, mkI_len]; omega
              have hput := Lib.hid (fun (v' : Value) (b' : Bool) (w : World) (hs' : Shr b' (vs i) (bsI i (nl i)) v' (bsI i (nl i) ++ mkI i k ++ [0 - 1000 * (i : Int) - k - 1])) (HX : At w0 (OI v' (bsI i (nl i) ++ mkI i k ++ [0 - 1000 * (i : Int) - k - 1]) :: (if b' then emp else OI (vs i) (bsI i (nl i))) :: OwnRow 27 1 (.slice (some bm) N cm) N ((slC mv N).set i v') :: OwnRow 27 1 (.slice ada N capa) N (slC vs N) :: (Ers (GSt vs mv sh nl (cntB k i)) N i ++ L)) w) =>
                (show ∃ (mv' : Nat → Value) (sh' : Nat → Bool), ShA vs mv' sh' nl (cntB k (i + 1)) N ∧ At w0 (OwnRow 27 1 (.slice (some bm) N cm) N (slC mv' N) :: OwnRow 27 1 (.slice ada N capa) N (slC vs N) :: (Its (GSt vs mv' sh' nl (cntB k (i + 1))) N ++ L)) w from by
                  refine ⟨fun j => if j = i then v' else mv j, fun j => if j = i then b' else sh j, fun j hj => ?_, ?_⟩
                  · by_cases e : j = i
                    · subst e
                      dsimp only
                      rw [if_pos rfl, if_pos rfl, cntB_up, mkI_snoc, ← List.append_assoc]
                      exact hs'
                    · dsimp only
                      rw [if_neg e, if_neg e, cntB_same e]
                      exact HSh.out j hj
                  · rw [slC_set] at HX
                    refine its_put (f := GSt vs mv sh nl (cntB k i)) (f' := GSt vs (fun j => if j = i then v' else mv j) (fun j => if j = i then b' else sh j) nl (cntB k (i + 1))) [OwnRow 27 1 (.slice (some bm) N cm) N (slC (fun j => if j = i then v' else mv j) N), OwnRow 27 1 (.slice ada N capa) N (slC vs N)] hlt (fun j hj => ?_) ?_
                    · exact gst_ne hj
                    · rw [gst_at]
                      exact At.fold (M := [_, _]) HX))
              obtain ⟨xs, hxs⟩ : ∃ xs, bsI i (nl i) ++ mkI i k = xs := ⟨_, rfl⟩
              obtain ⟨bs, hbs⟩ : ∃ bs, bsI i (nl i) = bs := ⟨_, rfl⟩
              obtain ⟨av, hav⟩ : ∃ av, vs i = av := ⟨_, rfl⟩
              obtain ⟨b0, hb0⟩ : ∃ b, sh i = b := ⟨_, rfl⟩
              obtain ⟨R, hR⟩ : ∃ R, Ers (GSt vs mv sh nl (cntB k i)) N i ++ L = R := ⟨_, rfl⟩
              obtain ⟨mi, hmi⟩ : ∃ mi, mv i = mi := ⟨_, rfl⟩
              rw [hR] at hput
              rw [hxs] at hshi hmv hxl hput
              rw [hbs, hav] at hshi hput
              rw [hb0] at hshi
              rw [hmi] at hshi hmv Hsl
              have HF : At w0 (OI mi xs :: (if b0 then emp else OI av bs) :: OwnRow 27 1 (.slice (some bm) N cm) N (slC mv N) :: OwnRow 27 1 (.slice ada N capa) N (slC vs N) :: R) wr := by
                rw [← hmi, ← hxs, ← hb0, ← hav, ← hbs, ← hR]
                exact HT
              have hlm := Lib.hid (show i < (slC mv N).length by rw [slC_len]; exact hlt)
              have HSI := Lib.hid hshi
              subst hmv
              clear HT H hxs hbs hav hb0 hR hmi hshi HSh
              have hw1 : wrap64 (1000 * (i : Int)) = 1000 * (i : Int) := wrap64_of (by omega) (by omega)
              have hw2 : wrap64 (0 - 1000 * (i : Int)) = 0 - 1000 * (i : Int) := wrap64_of (by omega) (by omega)
              have hw3 : wrap64 (0 - 1000 * (i : Int) - k) = 0 - 1000 * (i : Int) - k := wrap64_of (by omega) (by omega)
              have hw4 : wrap64 (0 - 1000 * (i : Int) - k - 1) = 0 - 1000 * (i : Int) - k - 1 := wrap64_of (by omega) (by omega)
              have hy : -(1000 * (i : Int)) - k - 1 = 0 - 1000 * (i : Int) - k - 1 := by omega
              have HY := Lib.hid hy
              have HLN := Lib.hid (show xs.length + 1 = (xs ++ [0 - 1000 * (i : Int) - k - 1]).length by simp)
              clear hy
              go_wp2_with (first | ((with_reducible refine k_load ?_); refine st_load1 rfl _ _ rfl _ rfl rfl (own_cell (HF.pick 2 rfl) Hsl.out) ?_; (intro K hK; go_simp))                  | ((with_reducible refine k_builtin ?_); refine st_append2 rfl _ _ _ rfl Try.underlying27 (.slice ami xs.length cmi) xs rfl av bs b0 HSI.out ((HF.alloc _).sel 5 [1, 2, 3, 4]) (-(1000 * (i : Int)) - k - 1) ⟨_, 0, none⟩ rfl (cells_of ((HF.alloc _).get 0 rfl) 0 _ rfl) hxl ?_; (clear HF; intro v' b' w hs' HF K hK; rw [HY.out] at hs' HF; obtain ⟨s5, t5, rfl⟩ := own_any HF; go_simp))                  | ((with_reducible refine k_store ?_); refine st_ownStore rfl _ _ _ rfl (b := bm) i rfl (.slice s5 (xs.length + 1) t5) rfl rfl stg27 (HF.sel 4 [2, 0, 1, 3]) hlm.out ?_; (clear HF; intro w HF K hK; rw [HLN.out] at HF; go_simp)))
              obtain ⟨mv', sh', hS', HF'⟩ := hput.out _ _ _ hs' (HF.sel 4 [1, 2, 0, 3])
              go_roundw
              case rel => exact ⟨i + 1, mv', sh', by omega, rfl, Lib.hid hS', HF'⟩
              case measure => simp [intOf]; omega
            · have gi : ¬ (i : Int) < N := by omega
              have hi8 : i = N := by omega
              subst hi8
              have hS' := HSh.out
              have e : Its (GSt vs mv sh nl (cntB k i)) i = Its (GSt vs mv sh nl (fun _ => k + 1)) i := its_congr (fun j hj => by unfold GSt cntB; rw [if_pos hj])
              have hS2 : ShA vs mv sh nl (fun _ => k + 1) i := by
                intro j hj
                have := hS' j hj
                unfold cntB at this
                rw [if_pos hj] at this
                exact this
              rw [e] at H
              have HS2 := Lib.hid hS2
              clear e hS' hS2
              go_wp2_with fail
              go_roundw
              case rel => exact ⟨k + 1, mv, sh, by omega, rfl, Lib.hid HS2.out, H⟩
              case measure => simp [intOf]; omega
        · have gk : ¬ (k : Int) < 32 := by omega
          have hk8 : k = 32 := by omega
          subst hk8
          obtain ⟨W5, rfl⟩ : ∃ W5 : World, W5 = wr := ⟨_, rfl⟩
          have HWA := Lib.hid (fun i (hi : i < N) => (show RecsAt W5 (mv i) 1 ((bsI i (nl i) ++ mkI i 32).map iC) from
            oi_recs (At.flat (its_take (f := GSt vs mv sh nl (fun _ => 32)) [OwnRow 27 1 (.slice am N cm) N (slC mv N), OwnRow 27 1 (.slice ada N capa) N (slC vs N)] hi HF))))
          have HWB := Lib.hid (fun i (hi : i < N) => (show ∀ b c, vs i = .slice (some b) (nl i) c → ∀ j, j < nl i → W5.cell? (b.add j) = some (.int .i64 (1000 * (i : Int) + j)) from fun b c hb j hj => by
            have HX := At.flat (its_take (f := GSt vs mv sh nl (fun _ => 32)) [OwnRow 27 1 (.slice am N cm) N (slC mv N), OwnRow 27 1 (.slice ada N capa) N (slC vs N)] hi HF)
            cases hsi : sh i with
            | true =>
              obtain ⟨ad, cap, e1, e2, e3⟩ := HSh.out i hi hsi
              rw [hb, bsI_len] at e1
              cases e1
              have hr := oi_recs HX
              rw [e2] at hr
              refine recs_int hr ?_
              rw [List.getElem?_append_left (by rw [bsI_len]; exact hj)]
              exact bsI_get hj
            | false =>
              have hr := oi_recs (HX.pick 1 (by rw [hsi]; rfl))
              rw [hb] at hr
              have hr2 : RecsAt W5 (.slice (some b) (bsI i (nl i)).length c) 1 ((bsI i (nl i)).map iC) := by rw [bsI_len]; exact hr
              exact recs_int hr2 (bsI_get hj)))
          have HWC := Lib.hid (fun (i : Nat) (hi : i < N) (bm : Addr) (hb : am = some bm) => (show W5.cell? (bm.add i) = some (mv i) from own_cell (by rw [← hb]; exact HF) (slC_get hi)))
          have HWD := Lib.hid (fun (i : Nat) (hi : i < N) (ba : Addr) (hb : ada = some ba) => (show W5.cell? (ba.add i) = some (vs i) from own_cell (HF.pick 1 (by rw [← hb]; rfl)) (slC_get hi)))
          have HW := Lib.hid (HF.drop.drop)
          have HWE := Lib.hid (show At w0 L W5 from its_drop [] HW.out)
          clear HF HSh HW
          have HF := At.of W5
          go_wp2_with fail
          go_loopw [8] (fun i w5 => ∃ k : Nat, k ≤ N ∧ i = .int .i64 k ∧ At W5 (Arg W5 :: []) w5) (fun i _ => N - (intOf i).toNat)
          case atStart => exact ⟨0, Nat.zero_le _, rfl, HF⟩
          case round =>
            clear HF
            obtain ⟨i, hi, rfl, HF⟩ := hrel
            by_cases hlt : i < N
            · have gi : (i : Int) < N := by omega
              obtain ⟨bm, rfl⟩ := QM.out (by omega)
              obtain ⟨ba, rfl⟩ := Q4.out (by omega)
              obtain ⟨ai, ci, hvi, hai⟩ := HV.out i hlt
              obtain ⟨ami, cmi, hmi, _, _, hm0⟩ := (HWA.out i hlt).value
              rw [List.length_map, List.length_append, bsI_len, mkI_len] at hmi hm0
              obtain ⟨bmi, rfl⟩ := hm0 (by omega)
              have HA := Lib.hid (fun (w2 : World) (hx : Ext W5 w2) => hx.cell (HWD.out i hlt ba rfl))
              have HM := Lib.hid (fun (w2 : World) (hx : Ext W5 w2) => hx.cell (HWC.out i hlt bm rfl))
              rw [hvi] at HA
              rw [hmi] at HM
              have hr : RecsAt W5 (.slice (some bmi) (bsI i (nl i) ++ mkI i 32).length cmi) 1 ((bsI i (nl i) ++ mkI i 32).map iC) := by
                rw [List.length_append, bsI_len, mkI_len, ← hmi]
                exact HWA.out i hlt
              have HMC := Lib.hid (fun (j : Nat) (x : Int) (hj : (bsI i (nl i) ++ mkI i 32)[j]? = some x) (w2 : World) (hx : Ext W5 w2) => hx.cell (recs_int hr hj))
              have HAC := Lib.hid (fun (b : Addr) (hb : ai = some b) (j : Nat) (hj : j < nl i) (w2 : World) (hx : Ext W5 w2) => hx.cell (HWB.out i hlt b ci (by rw [hvi, hb]) j hj))
              have hni := HL.out i hlt
              obtain ⟨n, hn⟩ : ∃ n, nl i = n := ⟨_, rfl⟩
              rw [hn] at hai HA HM HMC HAC hni
              have HAI := Lib.hid hai
              clear hn hvi hmi hr hm0 hai
              go_wp2_with ((with_reducible refine k_load ?_); refine st_load1 rfl _ _ rfl _ rfl rfl (HA.out _ (HF.ext 0 rfl)) ?_; (intro K hK; go_simp))
              have hw0 : wrap64 ((n : Int) + 32) = (n : Int) + 32 := wrap64_of (by omega) (by omega)
              have hw1 : wrap64 (1000 * (i : Int)) = 1000 * (i : Int) := wrap64_of (by omega) (by omega)
              go_loopw [10] (fun j w5 => ∃ k : Nat, k ≤ n + 32 ∧ j = .int .i64 k ∧ At W5 (Arg W5 :: []) w5) (fun j _ => n + 32 - (intOf j).toNat)
              case atStart => exact ⟨0, Nat.zero_le _, rfl, HF⟩
              case round =>
                clear HF
                obtain ⟨k, hk, rfl, HF⟩ := hrel
                by_cases hk2 : k < n + 32
                · have gk2 : (k : Int) < (n : Int) + 32 := by omega
                  by_cases hkn : k < n
                  · have gk : (k : Int) < n := by omega
                    have gk3 : ¬ (n : Int) ≤ k := by omega
                    obtain ⟨bi, rfl⟩ := HAI.out (by omega)
                    obtain ⟨y, hy⟩ : ∃ y : Int, 1000 * (i : Int) + k = y := ⟨_, rfl⟩
                    have hw2 : wrap64 (1000 * (i : Int) + k) = y := by rw [wrap64_of (by omega) (by omega)]; exact hy
                    have HX1 := Lib.hid (show ∀ (w2 : World), Ext W5 w2 → w2.cell? (bi.add k) = some (.int .i64 y) from fun w2 hx => by have := HAC.out bi rfl k hkn w2 hx; rwa [hy] at this)
                    have HX2 := Lib.hid (show ∀ (w2 : World), Ext W5 w2 → w2.cell? (bmi.add k) = some (.int .i64 y) from fun w2 hx => by have := HMC.out k (1000 * (i : Int) + k) (by rw [List.getElem?_append_left (by rw [bsI_len]; exact hkn)]; exact bsI_get hkn) w2 hx; rwa [hy] at this)
                    have hne : (y != 1000 * (i : Int) + k) = false := by rw [hy]; simp
                    have HR1 := Lib.hid gk2
                    clear hy hw2
                    have gk5 : (k : Int) < ((n + 32 : Nat) : Int) := Int.ofNat_lt.2 hk2
                    clear hk hk2 hkn
                    go_wp2_with ((with_reducible refine k_load ?_); (first | refine st_load1 rfl _ _ rfl _ rfl rfl (HA.out _ (HF.ext 0 rfl)) ?_ | refine st_load1 rfl _ _ rfl _ rfl rfl (HM.out _ (HF.ext 0 rfl)) ?_ | refine st_load1 rfl _ _ rfl _ rfl rfl (HX1.out _ (HF.ext 0 rfl)) ?_ | refine st_load1 rfl _ _ rfl _ rfl rfl (HX2.out _ (HF.ext 0 rfl)) ?_); (intro K hK; go_simp))
                    go_roundw
                    case rel => exact ⟨k + 1, by omega, rfl, HF⟩
                    case measure => simp [intOf]; omega
                  · obtain ⟨j, hj⟩ : ∃ j, k = n + j := ⟨k - n, by omega⟩
                    have hj32 : j < 32 := by omega
                    have gk : ¬ (k : Int) < n := by omega
                    have gk3 : (n : Int) ≤ k := by omega
                    have gk5 : (k : Int) < ((n + 32 : Nat) : Int) := Int.ofNat_lt.2 hk2
                    have hw2 : wrap64 (0 - 1000 * (i : Int)) = -(1000 * (i : Int)) := by rw [wrap64_of (by omega) (by omega)]; omega
                    have hw2b : wrap64 (-(1000 * (i : Int))) = -(1000 * (i : Int)) := wrap64_of (by omega) (by omega)
                    have hw3 : wrap64 ((k : Int) - n) = (k : Int) - n := wrap64_of (by omega) (by omega)
                    have hw4 : wrap64 (-(1000 * (i : Int)) - ((k : Int) - n)) = -(1000 * (i : Int)) - ((k : Int) - n) := wrap64_of (by omega) (by omega)
                    have hw5 : wrap64 (-(1000 * (i : Int)) - ((k : Int) - n) - 1) = -(1000 * (i : Int)) - ((k : Int) - n) - 1 := wrap64_of (by omega) (by omega)
                    have HX2 := Lib.hid (show ∀ (w2 : World), Ext W5 w2 → w2.cell? (bmi.add k) = some (.int .i64 (-(1000 * (i : Int)) - ((k : Int) - n) - 1)) from fun w2 hx => by
                      have := HMC.out k (0 - 1000 * (i : Int) - j - 1) (by rw [List.getElem?_append_right (by rw [bsI_len]; omega), bsI_len, show k - n = j by omega]; exact mkI_get hj32) w2 hx
                      rw [this]
                      congr 2
                      omega)
                    clear hk hk2 hkn hj hj32
                    go_wp2_with ((with_reducible refine k_load ?_); (first | refine st_load1 rfl _ _ rfl _ rfl rfl (HA.out _ (HF.ext 0 rfl)) ?_ | refine st_load1 rfl _ _ rfl _ rfl rfl (HM.out _ (HF.ext 0 rfl)) ?_ | refine st_load1 rfl _ _ rfl _ rfl rfl (HX2.out _ (HF.ext 0 rfl)) ?_); (intro K hK; go_simp))
                    go_roundw
                    case rel => exact ⟨k + 1, by omega, rfl, HF⟩
                    case measure => simp [intOf]; omega
                · have gk2 : ¬ (k : Int) < (n : Int) + 32 := by omega
                  go_wp2_with fail
                  go_roundw
                  case rel => exact ⟨i + 1, by omega, rfl, HF⟩
                  case measure => simp [intOf]; omega
            · have gi : ¬ (i : Int) < N := by omega
              go_wp2_with fail
              go_ret
              exact ⟨rfl, HF.lift0 HWE.out⟩
end
end Rg
end Go.Proofs.Ytohfboolicheeaa
