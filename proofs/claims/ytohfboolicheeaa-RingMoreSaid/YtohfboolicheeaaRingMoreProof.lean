/-
  For any configuration, number, place and keys the law RingMore answers true: with one server more each group stays or holds it, no other share grows.
-/
import Derived.Test.YtohfboolicheeaaRgArgs
import Derived.Test.YtohfboolicheeaaRgMore
import Derived.ProofKit
namespace Go.Proofs.Ytohfboolicheeaa
open Go.Hp Go.RowKit Go.ChangeShapes Go.WideShapes
set_option linter.unusedVariables false
set_option linter.unusedSimpArgs false
set_option maxRecDepth 100000
namespace ringMore
open Rg
namespace Lw
abbrev arg_Config := @Rg.arg_Config
abbrev arg_int := @Rg.arg_int
abbrev arg_keys := @Rg.arg_keys
end Lw
theorem nil_ints {w : World} : RecsAt w (.slice none 0 0) 1 (([] : List Int).map iC) := ⟨⟨none, 0, rfl, Nat.le_refl _, by simp [maxLen], fun h => absurd h (Nat.lt_irrefl _), fun b hb => by cases hb⟩, fun r hr => absurd hr List.not_mem_nil⟩
theorem more_facts {a b p : Nat} (h1 : a ≤ b) (h2 : b ≤ a + 1) (h3 : b ≤ p) (h4 : b ≤ 7) : (¬ ((b : Nat) : Int) < a) ∧ wrap64 ((a : Int) + 1) = (a : Int) + 1 ∧ (¬ (a : Int) + 1 < b) ∧ a ≤ p ∧ (a : Int) ≤ p :=
  ⟨by omega, wrap64_of (by omega) (by omega), by omega, by omega, by omega⟩
section
variable {W : World}

set_option maxHeartbeats 4000000 in
theorem walk {va vi vp vk : Value} {x : Cg} (ha : CfArg W va x) {id : Int} (hi : IntArg vi id) {place : Int} (hpl : IntArg vp place) {ks : List Ky} (hk : KysArg W vk ks) :
    Calls Try.prog 6 #[va, vi, vp, vk] W fun e w => e = .returned (.bool true) ∧ Below W.heap.size W w := by
  obtain ⟨rfl, hs, hn9, _⟩ := ha
  obtain ⟨rfl, _⟩ := hi
  obtain ⟨rfl, _⟩ := hpl
  obtain ⟨c, S, vs⟩ := x
  obtain ⟨hk1, _⟩ := hk
  dsimp only at *
  have HF := At.of W
  obtain ⟨adk, capk, rfl, k1, k2, k3⟩ := hk1.value
  rw [List.length_map] at k1 k3 hk1
  have hk63 : ks.length ≤ 9223372036854775807 := by simp only [maxLen] at k2; omega
  have HK := Lib.hid hk1
  have K3 := Lib.hid k3
  obtain ⟨ads, caps, rfl, s1, s2, s3⟩ := hs.value
  rw [List.length_map] at hs s1 s3
  rw [List.length_map, List.length_map]
  have HS := Lib.hid hs
  have S3 := Lib.hid s3
  have HN := Lib.hid hn9
  have hs63 : S.length ≤ 17592186043904 := hn9
  have HIs := Lib.hid (fun (w2 : World) (M : List HProp) (w0 : World) (U : List Int) (v2 : Value) (h2 : RecsAt w2 v2 1 (U.map iC)) (HM : At w0 M w2) => isC (c := c) h2 HM)
  have HWt := Lib.hid (fun (w2 : World) (M : List HProp) (w0 : World) (v2 : Value) (h2 : RecsAt w2 v2 1 (S.map iC)) (HM : At w0 M w2) => withP (c := c) (id := id) (place := place) h2 hn9 HM)
  have HMd := Lib.hid (fun (w2 : World) (M : List HProp) (w0 : World) (U : List Int) (hU : U.length ≤ 17592186043904) (v2 : Value) (h2 : RecsAt w2 v2 1 (U.map iC)) (HM : At w0 M w2) => made (c := c) h2 hU HM)
  obtain ⟨cF, cP, cB, cK, cR⟩ := c
  dsimp only at HIs HWt HMd
  clear hk1 k1 k2 k3 hs s1 s2 s3 hn9
  simp only [Cg.cells]
  have Hs6 := Lib.hid (fun (a : Option Addr) (n m : Nat) => show sizeT Try.prog 29 = some ([.slice a n m, .int .i64 cF, .int .i64 cP, .int .i64 cB, .int .i64 cK, .int .i64 cR] : List Value).length from s29)
  go_enter Try.func6, Try.ntmps6
  go_wp2_with (first | ((with_reducible refine k_box ?_); refine st_box rfl _ _ rfl _ rfl HF ?_; (clear HF; intro g4 w HF K hK; simp only [Value.cells, Act.eval, Value.cells, Array.getD_eq_getD_getElem?, List.getElem?_toArray, List.getElem?_cons_succ, List.getElem?_cons_zero, Option.getD_some] at HF; go_simp)))
  refine (known HF).mono ?_
  rintro e w1 ⟨rfl, HX⟩
  clear HF
  have HF := HX
  clear HX
  go_wp2_with (first | ((with_reducible refine k_load (T := 29) ?_); refine st_row rfl _ _ rfl _ rfl a29 6 s29 HF 0 rfl rfl ?_; (intro K hK; go_simp)) | ((with_reducible refine k_load (T := 29) ?_); refine st_loads rfl _ _ rfl _ _ rfl a29 6 s29 HF 0 rfl ?_ ?_; (simp); (intro K hK; go_simp)))
  refine (HWt.out _ _ _ _ (HS.out.ext (HF.ext 1 rfl)) HF).mono ?_
  rintro e w2 ⟨at0, tn0, ct0, T, rfl, hTp, HX⟩
  clear HF HWt
  obtain ⟨at1, ct1, hvt, t1, t2, t3⟩ := (oi_recs HX).value
  rw [List.length_map] at hvt t1 t3
  cases hvt
  have HF := HX
  clear HX t1 t2 t3
  go_wp2_with (first | ((with_reducible refine k_alloc (T := 29) ?_); refine st_alloc rfl _ rfl _ z29 _ rfl HF ?_; (clear HF; intro g9 w HF K hK; simp only [Value.cells] at HF; go_simp)) | ((with_reducible refine k_store (T := 29) ?_); refine st_put rfl _ _ _ rfl _ rfl _ rfl ?_ s29 HF 0 rfl rfl ?_; (simp [Value.oneCell']); (clear HF; intro w HF K hK; simp only [List.set_cons_zero, List.set_cons_succ, Act.eval, Value.cells, Array.getD_eq_getD_getElem?, List.getElem?_toArray, List.getElem?_cons_succ, List.getElem?_cons_zero, Option.getD_some] at HF; go_simp)) | ((with_reducible refine k_load (T := 29) ?_); refine st_row rfl _ _ rfl _ rfl a29 6 s29 HF 2 rfl rfl ?_; (intro K hK; go_simp)) | ((with_reducible refine k_load (T := 29) ?_); refine st_loads rfl _ _ rfl _ _ rfl a29 6 s29 HF 2 rfl ?_ ?_; (simp); (intro K hK; go_simp)))
  have HX : At W (Blk g9 (.cells #[.slice at0 T.length ct0, .int .i64 cF, .int .i64 cP, .int .i64 cB, .int .i64 cK, .int .i64 cR] 29 (0, 0)) :: OI (.slice at0 T.length ct0) T :: Blk g4 (.cells #[.slice ads S.length caps, .int .i64 cF, .int .i64 cP, .int .i64 cB, .int .i64 cK, .int .i64 cR] 29 (0, 0)) :: Arg W :: []) _ := HF
  clear HF
  have hX0 := HX.get 0 rfl
  have hX2 := HX.get 2 rfl
  have hRT := oi_recs (HX.pick 1 rfl)
  have RT := Lib.hid hRT
  have HTP := Lib.hid hTp
  have HB4 := Lib.hid (fun (w4 : World) (hx : Ext w w4) j u (hj : ([.slice ads S.length caps, .int .i64 cF, .int .i64 cP, .int .i64 cB, .int .i64 cK, .int .i64 cR] : List Value)[j]? = some u) => hx.cell (cells_of (hX2) j u hj))
  have HB9 := Lib.hid (fun (w4 : World) (hx : Ext w w4) j u (hj : ([.slice at0 T.length ct0, .int .i64 cF, .int .i64 cP, .int .i64 cB, .int .i64 cK, .int .i64 cR] : List Value)[j]? = some u) => hx.cell (cells_of (hX0) j u hj))
  have XA := Lib.hid (HX.ext 3 rfl)
  have HW := Lib.hid HX
  have HEND := Lib.hid (fun (w' : World) (H : At w [Arg w] w') => (H.lift0 HW.out).below 3 rfl)
  clear hX0 hX2 hRT HX hTp
  have HF := At.of w
  refine (HIs.out _ _ _ _ _ (HS.out.ext (XA.out.trans (HF.ext 0 rfl))) HF).mono ?_
  rintro e w5 ⟨b1, rfl, hb1, HX⟩
  clear HF
  have HF := HX
  clear HX
  have HB1 := Lib.hid hb1
  clear hb1
  cases b1 with
  | false =>
    go_wp2_with fail
    go_ret
    exact ⟨rfl, HEND.out _ HF⟩
  | true =>
  go_wp2_with ((with_reducible refine k_load (T := 29) ?_); (first | refine st_loadCells rfl _ _ rfl _ rfl a29 [.slice ads S.length caps, .int .i64 cF, .int .i64 cP, .int .i64 cB, .int .i64 cK, .int .i64 cR] (Hs6.out _ _ _) (HB4.out _ (HF.ext 0 rfl)) ?_ | refine st_loadCells rfl _ _ rfl _ rfl a29 [.slice at0 T.length ct0, .int .i64 cF, .int .i64 cP, .int .i64 cB, .int .i64 cK, .int .i64 cR] (Hs6.out _ _ _) (HB9.out _ (HF.ext 0 rfl)) ?_); (intro K hK; go_simp))
  refine (HIs.out _ _ _ _ _ (RT.out.ext (HF.ext 0 rfl)) HF).mono ?_
  rintro e w6 ⟨b2, rfl, hb2, HX⟩
  clear HF HIs
  have HF := HX
  clear HX
  have HB2 := Lib.hid hb2
  clear hb2
  cases b2 with
  | false =>
    go_wp2_with fail
    go_ret
    exact ⟨rfl, HEND.out _ HF⟩
  | true =>
  have hRC := HB1.out.1 (by first | rfl | trivial)
  have hRT := HB2.out.1 (by first | rfl | trivial)
  clear HB1 HB2
  have HRC := Lib.hid hRC
  have HRT := Lib.hid hRT
  have HTN := Lib.hid (show T.length ≤ 17592186043904 by have := hRT.n.2; omega)
  clear hRC hRT
  go_wp2_with ((with_reducible refine k_load (T := 29) ?_); (first | refine st_loadCells rfl _ _ rfl _ rfl a29 [.slice ads S.length caps, .int .i64 cF, .int .i64 cP, .int .i64 cB, .int .i64 cK, .int .i64 cR] (Hs6.out _ _ _) (HB4.out _ (HF.ext 0 rfl)) ?_ | refine st_loadCells rfl _ _ rfl _ rfl a29 [.slice at0 T.length ct0, .int .i64 cF, .int .i64 cP, .int .i64 cB, .int .i64 cK, .int .i64 cR] (Hs6.out _ _ _) (HB9.out _ (HF.ext 0 rfl)) ?_); (intro K hK; go_simp))
  refine (HMd.out _ _ _ _ HN.out _ (HS.out.ext (XA.out.trans (HF.ext 0 rfl))) HF).mono ?_
  rintro e w7 (⟨_, g1, rfl, HX⟩ | ⟨hRC, _⟩)
  case inr => exact absurd HRC.out hRC
  clear HF
  have HF := HX
  clear HX
  go_wp2_with ((with_reducible refine k_load (T := 29) ?_); (first | refine st_loadCells rfl _ _ rfl _ rfl a29 [.slice ads S.length caps, .int .i64 cF, .int .i64 cP, .int .i64 cB, .int .i64 cK, .int .i64 cR] (Hs6.out _ _ _) (HB4.out _ (HF.ext 1 rfl)) ?_ | refine st_loadCells rfl _ _ rfl _ rfl a29 [.slice at0 T.length ct0, .int .i64 cF, .int .i64 cP, .int .i64 cB, .int .i64 cK, .int .i64 cR] (Hs6.out _ _ _) (HB9.out _ (HF.ext 1 rfl)) ?_); (intro K hK; go_simp))
  refine (HMd.out _ _ _ _ HTN.out _ (RT.out.ext (HF.ext 1 rfl)) HF).mono ?_
  rintro e w9 (⟨_, g2, rfl, HX⟩ | ⟨hRC, _⟩)
  case inr => exact absurd HRT.out hRC
  clear HF HMd
  obtain ⟨hidS, hfil⟩ := one_more HTP.out HRT.out.d
  have hP := pts_ok HRC.out
  have hQ := pts_ok HRT.out
  have hpq := pts_without hfil cP.toNat
  dsimp only at HX hP hQ
  obtain ⟨pts, hpts⟩ : ∃ pts, sortP (ptsOf (sortI S) cP.toNat) = pts := ⟨_, rfl⟩
  obtain ⟨qts, hqts⟩ : ∃ qts, sortP (ptsOf (sortI T) cP.toNat) = qts := ⟨_, rfl⟩
  obtain ⟨SS, hSS⟩ : ∃ SS, sortI S = SS := ⟨_, rfl⟩
  obtain ⟨TT, hTT⟩ : ∃ TT, sortI T = TT := ⟨_, rfl⟩
  rw [hpts] at hP hpq HX
  rw [hqts] at hQ hpq HX
  rw [hSS, hTT] at HX
  clear hpts hqts hSS hTT hfil
  have HP := Lib.hid hP
  have HQ := Lib.hid hQ
  have HPQ := Lib.hid hpq
  have HID := Lib.hid hidS
  have HRF := Lib.hid HRC.out.f
  have R2 := Lib.hid (rgf_of (HX.pick 0 rfl))
  have R1 := Lib.hid (rgf_of (HX.pick 1 rfl))
  have HW9 := Lib.hid HX
  have Y9 := Lib.hid (HX.ext 2 rfl)
  have YA := Lib.hid (XA.out.trans Y9.out)
  clear hP hQ hpq hidS HX
  have HF := At.of w9
  have Hc4 := Lib.hid (fun (w4 : World) (hx4 : Ext w9 w4) => HB4.out w4 (Y9.out.trans hx4) 0 _ rfl)
  go_wp2_with fail
  go_loopw [12] (fun i wr => ∃ m : Nat, m ≤ S.length ∧ i = .int .i64 m ∧ At w9 (Arg w9 :: []) wr) (fun i _ => S.length - (intOf i).toNat)
  case atStart => exact ⟨0, Nat.zero_le _, rfl, HF⟩
  case round =>
    clear HF
    obtain ⟨m, hm, rfl, HF⟩ := hrel
    by_cases hml : m < S.length
    · have gm : (m : Int) < S.length := by omega
      obtain ⟨x, hx⟩ : ∃ x, S[m]? = some x := ⟨_, List.getElem?_eq_getElem hml⟩
      obtain ⟨bs, rfl⟩ := S3.out (by omega)
      have Hx := Lib.hid (fun (w4 : World) (hx4 : Ext w9 w4) => hx4.cell (YA.out.cell (recs_int HS.out hx)))
      have hxid : x ≠ id := by rintro rfl; exact HID.out (List.mem_of_getElem? hx)
      have hcb := count_b HP.out.s HP.out.b HP.out.p x
      have hcq := count_b HQ.out.s HQ.out.b HQ.out.p x
      have hle := count_more hxid HQ.out.s HQ.out.b (by rw [HPQ.out]; exact List.length_pos_iff.1 HP.out.p)
      rw [HPQ.out] at hle
      have hq1 := share_word hcb.1 hcb.2
      have hq2 := share_word hcq.1 hcq.2
      have hro := order_sh (a := (countS qts x).toNat) (b := (countS pts x).toNat) (by omega) (by omega)
      have HSh1 := Lib.hid (fun (w3 : World) (M : List HProp) (hx : Ext w9 w3) (HM : At w9 M w3) => share (R1.out.ext hx) HP.out.b HP.out.l HP.out.p x hq1 HM)
      have HSh2 := Lib.hid (fun (w3 : World) (M : List HProp) (hx : Ext w9 w3) (HM : At w9 M w3) => share (R2.out.ext hx) HQ.out.b HQ.out.l HQ.out.p x hq2 HM)
      have hcmp : ¬ compare (countS qts x).toNat (countS pts x).toNat = .gt := by
        rw [Nat.compare_eq_gt]; omega
      obtain ⟨r, hr⟩ : ∃ r, shB (countS pts x).toNat = r := ⟨_, rfl⟩
      obtain ⟨q, hq⟩ : ∃ q, shB (countS qts x).toNat = q := ⟨_, rfl⟩
      rw [hr] at hro HSh1
      rw [hq] at hro HSh2
      have hne : (FloatKind.f64.format.order q r == some .gt) = false := by
        have e : FloatKind.f64.format.order q r = some (compare (countS qts x).toNat (countS pts x).toNat) := hro
        rw [e, beq_eq_false_iff_ne]
        intro h
        exact hcmp (Option.some.inj h)
      clear hcb hcq hle hr hq hq1 hq2 hx hro hcmp hxid
      go_wp2_with (first | ((with_reducible refine k_load ?_); refine st_load1 rfl _ _ rfl _ rfl rfl (Hc4.out _ (HF.ext 0 rfl)) ?_; (intro K hK; go_simp)))
      apply wp_region_eff [] (fun i => (#[[], [], [], [], [], [], [], [], [], [], [], [], [], [], []] : Array (List Nat)).getD i []) (fun val i => ((_ :: _ :: .slice (some bs) S.length caps :: _ :: _ :: .int .i64 x :: .float .f64 q :: _ :: _ :: .slice (some bs) S.length caps :: _ :: _ :: .int .i64 x :: .float .f64 r :: .bool false :: []) : List Value).toArray.getD i undef) (fun E val => At w9 (Arg w9 :: [])) (by kernel_rfl) (by kernel_rfl) (by kernel_rfl) (by kernel_rfl) (HF)
      case step =>
        iterate 15 (refine ⟨eff_pl rfl (fun _ => by rfl) fun E val hn T ds w K H hk ho hK => ?_, ?_⟩; rotate_left)
        exact trivial
        · have o11 := ho 11 (by kernel_rfl); clear ho; simp [know, dstAt, Region.binds] at hk o11; go_simp; exact hK _ H
        · have o4 := ho 4 (by kernel_rfl); clear ho; simp [know, dstAt, Region.binds] at hk o4; go_simp; exact hK _ H
        · clear ho; simp [know, dstAt, Region.binds] at hk
          (refine op_load1T rfl hk (by kernel_rfl) (Hc4.out _ (H.ext 0 rfl)) ?_; exact hK _ H)
        · have o12 := ho 12 (by kernel_rfl); clear ho; simp [know, dstAt, Region.binds] at hk o12; go_simp; exact hK _ H
        · clear ho; simp [know, dstAt, Region.binds] at hk; go_simp; exact hK _ H
        · clear ho; simp [know, dstAt, Region.binds] at hk
          (refine op_load1T rfl hk (by kernel_rfl) (Hx.out _ (H.ext 0 rfl)) ?_; exact hK _ H)
        · clear ho; simp [know, dstAt, Region.binds] at hk
          (go_simp; refine (HSh2.out _ _ (H.ext 0 rfl) H).mono ?_; rintro e w' ⟨rfl, H⟩; exact hK _ H)
        · have o10 := ho 10 (by kernel_rfl); clear ho; simp [know, dstAt, Region.binds] at hk o10; go_simp; exact hK _ H
        · have o4 := ho 4 (by kernel_rfl); clear ho; simp [know, dstAt, Region.binds] at hk o4; go_simp; exact hK _ H
        · clear ho; simp [know, dstAt, Region.binds] at hk
          (refine op_load1T rfl hk (by kernel_rfl) (Hc4.out _ (H.ext 0 rfl)) ?_; exact hK _ H)
        · have o12 := ho 12 (by kernel_rfl); clear ho; simp [know, dstAt, Region.binds] at hk o12; go_simp; exact hK _ H
        · clear ho; simp [know, dstAt, Region.binds] at hk; go_simp; exact hK _ H
        · clear ho; simp [know, dstAt, Region.binds] at hk
          (refine op_load1T rfl hk (by kernel_rfl) (Hx.out _ (H.ext 0 rfl)) ?_; exact hK _ H)
        · clear ho; simp [know, dstAt, Region.binds] at hk
          (go_simp; refine (HSh1.out _ _ (H.ext 0 rfl) H).mono ?_; rintro e w' ⟨rfl, H⟩; exact hK _ H)
        · clear ho; simp [know, dstAt, Region.binds] at hk; go_simp; exact hK _ H
      case ins =>
        iterate 15 (refine ⟨ins_pl rfl (fun _ _ _ => rfl), ?_⟩)
        exact trivial
      case jns =>
        iterate 15 (refine ⟨j_pl (fun _ _ _ => rfl), ?_⟩)
        exact trivial
      case fin =>
        intro E val w5 hE H
        clear HF hE hne
        have HF := H
        clear H
        simp [putAll, Act.put]
        go_wp2_with fail
        go_roundw
        case rel => exact ⟨m + 1, by omega, rfl, HF⟩
        case measure => simp [intOf]; omega
    · have gm : ¬ (m : Int) < S.length := by omega
      go_wp2_with (first | ((with_reducible refine k_load ?_); refine st_load1 rfl _ _ rfl _ rfl rfl (Hc4.out _ (HF.ext 0 rfl)) ?_; (intro K hK; go_simp)))
      clear gm hml
      go_loopw [13] (fun i wr => ∃ k : Nat, k ≤ ks.length ∧ i = .int .i64 k ∧ At w9 (Arg w9 :: []) wr) (fun i _ => ks.length - (intOf i).toNat)
      case atStart => exact ⟨0, Nat.zero_le _, rfl, HF⟩
      case round =>
        clear HF
        obtain ⟨k, hk, rfl, HF⟩ := hrel
        by_cases hkl : k < ks.length
        · have gk : (k : Int) < ks.length := by omega
          obtain ⟨ky, hkk⟩ : ∃ ky, ks[k]? = some ky := ⟨_, List.getElem?_eq_getElem hkl⟩
          obtain ⟨bk, rfl⟩ := K3.out (by omega)
          have Hd := Lib.hid (fun (w4 : World) (hx : Ext w9 w4) j u hj => hx.cell (YA.out.cell (recs_get HK.out hkk j u hj)))
          have Hs := Lib.hid (show sizeT Try.prog 38 = some ky.cells.length from s38)
          clear hkk
          have HG1 := Lib.hid (fun (w4 : World) (M : List HProp) (hx : Ext w9 w4) (HM : At w9 M w4) => group (R1.out.ext hx) HP.out.s HP.out.l HP.out.p HRF.out HP.out.f ky HM)
          have HG2 := Lib.hid (fun (w4 : World) (M : List HProp) (hx : Ext w9 w4) (HM : At w9 M w4) => group (R2.out.ext hx) HQ.out.s HQ.out.l HQ.out.p HRF.out HQ.out.f ky HM)
          have HL1 := Lib.hid (group_ok (S := pts.map Pt.s) HP.out HRF.out (fun p hp => List.mem_map.2 ⟨p, hp, rfl⟩) ky).l
          have HL2 := Lib.hid (group_ok (S := qts.map Pt.s) HQ.out HRF.out (fun p hp => List.mem_map.2 ⟨p, hp, rfl⟩) ky).l
          have HMo := Lib.hid (group_more (all_nodup qts (hashK (keyH ky) : Nat)) id (2 * cF + 1).toNat (by rw [all_filter, HPQ.out]) (group_all HQ.out.s HQ.out.p _ ky).symm (group_all HP.out.s HP.out.p _ ky).symm rfl)
          dsimp only at HG1 HG2 HL1 HL2
          obtain ⟨q1, hq1⟩ : ∃ q1, groupS pts (2 * cF + 1).toNat ky = q1 := ⟨_, rfl⟩
          obtain ⟨q2, hq2⟩ : ∃ q2, groupS qts (2 * cF + 1).toNat ky = q2 := ⟨_, rfl⟩
          unfold GrPost at HG1 HG2
          rw [hq1] at HG1 HL1 HMo
          rw [hq2] at HG2 HL2 HMo
          clear hq1 hq2
          go_wp2_with ((with_reducible refine k_load (T := 38) ?_); refine st_loadCells rfl _ _ rfl _ rfl a38 ky.cells Hs.out (Hd.out _ (HF.ext 0 rfl)) ?_; (intro K hK; go_simp))
          refine (HG1.out _ _ (HF.ext 0 rfl) HF).mono ?_
          rintro e w13 (⟨hkr, v1, rfl, HX⟩ | ⟨hkr, rfl, HX⟩)
          · clear HF
            have HF := HX
            clear HX
            go_wp2_with ((with_reducible refine k_load (T := 38) ?_); refine st_loadCells rfl _ _ rfl _ rfl a38 ky.cells Hs.out (Hd.out _ (HF.ext 1 rfl)) ?_; (intro K hK; go_simp))
            refine (HG2.out _ _ (HF.ext 1 rfl) HF).mono ?_
            rintro e w14 (⟨_, v2, rfl, HX⟩ | ⟨hkn, _⟩)
            case inr => exact absurd hkr hkn
            clear HF hkr
            have hl1 := HL1.out
            have hl2 := HL2.out
            have hf1 := HRF.out
            (try dsimp only at hf1)
            obtain ⟨b1, p1, rfl, hcp1⟩ := own_addr (by omega) (HX.pick 1 rfl)
            obtain ⟨b2, p2, rfl, _⟩ := own_addr (by omega) (HX.pick 0 rfl)
            have N1 := Lib.hid (oi_recs (HX.pick 1 rfl))
            have N2 := Lib.hid (oi_recs (HX.pick 0 rfl))
            have HW14 := Lib.hid HX
            clear HX
            have HF := At.of w14
            have hl18 : q1.length ≤ 7 := by omega
            have hl28 : q2.length ≤ 7 := by omega
            clear hl1 hl2 hf1
            go_wp2_with fail
            replace HF := oi_nil HF
            go_loopw [18, 19] (fun a i wr => ∃ (k : Nat) (X : List Int) (b3 : Option Addr) (m3 p3 : Nat), k ≤ q2.length ∧ i = .int .i64 k ∧ a = .slice b3 m3 p3 ∧ X.length ≤ k ∧ Hid (X = (q2.take k).filter fun s => decide (s ≠ id)) ∧ At w14 (OI (.slice b3 m3 p3) X :: Arg w14 :: []) wr) (fun _ i _ => q2.length - (intOf i).toNat)
            case atStart => exact ⟨0, [], _, _, _, Nat.zero_le _, rfl, rfl, Nat.le_refl _, Lib.hid (by simp), HF⟩
            case round =>
              clear HF
              obtain ⟨a, X, b3, m3, p3, ha, rfl, rfl, hX, HI, HF⟩ := hrel
              by_cases hal : a < q2.length
              · have ga : (a : Int) < q2.length := by omega
                obtain ⟨x, hx⟩ : ∃ x, q2[a]? = some x := ⟨_, List.getElem?_eq_getElem hal⟩
                have Hx := Lib.hid (fun (w4 : World) (hx4 : Ext w14 w4) => hx4.cell (show w14.cell? ⟨b2, a, none⟩ = some (.int .i64 x) from by
                  have := recs_int N2.out hx
                  rwa [Addr.add_lit, Nat.zero_add] at this))
                have HT := Lib.hid (show q2.take (a + 1) = q2.take a ++ [x] by rw [List.take_add_one, hx, Option.toList_some])
                clear hx
                by_cases he : x = id
                · have HI2 := Lib.hid (show X = (q2.take (a + 1)).filter fun s => decide (s ≠ id) by rw [HT.out, List.filter_append, ← HI.out, List.filter_cons_of_neg (by simpa using he)]; simp)
                  have heb : (x == id) = true := by rw [beq_iff_eq]; exact he
                  clear he
                  go_wp2_with (first | ((with_reducible refine k_load ?_); refine st_load1 rfl _ _ rfl _ rfl rfl (Hx.out _ (HF.ext 1 rfl)) ?_; (intro K hK; go_simp)))
                  go_roundw
                  case rel => exact ⟨a + 1, X, b3, m3, p3, by omega, rfl, rfl, by omega, Lib.hid HI2.out, HF⟩
                  case measure => simp [intOf]; omega
                · have HI2 := Lib.hid (show X ++ [x] = (q2.take (a + 1)).filter fun s => decide (s ≠ id) by rw [HT.out, List.filter_append, ← HI.out, List.filter_cons_of_pos (by simpa using he)]; rfl)
                  have heb : (x == id) = false := by rw [beq_eq_false_iff_ne]; exact he
                  have hX1 : (X ++ [x]).length = X.length + 1 := by simp
                  clear he
                  go_wp2_with (first | ((with_reducible refine k_load ?_); refine st_load1 rfl _ _ rfl _ rfl rfl (Hx.out _ (HF.ext 1 rfl)) ?_; (intro K hK; go_simp))                      | ((with_reducible refine k_builtin ?_); refine st_append rfl _ _ _ rfl 3 Try.underlying27 1 st3 8 bt3 _ zt3 rfl (.slice b3 m3 p3) X.length (iCs X) rfl ((HF.alloc _).sel 3 [1, 0, 2]) (some ⟨_, 0, none⟩) 1 1 [.int .i64 x] rfl rfl (fun _ => ⟨_, rfl, cells_of ((HF.alloc _).get 0 rfl)⟩) (by simp [Value.oneCell']) ?_ ?_ ?_; ((try simp only [maxLen]); omega); (omega); (clear HF; intro v7 w HF K hK; obtain ⟨s4, t4, u4, rfl⟩ := own_form HF; replace HF := oi_snoc (HF.sel 3 [0, 2]); go_simp)))
                  go_roundw
                  case rel => exact ⟨a + 1, X ++ [x], s4, t4, u4, by omega, rfl, rfl, by omega, Lib.hid HI2.out, HF⟩
                  case measure => simp [intOf]; omega
              · have ga : ¬ (a : Int) < q2.length := by omega
                have hXe : X = q2.filter fun s => decide (s ≠ id) := by rw [HI.out, List.take_of_length_le (by omega)]
                have hmo := HMo.out
                rw [← hXe] at hmo
                obtain ⟨o1, o2, o3⟩ := hmo
                have HO3 := Lib.hid o3
                obtain ⟨ad2, cap2, hv2, d1, d2, d3⟩ := (oi_recs HF).value
                rw [List.length_map] at hv2 d1 d3
                cases hv2
                obtain ⟨g1, hw1, g2, g3, g3i⟩ := more_facts o1 o2 hcp1 hl18
                have N1T := Lib.hid (fun (w4 : World) (hx : Ext w14 w4) => (show RecsAt w4 (.slice (some ⟨b1, 0, none⟩) X.length p1) 1 (X.map iC) from by
                  have := (recs_take N1.out o1).ext hx
                  rwa [← HO3.out] at this))
                clear hXe o1 o2 o3 d1 d2 d3 hX hcp1 hl18 hl28 ha hal HI
                go_wp2_with fail
                refine (sameInts (oi_recs HF) (N1T.out _ (HF.ext 1 rfl)) HF).mono ?_
                rintro e w16 ⟨rfl, HX⟩
                clear HF
                have HF := HX.drop
                clear HX
                go_wp2_with fail
                go_roundw
                case rel => exact ⟨k + 1, by omega, rfl, (HF.lift0 HW14.out).sel 3 [2]⟩
                case measure => simp [intOf]; omega
          · clear HF
            have HF := HX
            clear HX
            go_wp2_with ((with_reducible refine k_load (T := 38) ?_); refine st_loadCells rfl _ _ rfl _ rfl a38 ky.cells Hs.out (Hd.out _ (HF.ext 0 rfl)) ?_; (intro K hK; go_simp))
            refine (HG2.out _ _ (HF.ext 0 rfl) HF).mono ?_
            rintro e w14 (⟨hkn, _⟩ | ⟨_, rfl, HX⟩)
            case inl => exact absurd hkn hkr
            clear HF
            have HF := HX
            clear HX
            go_wp2_with fail
            go_loopw [18, 19] (fun a i wr => i = .int .i64 (0 : Nat) ∧ a = .slice none 0 0 ∧ At w9 (Arg w9 :: []) wr) (fun _ i _ => 0)
            case atStart => exact ⟨rfl, rfl, HF⟩
            case round =>
              clear HF
              obtain ⟨rfl, rfl, HF⟩ := hrel
              go_wp2_with fail
              refine (sameInts nil_ints nil_ints HF).mono ?_
              rintro e w16 ⟨rfl, HX⟩
              clear HF
              have HF := HX
              clear HX
              go_wp2_with fail
              go_roundw
              case rel => exact ⟨k + 1, by omega, rfl, HF⟩
              case measure => simp [intOf]; omega
        · have gk : ¬ (k : Int) < ks.length := by omega
          go_wp2_with fail
          go_ret
          exact ⟨rfl, HEND.out _ ((HF.lift0 HW9.out).sel 3 [2])⟩
end

theorem own : ownKnob Try.prog.godebug = none := by kernel_rfl

theorem lifted (os : Os) (started : os.Started) (H : Type) (enc : TypeId × Value → H) :
    ReturnsInHanded {} Try.checked os 6 .any (Rows.ringMoreSpec.pre6 enc Try.prog Try.f6 Rows.ringMoreRow.domain false) (Rows.ringMoreSpec.post enc Try.prog Try.f6 false true false false) := by
  refine frame_true (C := Try.checked) started own (by kernel_rfl) Try.func6
    (ChangeSpec.witness6 (enc := enc) (C := Try.checked) false ⟨#[], #[.agg #[.slice none 0 0, .int .i64 0, .int .i64 0, .int .i64 0, .int .i64 0, .int .i64 0], .int .i64 0, .int .i64 0, .slice none 0 0], []⟩ 8 (by kernel_rfl) (by kernel_rfl) (by kernel_rfl) (by kernel_rfl)) rfl ?_ (by kernel_rfl) (by kernel_rfl) (by kernel_rfl) Try.underlying4 ?_
  · intro ds hds
    match ds, hds with
    | [_, _, _, _], _ => rfl
  · rintro W args ds p ⟨base, hval⟩ hA hwt
    have hp : Try.f6.params.toList = [29, 3, 3, 33] := by rw [Try.params6]
    rw [hp] at hA hwt
    obtain ⟨v0, r0, d0, e0, p0, q0, ha, rfl, rfl, h0, hA⟩ := trodAll_cons hA
    obtain ⟨v1, r1, d1, e1, p1, q1, rfl, rfl, rfl, h1, hA⟩ := trodAll_cons hA
    obtain ⟨v2, r2, d2, e2, p2, q2, rfl, rfl, rfl, h2, hA⟩ := trodAll_cons hA
    obtain ⟨v3, r3, d3, e3, p3, q3, rfl, rfl, rfl, h3, hA⟩ := trodAll_cons hA
    obtain ⟨rfl, rfl, rfl⟩ := trodAll_nil hA
    have ha2 : args = #[v0, v1, v2, v3] := by cases args; simp_all
    subst ha2
    simp only [DataW.weightsEach, List.all_append, Bool.and_eq_true] at hwt
    obtain ⟨a0, b0⟩ := Lw.arg_Config (hval 0 _ _ (by rw [Try.params6]; rfl) rfl) h0 hwt.1
    obtain ⟨a1, b1⟩ := Lw.arg_int (hval 1 _ _ (by rw [Try.params6]; rfl) rfl) h1 hwt.2.1
    obtain ⟨a2, b2⟩ := Lw.arg_int (hval 2 _ _ (by rw [Try.params6]; rfl) rfl) h2 hwt.2.2.1
    obtain ⟨a3, b3⟩ := Lw.arg_keys (hval 3 _ _ (by rw [Try.params6]; rfl) rfl) h3 hwt.2.2.2.1
    exact walk b0 b1 b2 b3

theorem over : Rows.ringMoreRow.holds Try.pinned (OpenSpec.ofChange Rows.ringMoreSpec) :=
  OpenClaim.holds_of_wide 6 Try.f6 rfl rfl rfl rfl rfl rfl rfl ⟨rfl, rfl, rfl, rfl, rfl⟩ rfl rfl rfl rfl rfl (by kernel_rfl) Try.func6 (by kernel_rfl)
    (of_decide_eq_true (by kernel_rfl)) (by unfold Func.isWrapper; first | (rw [if_pos (by decide +kernel)]; kernel_rfl) | (rw [if_neg (by decide +kernel)]; exact ⟨rfl, rfl⟩))
    (fun os started H enc _ => lifted os started H enc)

theorem proved : Rows.RingMoreSaid := over
#print axioms proved
end ringMore
end Go.Proofs.Ytohfboolicheeaa
