/-
  For any configuration, keys and number the law RingOwn answers true: what is answered is new memory, what was handed in is not kept, a sequence may be left and ranged over within itself.
-/
import Derived.Test.YtohfboolicheeaaRgArgs
import Derived.Test.YtohfboolicheeaaRgOwn
import Derived.Test.YtohfboolicheeaaRgAgain
import Derived.Test.YtohfboolicheeaaRgCfg
import Derived.ProofKit
namespace Go.Proofs.Ytohfboolicheeaa
open Go.Hp Go.RowKit Go.ChangeShapes Go.WideShapes
set_option linter.unusedVariables false
set_option linter.unusedSimpArgs false
set_option maxRecDepth 100000
namespace ringOwn
open Rg
namespace Lw
abbrev arg_Config := @Rg.arg_Config
abbrev arg_keys := @Rg.arg_keys
abbrev arg_int := @Rg.arg_int
end Lw
set_option maxRecDepth 100000 in
theorem run_field0 (w : World) (a : Option Addr) (n c : Nat) (f p b k r : Int) : (Instr.field 29 (.agg #[.slice a n c, .int .i64 f, .int .i64 p, .int .i64 b, .int .i64 k, .int .i64 r]) 0).run Try.prog w = .ok (.slice a n c) w := by kernel_rfl
attribute [local go_sem] run_field0
section
variable {W : World}

set_option maxHeartbeats 4000000 in
theorem walk {va vk vs0 : Value} {x : Cg} (ha : CfArg W va x) {ks : List Ky} (hk : KysArg W vk ks) {stop0 : Int} (hst : IntArg vs0 stop0) :
    Calls Try.prog 12 #[va, vk, vs0] W fun e w => e = .returned (.bool true) ∧ Below W.heap.size W w := by
  obtain ⟨rfl, hs, hn, _⟩ := ha
  obtain ⟨rfl, _⟩ := hst
  obtain ⟨c, S, vs⟩ := x
  obtain ⟨hk1, _⟩ := hk
  dsimp only at *
  have HF := At.of W
  obtain ⟨adk, capk, rfl, k1, k2, k3⟩ := hk1.value
  rw [List.length_map] at k1 k3 hk1
  have hk63 : ks.length ≤ 9223372036854775807 := by simp only [maxLen] at k2; omega
  have HK := Lib.hid hk1
  have K3 := Lib.hid k3
  obtain ⟨ads, caps, rfl, s1, s2, s3⟩ := hs.value
  rw [List.length_map] at hs s1 s3
  rw [List.length_map, List.length_map]
  have HS := Lib.hid hs
  have HN := Lib.hid hn
  have HIs := Lib.hid (fun (w2 : World) (M : List HProp) (w0 : World) (v2 : Value) (h2 : RecsAt w2 v2 1 (S.map iC)) (HM : At w0 M w2) => isC (c := c) h2 HM)
  have HLd := Lib.hid (fun (w2 : World) (M : List HProp) (w0 : World) (v2 : Value) (h2 : RecsAt w2 v2 1 (S.map iC)) (HM : At w0 M w2) => lend (c := c) h2 hn HM)
  have HNw := Lib.hid (fun (w2 : World) (M : List HProp) (w0 : World) (U : List Int) (v2 : Value) (h2 : RecsAt w2 v2 1 (U.map iC)) (HM : At w0 M w2) => new (c := c) h2 HM)
  unfold NewPost at HNw
  obtain ⟨cF, cP, cB, cK, cR⟩ := c
  dsimp only at HIs HLd HNw
  clear hk1 k1 k2 k3 hs s1 s2 s3 hn
  simp only [Cg.cells]
  go_enter Try.func12, Try.ntmps12
  go_wp2_with (first | ((with_reducible refine k_box ?_); refine st_box rfl _ _ rfl _ rfl HF ?_; (clear HF; intro g3 w HF K hK; simp only [Value.cells, Act.eval, Value.cells, Array.getD_eq_getD_getElem?, List.getElem?_toArray, List.getElem?_cons_succ, List.getElem?_cons_zero, Option.getD_some] at HF; go_simp)))
  refine (known HF).mono ?_
  rintro e w1 ⟨rfl, HX⟩
  clear HF
  have HF := HX
  clear HX
  go_wp2_with (first | ((with_reducible refine k_load (T := 29) ?_); refine st_row rfl _ _ rfl _ rfl a29 6 s29 HF 0 rfl rfl ?_; (intro K hK; go_simp)) | ((with_reducible refine k_load (T := 29) ?_); refine st_loads rfl _ _ rfl _ _ rfl a29 6 s29 HF 0 rfl ?_ ?_; (simp); (intro K hK; go_simp)))
  refine (HIs.out _ _ _ _ (HS.out.ext (HF.ext 1 rfl)) HF).mono ?_
  rintro e w2 ⟨b, rfl, hb, HX⟩
  clear HF HIs
  have HF := HX
  clear HX
  have HB := Lib.hid hb
  clear hb
  cases b with
  | false =>
    go_wp2_with fail
    go_ret
    exact ⟨rfl, HF.below 1 rfl⟩
  | true =>
  have HRC := Lib.hid (HB.out.1 (by first | rfl | trivial))
  clear HB
  go_wp2_with (first | ((with_reducible refine k_load (T := 29) ?_); refine st_row rfl _ _ rfl _ rfl a29 6 s29 HF 0 rfl rfl ?_; (intro K hK; go_simp)) | ((with_reducible refine k_load (T := 29) ?_); refine st_loads rfl _ _ rfl _ _ rfl a29 6 s29 HF 0 rfl ?_ ?_; (simp); (intro K hK; go_simp)))
  refine (HLd.out _ _ _ _ (HS.out.ext (HF.ext 1 rfl)) HF).mono ?_
  rintro e w3 ⟨gl, rfl, HX⟩
  clear HF HLd
  have HF := HX
  clear HX
  go_wp2_with (first | ((with_reducible refine k_alloc (T := 29) ?_); refine st_alloc rfl _ rfl _ z29 _ rfl HF ?_; (clear HF; intro g7 w HF K hK; simp only [Value.cells] at HF; go_simp)) | ((with_reducible refine k_store (T := 29) ?_); refine st_put rfl _ _ _ rfl _ rfl _ rfl ?_ s29 HF 0 rfl rfl ?_; (simp [Value.oneCell']); (clear HF; intro w HF K hK; simp only [List.set_cons_zero, List.set_cons_succ, Act.eval, Value.cells, Array.getD_eq_getD_getElem?, List.getElem?_toArray, List.getElem?_cons_succ, List.getElem?_cons_zero, Option.getD_some] at HF; go_simp)) | ((with_reducible refine k_load (T := 29) ?_); refine st_row rfl _ _ rfl _ rfl a29 6 s29 HF 0 rfl rfl ?_; (intro K hK; go_simp)) | ((with_reducible refine k_load (T := 29) ?_); refine st_loads rfl _ _ rfl _ _ rfl a29 6 s29 HF 0 rfl ?_ ?_; (simp); (intro K hK; go_simp)))
  refine (HNw.out _ _ _ S _ (lent_recs HN.out (HF.pick 1 rfl)) HF).mono ?_
  rintro e w4 (⟨gr, rfl, _, HX⟩ | ⟨rfl, hRC, _⟩)
  case inr => exact absurd HRC.out hRC
  clear HF
  have hP := pts_ok HRC.out
  have hSl : (sortI S).length ≤ 64 := by rw [(sortI_perm S).length_eq]; have := HRC.out.n; omega
  (try dsimp only at hP)
  obtain ⟨pts, hpts⟩ : ∃ pts, sortP (ptsOf (sortI S) cP.toNat) = pts := ⟨_, rfl⟩
  obtain ⟨SS, hSS⟩ : ∃ SS, sortI S = SS := ⟨_, rfl⟩
  rw [hpts] at hP HX
  rw [hSS] at HX hSl
  clear hpts hSS
  have HP := Lib.hid hP
  have HSl := Lib.hid hSl
  have HRF := Lib.hid HRC.out.f
  clear hP hSl
  have HF := HX
  clear HX
  go_wp2_with fail
  refine (cfg (rgf_of HF) (by have := HSl.out; omega) HF).mono ?_
  rintro e w5 ⟨r1, rfl, HX⟩
  clear HF
  obtain ⟨a1, n1, m1, hv1, _, HF⟩ := cfg_open HX
  obtain ⟨b1, d1, e1⟩ := own_any HF
  cases e1
  subst hv1
  clear HX
  simp only [cfV]
  have Li := Lib.hid (iCs_len SS)
  have Oi := Lib.hid (iCs_one SS)
  go_wp2_with (first | ((with_reducible refine k_alloc (T := 29) ?_); refine st_alloc rfl _ rfl _ z29 _ rfl HF ?_; (clear HF; intro g10 w HF K hK; simp only [Value.cells] at HF; go_simp)) | ((with_reducible refine k_store (T := 29) ?_); refine st_put rfl _ _ _ rfl _ rfl _ rfl ?_ s29 HF 0 rfl rfl ?_; (simp [Value.oneCell']); (clear HF; intro w HF K hK; simp only [List.set_cons_zero, List.set_cons_succ, Act.eval, Value.cells, Array.getD_eq_getD_getElem?, List.getElem?_toArray, List.getElem?_cons_succ, List.getElem?_cons_zero, Option.getD_some] at HF; go_simp)) | ((with_reducible refine k_load ?_); refine st_load rfl _ _ rfl _ _ rfl ?_ HF 1 rfl rfl ?_; (kernel_rfl); (intro K hK; go_simp)) | ((with_reducible refine k_store ?_); refine st_store rfl _ _ _ rfl _ _ rfl _ rfl rfl ?_ HF 1 rfl ?_ ?_; (kernel_rfl); (simp); (clear HF; intro w HF K hK; simp only [List.set_cons_zero, List.set_cons_succ, List.setIfInBounds_toArray, Act.eval, Value.cells, Array.getD_eq_getD_getElem?, List.getElem?_toArray, List.getElem?_cons_succ, List.getElem?_cons_zero, Option.getD_some] at HF; go_simp))      | ((with_reducible refine k_lit ?_); refine st_lit rfl _ _ _ rfl #[] 3 0 HF ?_ ?_; (go_simp); (clear HF; intro g1 w1 HF K hK; replace HF := own_mk (n := 0) (xs := []) (size := 1) HF (Nat.le_refl _) (Nat.zero_le _) (by simp) (by simp) (by simp); go_simp))      | ((with_reducible refine k_builtin ?_); refine st_append rfl _ _ _ rfl 3 Try.underlying27 1 st3 8 bt3 _ zt3 rfl (.slice (some ⟨g1, 0, none⟩) 0 0) 0 [] rfl HF a1 SS.length m1 (iCs SS) rfl Li.out (own_src (HF.pick 2 rfl)) Oi.out ?_ ?_ ?_; (have := HSl.out; simp only [maxLen]; omega); (have := HSl.out; omega); (clear HF; intro v7 w HF K hK; replace HF := oi_app0 HF; obtain ⟨s4, t4, rfl⟩ := own_any HF; go_simp)))
  have HX : At W (OI (.slice s4 SS.length t4) SS :: Blk g10 (.cells #[.slice s4 SS.length t4, .int .i64 cF, .int .i64 cP, .int .i64 cB, .int .i64 cK, .int .i64 cR] 29 (0, 0)) :: OI (.slice a1 SS.length m1) SS :: RgR 84 87 gr ⟨cF, cP, cB, cK, cR⟩ SS pts :: Blk g7 (.cells #[.slice (blkA gl) S.length (S.length + 1), .int .i64 cF, .int .i64 cP, .int .i64 cB, .int .i64 cK, .int .i64 cR] 29 (0, 0)) :: Blk gl (.cells (iCs S ++ [Value.int .i64 (-77)]).toArray 3 (0, 0)) :: Blk g3 (.cells #[.slice ads S.length caps, .int .i64 cF, .int .i64 cP, .int .i64 cB, .int .i64 cK, .int .i64 cR] 29 (0, 0)) :: Arg W :: []) _ := HF
  clear HF
  have HF0 := own_nil (own_nil (HX.sel 8 [3, 1, 0, 5, 4, 7]) 27 1) 27 1
  clear HX
  have HX0 : At W (OwnRow 27 1 (.slice none 0 0) 0 (slC (fun _ => undef) 0) :: OwnRow 27 1 (.slice none 0 0) 0 (slC (fun _ => undef) 0) :: RgR 84 87 gr ⟨cF, cP, cB, cK, cR⟩ SS pts :: Blk g10 (.cells #[.slice s4 SS.length t4, .int .i64 cF, .int .i64 cP, .int .i64 cB, .int .i64 cK, .int .i64 cR] 29 (0, 0)) :: OI (.slice s4 SS.length t4) SS :: Blk gl (.cells (iCs S ++ [Value.int .i64 (-77)]).toArray 3 (0, 0)) :: Blk g7 (.cells #[.slice (blkA gl) S.length (S.length + 1), .int .i64 cF, .int .i64 cP, .int .i64 cB, .int .i64 cK, .int .i64 cR] 29 (0, 0)) :: Arg W :: (Its (fun i => OI undef []) 0 ++ (Its (fun i => OI undef []) 0 ++ []))) _ := HF0
  clear HF0
  have HF := HX0
  clear HX0
  go_loopw [11, 12, 13] (fun a b i wr => ∃ (k N2 : Nat) (gs vs : Nat → Value) (G ls : Nat → List Int) (ga la : Option Addr) (gc lc : Nat), k ≤ 200 ∧ k ≤ ks.length ∧ Hid (N2 = 2 * k) ∧ a = .slice ga k gc ∧ b = .slice la N2 lc ∧ i = .int .i64 k ∧ Hid (∀ j, j < k → ∀ ky, ks[j]? = some ky → GrRel pts ⟨cF, cP, cB, cK, cR⟩ ky (G j)) ∧ Hid (∀ j, j < N2 → (ls j).length ≤ 100) ∧ At W (OwnRow 27 1 (.slice ga k gc) k (slC gs k) :: OwnRow 27 1 (.slice la N2 lc) N2 (slC vs N2) :: RgR 84 87 gr ⟨cF, cP, cB, cK, cR⟩ SS pts :: Blk g10 (.cells #[.slice s4 SS.length t4, .int .i64 cF, .int .i64 cP, .int .i64 cB, .int .i64 cK, .int .i64 cR] 29 (0, 0)) :: OI (.slice s4 SS.length t4) SS :: Blk gl (.cells (iCs S ++ [Value.int .i64 (-77)]).toArray 3 (0, 0)) :: Blk g7 (.cells #[.slice (blkA gl) S.length (S.length + 1), .int .i64 cF, .int .i64 cP, .int .i64 cB, .int .i64 cK, .int .i64 cR] 29 (0, 0)) :: Arg W :: (Its (fun i => OI (vs i) (ls i)) N2 ++ (Its (fun i => OI (gs i) (G i)) k ++ []))) wr) (fun _ _ i _ => 200 - (intOf i).toNat)
  case atStart => exact ⟨0, 0, fun _ => undef, fun _ => undef, fun _ => [], fun _ => [], none, none, 0, 0, Nat.zero_le _, Nat.zero_le _, Lib.hid rfl, rfl, rfl, rfl, Lib.hid (fun j hj => absurd hj (Nat.not_lt_zero _)), Lib.hid (fun j hj => absurd hj (Nat.not_lt_zero _)), HF⟩
  case round =>
    clear HF
    obtain ⟨k, N2, gs, vs, G, ls, ga, la, gc, lc, hk200, hkl, HN2, rfl, rfl, rfl, HG, HLs, HF⟩ := hrel
    by_cases hlt : k < ks.length ∧ k < 200
    · obtain ⟨hlt1, hlt2⟩ := hlt
      have gk1 : (k : Int) < ks.length := by omega
      have gk2 : (k : Int) < 200 := by omega
      obtain ⟨ky, hkk⟩ : ∃ ky, ks[k]? = some ky := ⟨_, List.getElem?_eq_getElem hlt1⟩
      obtain ⟨bk, rfl⟩ := K3.out (by omega)
      have Hd := Lib.hid (fun (w4 : World) (hx : Ext W w4) j u hj => hx.cell (recs_get HK.out hkk j u hj))
      have Hs := Lib.hid (show sizeT Try.prog 38 = some ky.cells.length from s38)
      have HKK := Lib.hid hkk
      clear hkk
      go_wp2_with ((with_reducible refine k_load (T := 38) ?_); refine st_loadCells rfl _ _ rfl _ rfl a38 ky.cells Hs.out (Hd.out _ (HF.ext 7 rfl)) ?_; (intro K hK; go_simp))
      refine (groupU (rgf_of (HF.pick 2 rfl)) HP.out HRF.out ky HF).mono ?_
      rintro e w6 ⟨p1, q1, c1, g1, rfl, hr1, hl1, HX⟩
      clear HF
      have HF := HX
      clear HX
      go_wp2_with ((with_reducible refine k_load (T := 38) ?_); refine st_loadCells rfl _ _ rfl _ rfl a38 ky.cells Hs.out (Hd.out _ (HF.ext 8 rfl)) ?_; (intro K hK; go_simp))
      refine (groupU (rgf_of (HF.pick 3 rfl)) HP.out HRF.out ky HF).mono ?_
      rintro e w7 ⟨p2, q2, c2, g2, rfl, hr2, hl2, HX⟩
      clear HF
      have HF := HX
      clear HX
      have HR1 := Lib.hid hr1
      have HL1 := Lib.hid hl1
      have HL2 := Lib.hid hl2
      clear hr1 hr2 hl1 hl2
      have L1 := Lib.hid (iCs_len g1)
      have O1 := Lib.hid (iCs_one g1)
      have tk1 : True := trivial
      have tk2 : True := trivial
      have tk3 : True := trivial
      go_wp2_with (first | ((with_reducible refine k_lit ?_); (have _t := tk1); refine st_lit rfl _ _ _ rfl #[] 3 0 HF ?_ ?_; (go_simp); (clear HF tk1 _t; intro gx w1 HF K hK; replace HF := own_mk (n := 0) (xs := []) (size := 1) HF (Nat.le_refl _) (Nat.zero_le _) (by simp) (by simp) (by simp); go_simp))          | ((with_reducible refine k_builtin ?_); refine st_append rfl _ _ _ rfl 3 Try.underlying27 1 st3 8 bt3 _ zt3 rfl (.slice (some ⟨gx, 0, none⟩) 0 0) 0 [] rfl HF p1 g1.length q1 (iCs g1) rfl L1.out (own_src (HF.pick 2 rfl)) O1.out ?_ ?_ ?_; (have := HL1.out; simp only [maxLen]; omega); (have := HL1.out; omega); (clear HF; intro v7 w HF K hK; replace HF := oi_app0 HF; obtain ⟨s5, t5, rfl⟩ := own_any HF; go_simp))          | ((with_reducible refine k_lit ?_); (have _t := tk2); refine st_lit rfl _ _ _ rfl #[.slice s5 g1.length t5] 27 1 HF ?_ ?_; (go_simp); (clear HF tk2 _t; intro gy w1 HF K hK; go_simp))          | ((with_reducible refine k_builtin ?_); refine st_append rfl _ _ _ rfl 27 Try.underlying74 1 stg27 24 btg27 _ ztg27 rfl (.slice ga k gc) k (slC gs k) rfl (HF.sel 5 [4, 0, 1, 2, 3]) (some ⟨gy, 0, none⟩) 1 1 [.slice s5 g1.length t5] rfl rfl (fun _ => ⟨_, rfl, cells_of (HF.get 0 rfl)⟩) (by simp [Value.oneCell']) ?_ ?_ ?_; (simp only [maxLen]; omega); (omega); (clear HF; intro v8 w HF K hK; obtain ⟨s6, t6, rfl, _⟩ := own_value HF; go_simp))          | ((with_reducible refine k_lit ?_); (have _t := tk3); refine st_lit rfl _ _ _ rfl #[.slice p1 g1.length q1, .slice p2 g2.length q2] 27 2 HF ?_ ?_; (go_simp); (clear HF tk3 _t; intro gz w1 HF K hK; go_simp))          | ((with_reducible refine k_builtin ?_); refine st_append rfl _ _ _ rfl 27 Try.underlying74 1 stg27 24 btg27 _ ztg27 rfl (.slice la N2 lc) N2 (slC vs N2) rfl (HF.sel 7 [6, 0, 1, 2, 3, 4, 5]) (some ⟨gz, 0, none⟩) 2 2 [.slice p1 g1.length q1, .slice p2 g2.length q2] rfl rfl (fun _ => ⟨_, rfl, cells_of (HF.get 0 rfl)⟩) (by simp [Value.oneCell']) ?_ ?_ ?_; (have := HN2.out; simp only [maxLen]; omega); (have := HN2.out; omega); (clear HF; intro v9 w HF K hK; obtain ⟨s7, t7, rfl, _⟩ := own_value HF; go_simp)))
      have HA0 := own_row2 HF
      have HA1 := own_row1 (HA0.sel 3 [2, 0, 1])
      have HA2 := its_ext (vs := vs) (ls := ls) [OI (.slice p2 g2.length q2) g2, OI (.slice s5 g1.length t5) g1, OwnRow 27 1 (.slice s6 (k + 1) t6) (k + 1) (slC (updF gs k (.slice s5 g1.length t5)) (k + 1)), OwnRow 27 1 (.slice s7 (N2 + 2) t7) (N2 + 2) (slC (updF (updF vs N2 (.slice p1 g1.length q1)) (N2 + 1) (.slice p2 g2.length q2)) (N2 + 2)), RgR 84 87 gr ⟨cF, cP, cB, cK, cR⟩ SS pts, Blk g10 (.cells #[.slice s4 SS.length t4, .int .i64 cF, .int .i64 cP, .int .i64 cB, .int .i64 cK, .int .i64 cR] 29 (0, 0)), OI (.slice s4 SS.length t4) SS, Blk gl (.cells (iCs S ++ [Value.int .i64 (-77)]).toArray 3 (0, 0)), Blk g7 (.cells #[.slice (blkA gl) S.length (S.length + 1), .int .i64 cF, .int .i64 cP, .int .i64 cB, .int .i64 cK, .int .i64 cR] 29 (0, 0)), Arg W] (HA1.sel 13 [6, 5, 4, 0, 1, 7, 8, 9, 10, 11, 12])
      have HA3 := its_ext (vs := updF vs N2 (.slice p1 g1.length q1)) (ls := updF ls N2 g1) [OI (.slice s5 g1.length t5) g1, OwnRow 27 1 (.slice s6 (k + 1) t6) (k + 1) (slC (updF gs k (.slice s5 g1.length t5)) (k + 1)), OwnRow 27 1 (.slice s7 (N2 + 2) t7) (N2 + 2) (slC (updF (updF vs N2 (.slice p1 g1.length q1)) (N2 + 1) (.slice p2 g2.length q2)) (N2 + 2)), RgR 84 87 gr ⟨cF, cP, cB, cK, cR⟩ SS pts, Blk g10 (.cells #[.slice s4 SS.length t4, .int .i64 cF, .int .i64 cP, .int .i64 cB, .int .i64 cK, .int .i64 cR] 29 (0, 0)), OI (.slice s4 SS.length t4) SS, Blk gl (.cells (iCs S ++ [Value.int .i64 (-77)]).toArray 3 (0, 0)), Blk g7 (.cells #[.slice (blkA gl) S.length (S.length + 1), .int .i64 cF, .int .i64 cP, .int .i64 cB, .int .i64 cK, .int .i64 cR] 29 (0, 0)), Arg W] HA2
      have HA4 := its_ext (vs := gs) (ls := G) ([OwnRow 27 1 (.slice s6 (k + 1) t6) (k + 1) (slC (updF gs k (.slice s5 g1.length t5)) (k + 1)), OwnRow 27 1 (.slice s7 (N2 + 2) t7) (N2 + 2) (slC (updF (updF vs N2 (.slice p1 g1.length q1)) (N2 + 1) (.slice p2 g2.length q2)) (N2 + 2)), RgR 84 87 gr ⟨cF, cP, cB, cK, cR⟩ SS pts, Blk g10 (.cells #[.slice s4 SS.length t4, .int .i64 cF, .int .i64 cP, .int .i64 cB, .int .i64 cK, .int .i64 cR] 29 (0, 0)), OI (.slice s4 SS.length t4) SS, Blk gl (.cells (iCs S ++ [Value.int .i64 (-77)]).toArray 3 (0, 0)), Blk g7 (.cells #[.slice (blkA gl) S.length (S.length + 1), .int .i64 cF, .int .i64 cP, .int .i64 cB, .int .i64 cK, .int .i64 cR] 29 (0, 0)), Arg W] ++ Its (fun i => OI (updF (updF vs N2 (.slice p1 g1.length q1)) (N2 + 1) (.slice p2 g2.length q2) i) (updF (updF ls N2 g1) (N2 + 1) g2 i)) (N2 + 2)) (by rw [List.append_assoc]; exact HA3)
      rw [List.append_assoc] at HA4
      have HG2 := Lib.hid (show ∀ j, j < k + 1 → ∀ ky, ks[j]? = some ky → GrRel pts ⟨cF, cP, cB, cK, cR⟩ ky (updF G k g1 j) from fun j hj ky2 hky => by
        by_cases e : j = k
        · subst e
          rw [updF_at]
          rw [HKK.out] at hky
          cases hky
          exact HR1.out
        · rw [updF_ne _ _ e]
          exact HG.out j (by omega) ky2 hky)
      have HL2' := Lib.hid (show ∀ j, j < N2 + 2 → (updF (updF ls N2 g1) (N2 + 1) g2 j).length ≤ 100 from fun j hj => by
        by_cases e : j = N2 + 1
        · subst e
          rw [updF_at]
          have := HL2.out
          omega
        · rw [updF_ne _ _ e]
          by_cases e2 : j = N2
          · subst e2
            rw [updF_at]
            have := HL1.out
            omega
          · rw [updF_ne _ _ e2]
            exact HLs.out j (by omega))
      go_roundw
      case rel => exact ⟨k + 1, N2 + 2, updF gs k (.slice s5 g1.length t5), updF (updF vs N2 (.slice p1 g1.length q1)) (N2 + 1) (.slice p2 g2.length q2), updF G k g1, updF (updF ls N2 g1) (N2 + 1) g2, s6, s7, t6, t7, by omega, by omega, Lib.hid (by rw [HN2.out]; omega), rfl, rfl, rfl, Lib.hid HG2.out, Lib.hid HL2'.out, HA4⟩
      case measure => simp [intOf]; omega
    · have hend := Lib.hid hlt
      have gg : k < ks.length → ¬ (k : Int) < 200 := fun h1 h2 => hlt ⟨h1, by omega⟩
      clear hlt
      by_cases h1 : k < ks.length
      · have g1 : (k : Int) < ks.length := by omega
        have g2 := gg h1
        have hke := Lib.hid h1
        clear gg h1
        go_wp2_with fail
        refine (cfg (rgf_of (HF.pick 2 rfl)) (by have := HSl.out; omega) HF).mono ?_
        rintro e w6 ⟨r1, rfl, HX⟩
        clear HF
        obtain ⟨y1, n1', z1, hv1, _, HF⟩ := cfg_open HX
        obtain ⟨b1, d1, e1⟩ := own_any HF
        cases e1
        subst hv1
        clear HX
        simp only [cfV]
        go_wp2_with fail
        refine (cfg (rgf_of (HF.pick 3 rfl)) (by have := HSl.out; omega) HF).mono ?_
        rintro e w7 ⟨r2, rfl, HX⟩
        clear HF
        obtain ⟨y2, n2', z2, hv2, _, HF⟩ := cfg_open HX
        obtain ⟨b2, d2, e2⟩ := own_any HF
        cases e2
        subst hv2
        clear HX
        simp only [cfV]
        have HkB := Lib.hid (show N2 ≤ 400 ∧ k ≤ 200 from ⟨by have := HN2.out; omega, hk200⟩)
        go_wp2_with (first | ((with_reducible refine k_lit ?_); refine st_lit rfl _ _ _ rfl #[.slice y1 SS.length z1, .slice y2 SS.length z2] 27 2 HF ?_ ?_; (go_simp); (clear HF; intro gz w1 HF K hK; go_simp))    | ((with_reducible refine k_builtin ?_); refine st_append rfl _ _ _ rfl 27 Try.underlying74 1 stg27 24 btg27 _ ztg27 rfl (.slice la N2 lc) N2 (slC vs N2) rfl (HF.sel 5 [4, 0, 1, 2, 3]) (some ⟨gz, 0, none⟩) 2 2 [.slice y1 SS.length z1, .slice y2 SS.length z2] rfl rfl (fun _ => ⟨_, rfl, cells_of (HF.get 0 rfl)⟩) (by simp [Value.oneCell']) ?_ ?_ ?_; (have := HkB.out; simp only [maxLen]; omega); (have := HkB.out; omega); (clear HF; intro v9 w HF K hK; obtain ⟨s8, t8, rfl, _⟩ := own_value HF; go_simp)))
        have HA0 := own_row2 HF
        have HA1 := its_ext (vs := vs) (ls := ls) [OI (.slice y2 SS.length z2) SS, OwnRow 27 1 (.slice s8 (N2 + 2) t8) (N2 + 2) (slC (updF (updF vs N2 (.slice y1 SS.length z1)) (N2 + 1) (.slice y2 SS.length z2)) (N2 + 2)), OwnRow 27 1 (.slice ga k gc) k (slC gs k), RgR 84 87 gr ⟨cF, cP, cB, cK, cR⟩ SS pts, Blk g10 (.cells #[.slice s4 SS.length t4, .int .i64 cF, .int .i64 cP, .int .i64 cB, .int .i64 cK, .int .i64 cR] 29 (0, 0)), OI (.slice s4 SS.length t4) SS, Blk gl (.cells (iCs S ++ [Value.int .i64 (-77)]).toArray 3 (0, 0)), Blk g7 (.cells #[.slice (blkA gl) S.length (S.length + 1), .int .i64 cF, .int .i64 cP, .int .i64 cB, .int .i64 cK, .int .i64 cR] 29 (0, 0)), Arg W] (HA0.sel 11 [3, 2, 0, 4, 5, 6, 7, 8, 9, 10])
        have HA2 := its_ext (vs := updF vs N2 (.slice y1 SS.length z1)) (ls := updF ls N2 SS) [OwnRow 27 1 (.slice s8 (N2 + 2) t8) (N2 + 2) (slC (updF (updF vs N2 (.slice y1 SS.length z1)) (N2 + 1) (.slice y2 SS.length z2)) (N2 + 2)), OwnRow 27 1 (.slice ga k gc) k (slC gs k), RgR 84 87 gr ⟨cF, cP, cB, cK, cR⟩ SS pts, Blk g10 (.cells #[.slice s4 SS.length t4, .int .i64 cF, .int .i64 cP, .int .i64 cB, .int .i64 cK, .int .i64 cR] 29 (0, 0)), OI (.slice s4 SS.length t4) SS, Blk gl (.cells (iCs S ++ [Value.int .i64 (-77)]).toArray 3 (0, 0)), Blk g7 (.cells #[.slice (blkA gl) S.length (S.length + 1), .int .i64 cF, .int .i64 cP, .int .i64 cB, .int .i64 cK, .int .i64 cR] 29 (0, 0)), Arg W] HA1
        have HLq := Lib.hid (show ∀ j, j < N2 + 2 → (updF (updF ls N2 SS) (N2 + 1) SS j).length ≤ 100 from fun j hj => by
          by_cases e : j = N2 + 1
          · subst e
            rw [updF_at]
            have := HSl.out
            omega
          · rw [updF_ne _ _ e]
            by_cases e2 : j = N2
            · subst e2
              rw [updF_at]
              have := HSl.out
              omega
            · rw [updF_ne _ _ e2]
              exact HLs.out j (by omega))
        have HN3 := Lib.hid (show N2 + 2 ≤ 1000 by have := HkB.out; omega)
        clear HA0 HA1 HF hk200
        obtain ⟨vs3, hvs3⟩ : ∃ f, updF (updF vs N2 (.slice y1 SS.length z1)) (N2 + 1) (.slice y2 SS.length z2) = f := ⟨_, rfl⟩
        obtain ⟨ls3, hls3⟩ : ∃ f, updF (updF ls N2 SS) (N2 + 1) SS = f := ⟨_, rfl⟩
        obtain ⟨N3, hN3⟩ : ∃ n, N2 + 2 = n := ⟨_, rfl⟩
        rw [hls3, hN3] at HLq
        rw [hN3] at HN3
        have HA3 : At W (OwnRow 27 1 (.slice s8 N3 t8) N3 (slC vs3 N3) :: ([OwnRow 27 1 (.slice ga k gc) k (slC gs k), RgR 84 87 gr ⟨cF, cP, cB, cK, cR⟩ SS pts, Blk g10 (.cells #[.slice s4 SS.length t4, .int .i64 cF, .int .i64 cP, .int .i64 cB, .int .i64 cK, .int .i64 cR] 29 (0, 0)), OI (.slice s4 SS.length t4) SS, Blk gl (.cells (iCs S ++ [Value.int .i64 (-77)]).toArray 3 (0, 0)), Blk g7 (.cells #[.slice (blkA gl) S.length (S.length + 1), .int .i64 cF, .int .i64 cP, .int .i64 cB, .int .i64 cK, .int .i64 cR] 29 (0, 0)), Arg W] ++ (Its (fun i => OI (vs3 i) (ls3 i)) N3 ++ (Its (fun i => OI (gs i) (G i)) k ++ [])))) w := by
          rw [← hvs3, ← hls3, ← hN3]
          exact HA2
        rw [hN3]
        clear HA2 hvs3 hls3 hN3
        obtain ⟨LI, hLI⟩ : ∃ LI, Stars (OwnRow 27 1 (.slice s8 N3 t8) N3 (slC vs3 N3) :: Its (fun i => OI (vs3 i) (ls3 i)) N3) = LI := ⟨_, rfl⟩
        have HF : At W (LI :: OwnRow 27 1 (.slice ga k gc) k (slC gs k) :: RgR 84 87 gr ⟨cF, cP, cB, cK, cR⟩ SS pts :: Blk g10 (.cells #[.slice s4 SS.length t4, .int .i64 cF, .int .i64 cP, .int .i64 cB, .int .i64 cK, .int .i64 cR] 29 (0, 0)) :: OI (.slice s4 SS.length t4) SS :: Blk gl (.cells (iCs S ++ [Value.int .i64 (-77)]).toArray 3 (0, 0)) :: Blk g7 (.cells #[.slice (blkA gl) S.length (S.length + 1), .int .i64 cF, .int .i64 cP, .int .i64 cB, .int .i64 cK, .int .i64 cR] 29 (0, 0)) :: Arg W :: (Its (fun i => OI (gs i) (G i)) k ++ [])) w := by
          rw [← hLI]
          exact At.fold (M := OwnRow 27 1 (.slice s8 N3 t8) N3 (slC vs3 N3) :: Its (fun i => OI (vs3 i) (ls3 i)) N3) (HA3.perm (List.Perm.cons _ (List.perm_append_comm_assoc _ _ _)))
        have HLI := Lib.hid hLI
        clear HA3 hLI
        obtain ⟨T, hT⟩ : ∃ T : List Int, (List.range S.length).map (fun i : Nat => 900 + (i : Int)) = T := ⟨_, rfl⟩
        have HTL := Lib.hid (show T.length = S.length by rw [← hT]; simp)
        have HTG := Lib.hid (show ∀ i, i < S.length → T[i]? = some (900 + (i : Int)) from fun i hi => by rw [← hT]; simp [hi])
        clear hT
        have hSn := HRC.out.n.2
        (try dsimp only at hSn)
        have HSN := Lib.hid hSn
        clear hSn
        go_loopw [18] (fun i wr => ∃ j : Nat, j ≤ S.length ∧ i = .int .i64 j ∧ At W (LI :: OwnRow 27 1 (.slice ga k gc) k (slC gs k) :: RgR 84 87 gr ⟨cF, cP, cB, cK, cR⟩ SS pts :: Blk g10 (.cells #[.slice s4 SS.length t4, .int .i64 cF, .int .i64 cP, .int .i64 cB, .int .i64 cK, .int .i64 cR] 29 (0, 0)) :: OI (.slice s4 SS.length t4) SS :: Blk gl (.cells (iCs (mixL T S j) ++ [Value.int .i64 (-77)]).toArray 3 (0, 0)) :: Blk g7 (.cells #[.slice (blkA gl) S.length (S.length + 1), .int .i64 cF, .int .i64 cP, .int .i64 cB, .int .i64 cK, .int .i64 cR] 29 (0, 0)) :: Arg W :: (Its (fun i => OI (gs i) (G i)) k ++ [])) wr) (fun i _ => S.length - (intOf i).toNat)
        case atStart =>
          refine ⟨0, Nat.zero_le _, rfl, ?_⟩
          have e : mixL T S 0 = S := by unfold mixL; simp
          rw [e]
          exact HF
        case round =>
          clear HF
          obtain ⟨j, hj, rfl, HF⟩ := hrel
          by_cases hjl : j < S.length
          · have gj : (j : Int) < S.length := by omega
            have hw1 : wrap64 (900 + (j : Int)) = 900 + (j : Int) := wrap64_of (by omega) (by have := HSN.out; omega)
            have HST := Lib.hid (mix_store HTL.out (HTG.out j hjl) (Value.int .i64 (-77)))
            have HSZ := Lib.hid (show j < (iCs (mixL T S j) ++ [Value.int .i64 (-77)]).toArray.size by
              rw [List.size_toArray, List.length_append, iCs_len, mixL_len HTL.out hj]
              simp
              omega)
            have hSN := HSN.out
            go_wp2_with (first | ((with_reducible refine k_load ?_); refine st_load rfl _ _ rfl _ _ rfl ?_ HF 6 rfl rfl ?_; (kernel_rfl); (intro K hK; go_simp)) | ((with_reducible refine k_store ?_); refine st_store rfl _ _ _ rfl gl j rfl (Value.int .i64 (wrap64 (900 + (j : Int)))) rfl rfl st3 HF 5 rfl HSZ.out ?_; (clear HF; intro w HF K hK; simp only [List.set_cons_zero, List.set_cons_succ] at HF; rw [hw1, HST.out] at HF; go_simp)) | ((with_reducible refine k_store ?_); refine st_store rfl _ _ _ rfl gl j rfl (Value.int .i64 (900 + (j : Int))) rfl rfl st3 HF 5 rfl HSZ.out ?_; (clear HF; intro w HF K hK; simp only [List.set_cons_zero, List.set_cons_succ] at HF; rw [HST.out] at HF; go_simp)))
            go_roundw
            case rel => exact ⟨j + 1, by omega, rfl, HF⟩
            case measure => simp [intOf]; omega
          · have gj : ¬ (j : Int) < S.length := by omega
            have e : mixL T S j = T := by
              unfold mixL
              rw [List.take_of_length_le (by have := HTL.out; omega), List.drop_of_length_le (by omega), List.append_nil]
            rw [e] at HF
            clear e
            go_wp2_with (first | ((with_reducible refine k_load ?_); refine st_load rfl _ _ rfl _ _ rfl ?_ HF 6 rfl rfl ?_; (kernel_rfl); (intro K hK; go_simp)))
            have LIop := Lib.hid (fun (w2 : World) (M : List HProp) (HM : At W (LI :: M) w2) => (show At W (OwnRow 27 1 (.slice s8 N3 t8) N3 (slC vs3 N3) :: (Its (fun i => OI (vs3 i) (ls3 i)) N3 ++ M)) w2 from by
              rw [← HLI.out] at HM
              exact At.flat HM))
            apply wp_region_eff [1, 5] (fun i => (#[[], [], [1], [1], [1], [1], [1], [1, 5], [1, 5], [1, 5], [1, 5], [1, 5], [1, 5], [1, 5], [1, 5], [1, 5]] : Array (List Nat)).getD i []) (fun val i => (([_, val 1, .bool false, .bool false, .pointer (blkA gr), val 5, .agg #[.slice s4 SS.length t4, .int .i64 cF, .int .i64 cP, .int .i64 cB, .int .i64 cK, .int .i64 cR], .bool true, .bool false, .bool false, .bool false, .pointer (blkA gr), .int .i64 stop0, .bool true, .bool false, .bool false]) : List Value).toArray.getD i undef) (fun E val => At W ((if E 1 = true then pur (val 1 = .bool true) else LI) :: (if E 5 = true then CfgO (val 5) ⟨cF, cP, cB, cK, cR⟩ SS else emp) :: OwnRow 27 1 (.slice ga k gc) k (slC gs k) :: RgR 84 87 gr ⟨cF, cP, cB, cK, cR⟩ SS pts :: Blk g10 (.cells #[.slice s4 SS.length t4, .int .i64 cF, .int .i64 cP, .int .i64 cB, .int .i64 cK, .int .i64 cR] 29 (0, 0)) :: OI (.slice s4 SS.length t4) SS :: Blk gl (.cells (iCs T ++ [Value.int .i64 (-77)]).toArray 3 (0, 0)) :: Blk g7 (.cells #[.slice (blkA gl) S.length (S.length + 1), .int .i64 cF, .int .i64 cP, .int .i64 cB, .int .i64 cK, .int .i64 cR] 29 (0, 0)) :: Arg W :: (Its (fun i => OI (gs i) (G i)) k ++ []))) (by kernel_rfl) (by kernel_rfl) (by kernel_rfl) (by kernel_rfl) (HF.addEmp.sel 2 [1, 0])
            case step =>
              refine ⟨eff_pl rfl (fun _ => by rfl) fun E val hn T ds w K H hk ho hK => ?_, ?_⟩; rotate_left
              refine ⟨eff_mk rfl (fun _ => by rfl) fun E val hE0 hcl hn T ds w K H hk ho hK => ?_, ?_⟩; rotate_left
              iterate 3 (refine ⟨eff_pl rfl (fun _ => by rfl) fun E val hn T ds w K H hk ho hK => ?_, ?_⟩; rotate_left)
              refine ⟨eff_mk rfl (fun _ => by rfl) fun E val hE0 hcl hn T ds w K H hk ho hK => ?_, ?_⟩; rotate_left
              iterate 10 (refine ⟨eff_pl rfl (fun _ => by rfl) fun E val hn T ds w K H hk ho hK => ?_, ?_⟩; rotate_left)
              exact trivial
              · have o12 := ho 12 (by kernel_rfl); clear ho; simp [know, dstAt, Region.binds] at hk o12; go_simp; exact hK _ H
              · clear ho; simp [know, dstAt, Region.binds] at hk
                (simp only [hE0, Bool.false_eq_true, if_false] at H); go_simp; refine (grown HN3.out (fun i hi => HLq.out i hi) (LIop.out _ _ H)).mono ?_; rintro e w' ⟨rfl, H⟩; refine hK _ _ ?_; have t1 : updE E 1 1 = true := rfl; have t5 : updE E 1 5 = E 5 := rfl; simp only [t1, t5, if_true]; exact At.pure (rfl : Value.bool true = .bool true) H
              · clear ho; simp [know, dstAt, Region.binds] at hk
                first | (go_simp; exact hK _ H) | (have e1 := hn 1 (by decide); have H2 := H; simp only [e1, if_true] at H2; (have hv := (At.unpure H2).1); have hk2 := hk.trans hv; clear hk hv H2; go_simp; exact hK _ H)
              · clear ho; simp [know, dstAt, Region.binds] at hk; go_simp; exact hK _ H
              · have o8 := ho 8 (by kernel_rfl); clear ho; simp [know, dstAt, Region.binds] at hk o8; go_simp; exact hK _ H
              · clear ho; simp [know, dstAt, Region.binds] at hk
                (simp only [hE0, Bool.false_eq_true, if_false] at H); go_simp; have H3 := H.sel 2 [0]; refine (cfg (rgf_of (H3.pick 2 rfl)) (by have := HSl.out; omega) H3).mono ?_; rintro e w' ⟨r, rfl, H⟩; refine hK _ _ ?_; have t5 : updE E 5 5 = true := rfl; have t1 : updE E 5 1 = E 1 := rfl; simp only [t5, t1, if_true]; exact H.sel 2 [1, 0]
              · have o10 := ho 10 (by kernel_rfl); clear ho; simp [know, dstAt, Region.binds] at hk o10
                (first | (refine op_rowT (T := 29) rfl o10 a29 s29 H 4 rfl rfl ?_; exact hK _ H))
              · clear ho; simp [know, dstAt, Region.binds] at hk
                (have e5 := hn 5 (by decide); have H2 := H; simp only [e5, if_true] at H2; obtain ⟨a9, n9, m9, hv8, hr9, _⟩ := cfg_open (H2.pick 1 rfl); have hk2 := hk; simp only [hv8, cfV] at hk2; clear hk hv8 H2; have HR9 := Lib.hid hr9; clear hr9; go_simp; refine (sameConfig (c := ⟨cF, cP, cB, cK, cR⟩) HR9.out (oi_recs (H.pick 5 rfl)) H).mono ?_; rintro e w' ⟨rfl, H⟩; exact hK _ H)
              · clear ho; simp [know, dstAt, Region.binds] at hk; go_simp; exact hK _ H
              · clear ho; simp [know, dstAt, Region.binds] at hk; go_simp; exact hK _ H
              · clear ho; simp [know, dstAt, Region.binds] at hk; go_simp; exact hK _ H
              · have o8 := ho 8 (by kernel_rfl); clear ho; simp [know, dstAt, Region.binds] at hk o8; go_simp; exact hK _ H
              · have o2 := ho 2 (by kernel_rfl); clear ho; simp [know, dstAt, Region.binds] at hk o2; go_simp; exact hK _ H
              · clear ho; simp [know, dstAt, Region.binds] at hk
                (go_simp; refine (agn (rgf_of (H.pick 3 rfl)) HP.out.l HP.out.p stop0 H).mono ?_; rintro e w' ⟨rfl, H⟩; exact hK _ H)
              · clear ho; simp [know, dstAt, Region.binds] at hk; go_simp; exact hK _ H
              · clear ho; simp [know, dstAt, Region.binds] at hk; go_simp; exact hK _ H
            case ins =>
              refine ⟨ins_pl rfl (fun _ _ _ => rfl), ?_⟩
              refine ⟨ins_mk rfl (fun _ => rfl), ?_⟩
              iterate 3 (refine ⟨ins_pl rfl (fun val val' h => by first | rfl | ((have h1 := h 1 (by decide)); first | (simp only [h1]; done) | (simp only [h1]; rfl))), ?_⟩)
              refine ⟨ins_mk rfl (fun _ => rfl), ?_⟩
              refine ⟨ins_pl rfl (fun val val' h => by first | rfl | ((have h1 := h 1 (by decide)); first | (simp only [h1]; done) | (simp only [h1]; rfl))), ?_⟩
              iterate 9 (refine ⟨ins_pl rfl (fun val val' h => by first | rfl | ((have h1 := h 1 (by decide)); (have h5 := h 5 (by decide)); first | (simp only [h1, h5]; done) | (simp only [h1, h5]; rfl))), ?_⟩)
              exact trivial
            case jns =>
              refine ⟨j_pl (fun _ _ _ => rfl), ?_⟩
              refine ⟨j_mk rfl, ?_⟩
              iterate 3 (refine ⟨j_pl (fun _ _ _ => rfl), ?_⟩)
              refine ⟨j_mk rfl, ?_⟩
              iterate 10 (refine ⟨j_pl (fun _ _ _ => rfl), ?_⟩)
              exact trivial
            case fin =>
              intro E val w8 hE H
              have e1 := hE 1 (by decide)
              have e5 := hE 5 (by decide)
              simp only [e1, e5, if_true] at H
              clear HF hE e1 e5 LIop
              have HF : At W (OwnRow 27 1 (.slice ga k gc) k (slC gs k) :: RgR 84 87 gr ⟨cF, cP, cB, cK, cR⟩ SS pts :: Blk gl (.cells (iCs T ++ [Value.int .i64 (-77)]).toArray 3 (0, 0)) :: Blk g7 (.cells #[.slice (blkA gl) S.length (S.length + 1), .int .i64 cF, .int .i64 cP, .int .i64 cB, .int .i64 cK, .int .i64 cR] 29 (0, 0)) :: Arg W :: (Its (fun i => OI (gs i) (G i)) k ++ [])) w8 := H.sel 9 [2, 3, 6, 7, 8]
              clear H gj
              simp [putAll, Act.put]
              go_wp2_with fail
              go_loopw [19] (fun i wr => ∃ j : Nat, j ≤ k ∧ i = .int .i64 j ∧ At W (OwnRow 27 1 (.slice ga k gc) k (slC gs k) :: RgR 84 87 gr ⟨cF, cP, cB, cK, cR⟩ SS pts :: Blk gl (.cells (iCs T ++ [Value.int .i64 (-77)]).toArray 3 (0, 0)) :: Blk g7 (.cells #[.slice (blkA gl) S.length (S.length + 1), .int .i64 cF, .int .i64 cP, .int .i64 cB, .int .i64 cK, .int .i64 cR] 29 (0, 0)) :: Arg W :: (Its (fun i => OI (gs i) (G i)) k ++ [])) wr) (fun i _ => k - (intOf i).toNat)
              case atStart => exact ⟨0, Nat.zero_le _, rfl, HF⟩
              case round =>
                clear HF
                obtain ⟨j, hj, rfl, HF⟩ := hrel
                by_cases hjk : j < k
                · have gj : (j : Int) < k := by omega
                  have gj2 : (j : Int) < ks.length := by omega
                  obtain ⟨ky, hkk⟩ : ∃ ky, ks[j]? = some ky := ⟨_, List.getElem?_eq_getElem (by omega)⟩
                  obtain ⟨bk, rfl⟩ := K3.out (by omega)
                  have Hd := Lib.hid (fun (w4 : World) (hx : Ext W w4) j u hj => hx.cell (recs_get HK.out hkk j u hj))
                  have Hs := Lib.hid (show sizeT Try.prog 38 = some ky.cells.length from s38)
                  obtain ⟨_, _, hv9, _, _, _, hb9, _⟩ := own_value HF
                  cases hv9
                  obtain ⟨bg, rfl⟩ := hb9 (by omega)
                  clear hb9
                  go_wp2_with ((with_reducible refine k_load (T := 38) ?_); refine st_loadCells rfl _ _ rfl _ rfl a38 ky.cells Hs.out (Hd.out _ (HF.ext 4 rfl)) ?_; (intro K hK; go_simp))
                  refine (groupU (rgf_of (HF.pick 1 rfl)) HP.out HRF.out ky HF).mono ?_
                  rintro e w9 ⟨p1, q1, c1, g1, rfl, hr1, hl1, HX⟩
                  clear HF
                  have HF := HX
                  clear HX
                  have hGg := grRel_eq (HG.out j hjk ky hkk) hr1
                  have hown := its_take (f := fun i => OI (gs i) (G i)) [OI (.slice p1 g1.length q1) g1, OwnRow 27 1 (.slice (some bg) k gc) k (slC gs k), RgR 84 87 gr ⟨cF, cP, cB, cK, cR⟩ SS pts, Blk gl (.cells (iCs T ++ [Value.int .i64 (-77)]).toArray 3 (0, 0)), Blk g7 (.cells #[.slice (blkA gl) S.length (S.length + 1), .int .i64 cF, .int .i64 cP, .int .i64 cB, .int .i64 cK, .int .i64 cR] 29 (0, 0)), Arg W] hjk HF
                  rw [hGg] at hown
                  obtain ⟨ag, cg, hgs⟩ := own_any hown
                  have Hsl := Lib.hid (slC_get (vs := gs) hjk)
                  rw [hgs] at Hsl hown
                  have HRE := Lib.hid (oi_recs hown)
                  clear hown hgs hGg hkk hr1 hl1
                  go_wp2_with ((with_reducible refine k_load ?_); refine st_load1 rfl _ _ rfl _ rfl rfl (own_cell (HF.pick 1 rfl) Hsl.out) ?_; (intro K hK; go_simp))
                  refine (sameInts (oi_recs HF) HRE.out HF).mono ?_
                  rintro e w10 ⟨rfl, HX⟩
                  clear HF
                  have HF := HX.drop
                  clear HX
                  go_wp2_with fail
                  go_roundw
                  case rel => exact ⟨j + 1, by omega, rfl, HF⟩
                  case measure => simp [intOf]; omega
                · have gj : ¬ (j : Int) < k := by omega
                  go_wp2_with (first | ((with_reducible refine k_load (T := 29) ?_); refine st_row rfl _ _ rfl _ rfl a29 6 s29 HF 3 rfl rfl ?_; (intro K hK; go_simp)) | ((with_reducible refine k_load (T := 29) ?_); refine st_loads rfl _ _ rfl _ _ rfl a29 6 s29 HF 3 rfl ?_ ?_; (simp); (intro K hK; go_simp)))
                  have hrt := lent_recs (S := T) (by rw [HTL.out]; exact HN.out) (HF.pick 2 rfl)
                  rw [HTL.out] at hrt
                  refine (HNw.out _ _ _ T _ hrt HF).mono ?_
                  rintro e w9 (⟨g9, rfl, hRC, _⟩ | ⟨rfl, _, HX⟩)
                  · have h0 : 0 < S.length := by have h1 := HRC.out.n.1; have h2 := HRC.out.f.1; dsimp only at h1 h2; omega
                    have h3 := hRC.s 900 (List.mem_of_getElem? (by have := HTG.out 0 h0; simpa using this))
                    omega
                  · clear HF
                    have HF := HX
                    clear HX
                    go_wp2_with fail
                    refine (known HF).mono ?_
                    rintro e w10 ⟨rfl, HX⟩
                    go_wp2_with fail
                    go_ret
                    exact ⟨rfl, HX.below 4 rfl⟩
      · have g1 : ¬ (k : Int) < ks.length := by omega
        clear gg h1
        go_wp2_with fail
        refine (cfg (rgf_of (HF.pick 2 rfl)) (by have := HSl.out; omega) HF).mono ?_
        rintro e w6 ⟨r1, rfl, HX⟩
        clear HF
        obtain ⟨y1, n1', z1, hv1, _, HF⟩ := cfg_open HX
        obtain ⟨b1, d1, e1⟩ := own_any HF
        cases e1
        subst hv1
        clear HX
        simp only [cfV]
        go_wp2_with fail
        refine (cfg (rgf_of (HF.pick 3 rfl)) (by have := HSl.out; omega) HF).mono ?_
        rintro e w7 ⟨r2, rfl, HX⟩
        clear HF
        obtain ⟨y2, n2', z2, hv2, _, HF⟩ := cfg_open HX
        obtain ⟨b2, d2, e2⟩ := own_any HF
        cases e2
        subst hv2
        clear HX
        simp only [cfV]
        have HkB := Lib.hid (show N2 ≤ 400 ∧ k ≤ 200 from ⟨by have := HN2.out; omega, hk200⟩)
        go_wp2_with (first | ((with_reducible refine k_lit ?_); refine st_lit rfl _ _ _ rfl #[.slice y1 SS.length z1, .slice y2 SS.length z2] 27 2 HF ?_ ?_; (go_simp); (clear HF; intro gz w1 HF K hK; go_simp))    | ((with_reducible refine k_builtin ?_); refine st_append rfl _ _ _ rfl 27 Try.underlying74 1 stg27 24 btg27 _ ztg27 rfl (.slice la N2 lc) N2 (slC vs N2) rfl (HF.sel 5 [4, 0, 1, 2, 3]) (some ⟨gz, 0, none⟩) 2 2 [.slice y1 SS.length z1, .slice y2 SS.length z2] rfl rfl (fun _ => ⟨_, rfl, cells_of (HF.get 0 rfl)⟩) (by simp [Value.oneCell']) ?_ ?_ ?_; (have := HkB.out; simp only [maxLen]; omega); (have := HkB.out; omega); (clear HF; intro v9 w HF K hK; obtain ⟨s8, t8, rfl, _⟩ := own_value HF; go_simp)))
        have HA0 := own_row2 HF
        have HA1 := its_ext (vs := vs) (ls := ls) [OI (.slice y2 SS.length z2) SS, OwnRow 27 1 (.slice s8 (N2 + 2) t8) (N2 + 2) (slC (updF (updF vs N2 (.slice y1 SS.length z1)) (N2 + 1) (.slice y2 SS.length z2)) (N2 + 2)), OwnRow 27 1 (.slice ga k gc) k (slC gs k), RgR 84 87 gr ⟨cF, cP, cB, cK, cR⟩ SS pts, Blk g10 (.cells #[.slice s4 SS.length t4, .int .i64 cF, .int .i64 cP, .int .i64 cB, .int .i64 cK, .int .i64 cR] 29 (0, 0)), OI (.slice s4 SS.length t4) SS, Blk gl (.cells (iCs S ++ [Value.int .i64 (-77)]).toArray 3 (0, 0)), Blk g7 (.cells #[.slice (blkA gl) S.length (S.length + 1), .int .i64 cF, .int .i64 cP, .int .i64 cB, .int .i64 cK, .int .i64 cR] 29 (0, 0)), Arg W] (HA0.sel 11 [3, 2, 0, 4, 5, 6, 7, 8, 9, 10])
        have HA2 := its_ext (vs := updF vs N2 (.slice y1 SS.length z1)) (ls := updF ls N2 SS) [OwnRow 27 1 (.slice s8 (N2 + 2) t8) (N2 + 2) (slC (updF (updF vs N2 (.slice y1 SS.length z1)) (N2 + 1) (.slice y2 SS.length z2)) (N2 + 2)), OwnRow 27 1 (.slice ga k gc) k (slC gs k), RgR 84 87 gr ⟨cF, cP, cB, cK, cR⟩ SS pts, Blk g10 (.cells #[.slice s4 SS.length t4, .int .i64 cF, .int .i64 cP, .int .i64 cB, .int .i64 cK, .int .i64 cR] 29 (0, 0)), OI (.slice s4 SS.length t4) SS, Blk gl (.cells (iCs S ++ [Value.int .i64 (-77)]).toArray 3 (0, 0)), Blk g7 (.cells #[.slice (blkA gl) S.length (S.length + 1), .int .i64 cF, .int .i64 cP, .int .i64 cB, .int .i64 cK, .int .i64 cR] 29 (0, 0)), Arg W] HA1
        have HLq := Lib.hid (show ∀ j, j < N2 + 2 → (updF (updF ls N2 SS) (N2 + 1) SS j).length ≤ 100 from fun j hj => by
          by_cases e : j = N2 + 1
          · subst e
            rw [updF_at]
            have := HSl.out
            omega
          · rw [updF_ne _ _ e]
            by_cases e2 : j = N2
            · subst e2
              rw [updF_at]
              have := HSl.out
              omega
            · rw [updF_ne _ _ e2]
              exact HLs.out j (by omega))
        have HN3 := Lib.hid (show N2 + 2 ≤ 1000 by have := HkB.out; omega)
        clear HA0 HA1 HF hk200
        obtain ⟨vs3, hvs3⟩ : ∃ f, updF (updF vs N2 (.slice y1 SS.length z1)) (N2 + 1) (.slice y2 SS.length z2) = f := ⟨_, rfl⟩
        obtain ⟨ls3, hls3⟩ : ∃ f, updF (updF ls N2 SS) (N2 + 1) SS = f := ⟨_, rfl⟩
        obtain ⟨N3, hN3⟩ : ∃ n, N2 + 2 = n := ⟨_, rfl⟩
        rw [hls3, hN3] at HLq
        rw [hN3] at HN3
        have HA3 : At W (OwnRow 27 1 (.slice s8 N3 t8) N3 (slC vs3 N3) :: ([OwnRow 27 1 (.slice ga k gc) k (slC gs k), RgR 84 87 gr ⟨cF, cP, cB, cK, cR⟩ SS pts, Blk g10 (.cells #[.slice s4 SS.length t4, .int .i64 cF, .int .i64 cP, .int .i64 cB, .int .i64 cK, .int .i64 cR] 29 (0, 0)), OI (.slice s4 SS.length t4) SS, Blk gl (.cells (iCs S ++ [Value.int .i64 (-77)]).toArray 3 (0, 0)), Blk g7 (.cells #[.slice (blkA gl) S.length (S.length + 1), .int .i64 cF, .int .i64 cP, .int .i64 cB, .int .i64 cK, .int .i64 cR] 29 (0, 0)), Arg W] ++ (Its (fun i => OI (vs3 i) (ls3 i)) N3 ++ (Its (fun i => OI (gs i) (G i)) k ++ [])))) w := by
          rw [← hvs3, ← hls3, ← hN3]
          exact HA2
        rw [hN3]
        clear HA2 hvs3 hls3 hN3
        obtain ⟨LI, hLI⟩ : ∃ LI, Stars (OwnRow 27 1 (.slice s8 N3 t8) N3 (slC vs3 N3) :: Its (fun i => OI (vs3 i) (ls3 i)) N3) = LI := ⟨_, rfl⟩
        have HF : At W (LI :: OwnRow 27 1 (.slice ga k gc) k (slC gs k) :: RgR 84 87 gr ⟨cF, cP, cB, cK, cR⟩ SS pts :: Blk g10 (.cells #[.slice s4 SS.length t4, .int .i64 cF, .int .i64 cP, .int .i64 cB, .int .i64 cK, .int .i64 cR] 29 (0, 0)) :: OI (.slice s4 SS.length t4) SS :: Blk gl (.cells (iCs S ++ [Value.int .i64 (-77)]).toArray 3 (0, 0)) :: Blk g7 (.cells #[.slice (blkA gl) S.length (S.length + 1), .int .i64 cF, .int .i64 cP, .int .i64 cB, .int .i64 cK, .int .i64 cR] 29 (0, 0)) :: Arg W :: (Its (fun i => OI (gs i) (G i)) k ++ [])) w := by
          rw [← hLI]
          exact At.fold (M := OwnRow 27 1 (.slice s8 N3 t8) N3 (slC vs3 N3) :: Its (fun i => OI (vs3 i) (ls3 i)) N3) (HA3.perm (List.Perm.cons _ (List.perm_append_comm_assoc _ _ _)))
        have HLI := Lib.hid hLI
        clear HA3 hLI
        obtain ⟨T, hT⟩ : ∃ T : List Int, (List.range S.length).map (fun i : Nat => 900 + (i : Int)) = T := ⟨_, rfl⟩
        have HTL := Lib.hid (show T.length = S.length by rw [← hT]; simp)
        have HTG := Lib.hid (show ∀ i, i < S.length → T[i]? = some (900 + (i : Int)) from fun i hi => by rw [← hT]; simp [hi])
        clear hT
        have hSn := HRC.out.n.2
        (try dsimp only at hSn)
        have HSN := Lib.hid hSn
        clear hSn
        go_loopw [18] (fun i wr => ∃ j : Nat, j ≤ S.length ∧ i = .int .i64 j ∧ At W (LI :: OwnRow 27 1 (.slice ga k gc) k (slC gs k) :: RgR 84 87 gr ⟨cF, cP, cB, cK, cR⟩ SS pts :: Blk g10 (.cells #[.slice s4 SS.length t4, .int .i64 cF, .int .i64 cP, .int .i64 cB, .int .i64 cK, .int .i64 cR] 29 (0, 0)) :: OI (.slice s4 SS.length t4) SS :: Blk gl (.cells (iCs (mixL T S j) ++ [Value.int .i64 (-77)]).toArray 3 (0, 0)) :: Blk g7 (.cells #[.slice (blkA gl) S.length (S.length + 1), .int .i64 cF, .int .i64 cP, .int .i64 cB, .int .i64 cK, .int .i64 cR] 29 (0, 0)) :: Arg W :: (Its (fun i => OI (gs i) (G i)) k ++ [])) wr) (fun i _ => S.length - (intOf i).toNat)
        case atStart =>
          refine ⟨0, Nat.zero_le _, rfl, ?_⟩
          have e : mixL T S 0 = S := by unfold mixL; simp
          rw [e]
          exact HF
        case round =>
          clear HF
          obtain ⟨j, hj, rfl, HF⟩ := hrel
          by_cases hjl : j < S.length
          · have gj : (j : Int) < S.length := by omega
            have hw1 : wrap64 (900 + (j : Int)) = 900 + (j : Int) := wrap64_of (by omega) (by have := HSN.out; omega)
            have HST := Lib.hid (mix_store HTL.out (HTG.out j hjl) (Value.int .i64 (-77)))
            have HSZ := Lib.hid (show j < (iCs (mixL T S j) ++ [Value.int .i64 (-77)]).toArray.size by
              rw [List.size_toArray, List.length_append, iCs_len, mixL_len HTL.out hj]
              simp
              omega)
            have hSN := HSN.out
            go_wp2_with (first | ((with_reducible refine k_load ?_); refine st_load rfl _ _ rfl _ _ rfl ?_ HF 6 rfl rfl ?_; (kernel_rfl); (intro K hK; go_simp)) | ((with_reducible refine k_store ?_); refine st_store rfl _ _ _ rfl gl j rfl (Value.int .i64 (wrap64 (900 + (j : Int)))) rfl rfl st3 HF 5 rfl HSZ.out ?_; (clear HF; intro w HF K hK; simp only [List.set_cons_zero, List.set_cons_succ] at HF; rw [hw1, HST.out] at HF; go_simp)) | ((with_reducible refine k_store ?_); refine st_store rfl _ _ _ rfl gl j rfl (Value.int .i64 (900 + (j : Int))) rfl rfl st3 HF 5 rfl HSZ.out ?_; (clear HF; intro w HF K hK; simp only [List.set_cons_zero, List.set_cons_succ] at HF; rw [HST.out] at HF; go_simp)))
            go_roundw
            case rel => exact ⟨j + 1, by omega, rfl, HF⟩
            case measure => simp [intOf]; omega
          · have gj : ¬ (j : Int) < S.length := by omega
            have e : mixL T S j = T := by
              unfold mixL
              rw [List.take_of_length_le (by have := HTL.out; omega), List.drop_of_length_le (by omega), List.append_nil]
            rw [e] at HF
            clear e
            go_wp2_with (first | ((with_reducible refine k_load ?_); refine st_load rfl _ _ rfl _ _ rfl ?_ HF 6 rfl rfl ?_; (kernel_rfl); (intro K hK; go_simp)))
            have LIop := Lib.hid (fun (w2 : World) (M : List HProp) (HM : At W (LI :: M) w2) => (show At W (OwnRow 27 1 (.slice s8 N3 t8) N3 (slC vs3 N3) :: (Its (fun i => OI (vs3 i) (ls3 i)) N3 ++ M)) w2 from by
              rw [← HLI.out] at HM
              exact At.flat HM))
            apply wp_region_eff [1, 5] (fun i => (#[[], [], [1], [1], [1], [1], [1], [1, 5], [1, 5], [1, 5], [1, 5], [1, 5], [1, 5], [1, 5], [1, 5], [1, 5]] : Array (List Nat)).getD i []) (fun val i => (([_, val 1, .bool false, .bool false, .pointer (blkA gr), val 5, .agg #[.slice s4 SS.length t4, .int .i64 cF, .int .i64 cP, .int .i64 cB, .int .i64 cK, .int .i64 cR], .bool true, .bool false, .bool false, .bool false, .pointer (blkA gr), .int .i64 stop0, .bool true, .bool false, .bool false]) : List Value).toArray.getD i undef) (fun E val => At W ((if E 1 = true then pur (val 1 = .bool true) else LI) :: (if E 5 = true then CfgO (val 5) ⟨cF, cP, cB, cK, cR⟩ SS else emp) :: OwnRow 27 1 (.slice ga k gc) k (slC gs k) :: RgR 84 87 gr ⟨cF, cP, cB, cK, cR⟩ SS pts :: Blk g10 (.cells #[.slice s4 SS.length t4, .int .i64 cF, .int .i64 cP, .int .i64 cB, .int .i64 cK, .int .i64 cR] 29 (0, 0)) :: OI (.slice s4 SS.length t4) SS :: Blk gl (.cells (iCs T ++ [Value.int .i64 (-77)]).toArray 3 (0, 0)) :: Blk g7 (.cells #[.slice (blkA gl) S.length (S.length + 1), .int .i64 cF, .int .i64 cP, .int .i64 cB, .int .i64 cK, .int .i64 cR] 29 (0, 0)) :: Arg W :: (Its (fun i => OI (gs i) (G i)) k ++ []))) (by kernel_rfl) (by kernel_rfl) (by kernel_rfl) (by kernel_rfl) (HF.addEmp.sel 2 [1, 0])
            case step =>
              refine ⟨eff_pl rfl (fun _ => by rfl) fun E val hn T ds w K H hk ho hK => ?_, ?_⟩; rotate_left
              refine ⟨eff_mk rfl (fun _ => by rfl) fun E val hE0 hcl hn T ds w K H hk ho hK => ?_, ?_⟩; rotate_left
              iterate 3 (refine ⟨eff_pl rfl (fun _ => by rfl) fun E val hn T ds w K H hk ho hK => ?_, ?_⟩; rotate_left)
              refine ⟨eff_mk rfl (fun _ => by rfl) fun E val hE0 hcl hn T ds w K H hk ho hK => ?_, ?_⟩; rotate_left
              iterate 10 (refine ⟨eff_pl rfl (fun _ => by rfl) fun E val hn T ds w K H hk ho hK => ?_, ?_⟩; rotate_left)
              exact trivial
              · have o12 := ho 12 (by kernel_rfl); clear ho; simp [know, dstAt, Region.binds] at hk o12; go_simp; exact hK _ H
              · clear ho; simp [know, dstAt, Region.binds] at hk
                (simp only [hE0, Bool.false_eq_true, if_false] at H); go_simp; refine (grown HN3.out (fun i hi => HLq.out i hi) (LIop.out _ _ H)).mono ?_; rintro e w' ⟨rfl, H⟩; refine hK _ _ ?_; have t1 : updE E 1 1 = true := rfl; have t5 : updE E 1 5 = E 5 := rfl; simp only [t1, t5, if_true]; exact At.pure (rfl : Value.bool true = .bool true) H
              · clear ho; simp [know, dstAt, Region.binds] at hk
                first | (go_simp; exact hK _ H) | (have e1 := hn 1 (by decide); have H2 := H; simp only [e1, if_true] at H2; (have hv := (At.unpure H2).1); have hk2 := hk.trans hv; clear hk hv H2; go_simp; exact hK _ H)
              · clear ho; simp [know, dstAt, Region.binds] at hk; go_simp; exact hK _ H
              · have o8 := ho 8 (by kernel_rfl); clear ho; simp [know, dstAt, Region.binds] at hk o8; go_simp; exact hK _ H
              · clear ho; simp [know, dstAt, Region.binds] at hk
                (simp only [hE0, Bool.false_eq_true, if_false] at H); go_simp; have H3 := H.sel 2 [0]; refine (cfg (rgf_of (H3.pick 2 rfl)) (by have := HSl.out; omega) H3).mono ?_; rintro e w' ⟨r, rfl, H⟩; refine hK _ _ ?_; have t5 : updE E 5 5 = true := rfl; have t1 : updE E 5 1 = E 1 := rfl; simp only [t5, t1, if_true]; exact H.sel 2 [1, 0]
              · have o10 := ho 10 (by kernel_rfl); clear ho; simp [know, dstAt, Region.binds] at hk o10
                (first | (refine op_rowT (T := 29) rfl o10 a29 s29 H 4 rfl rfl ?_; exact hK _ H))
              · clear ho; simp [know, dstAt, Region.binds] at hk
                (have e5 := hn 5 (by decide); have H2 := H; simp only [e5, if_true] at H2; obtain ⟨a9, n9, m9, hv8, hr9, _⟩ := cfg_open (H2.pick 1 rfl); have hk2 := hk; simp only [hv8, cfV] at hk2; clear hk hv8 H2; have HR9 := Lib.hid hr9; clear hr9; go_simp; refine (sameConfig (c := ⟨cF, cP, cB, cK, cR⟩) HR9.out (oi_recs (H.pick 5 rfl)) H).mono ?_; rintro e w' ⟨rfl, H⟩; exact hK _ H)
              · clear ho; simp [know, dstAt, Region.binds] at hk; go_simp; exact hK _ H
              · clear ho; simp [know, dstAt, Region.binds] at hk; go_simp; exact hK _ H
              · clear ho; simp [know, dstAt, Region.binds] at hk; go_simp; exact hK _ H
              · have o8 := ho 8 (by kernel_rfl); clear ho; simp [know, dstAt, Region.binds] at hk o8; go_simp; exact hK _ H
              · have o2 := ho 2 (by kernel_rfl); clear ho; simp [know, dstAt, Region.binds] at hk o2; go_simp; exact hK _ H
              · clear ho; simp [know, dstAt, Region.binds] at hk
                (go_simp; refine (agn (rgf_of (H.pick 3 rfl)) HP.out.l HP.out.p stop0 H).mono ?_; rintro e w' ⟨rfl, H⟩; exact hK _ H)
              · clear ho; simp [know, dstAt, Region.binds] at hk; go_simp; exact hK _ H
              · clear ho; simp [know, dstAt, Region.binds] at hk; go_simp; exact hK _ H
            case ins =>
              refine ⟨ins_pl rfl (fun _ _ _ => rfl), ?_⟩
              refine ⟨ins_mk rfl (fun _ => rfl), ?_⟩
              iterate 3 (refine ⟨ins_pl rfl (fun val val' h => by first | rfl | ((have h1 := h 1 (by decide)); first | (simp only [h1]; done) | (simp only [h1]; rfl))), ?_⟩)
              refine ⟨ins_mk rfl (fun _ => rfl), ?_⟩
              refine ⟨ins_pl rfl (fun val val' h => by first | rfl | ((have h1 := h 1 (by decide)); first | (simp only [h1]; done) | (simp only [h1]; rfl))), ?_⟩
              iterate 9 (refine ⟨ins_pl rfl (fun val val' h => by first | rfl | ((have h1 := h 1 (by decide)); (have h5 := h 5 (by decide)); first | (simp only [h1, h5]; done) | (simp only [h1, h5]; rfl))), ?_⟩)
              exact trivial
            case jns =>
              refine ⟨j_pl (fun _ _ _ => rfl), ?_⟩
              refine ⟨j_mk rfl, ?_⟩
              iterate 3 (refine ⟨j_pl (fun _ _ _ => rfl), ?_⟩)
              refine ⟨j_mk rfl, ?_⟩
              iterate 10 (refine ⟨j_pl (fun _ _ _ => rfl), ?_⟩)
              exact trivial
            case fin =>
              intro E val w8 hE H
              have e1 := hE 1 (by decide)
              have e5 := hE 5 (by decide)
              simp only [e1, e5, if_true] at H
              clear HF hE e1 e5 LIop
              have HF : At W (OwnRow 27 1 (.slice ga k gc) k (slC gs k) :: RgR 84 87 gr ⟨cF, cP, cB, cK, cR⟩ SS pts :: Blk gl (.cells (iCs T ++ [Value.int .i64 (-77)]).toArray 3 (0, 0)) :: Blk g7 (.cells #[.slice (blkA gl) S.length (S.length + 1), .int .i64 cF, .int .i64 cP, .int .i64 cB, .int .i64 cK, .int .i64 cR] 29 (0, 0)) :: Arg W :: (Its (fun i => OI (gs i) (G i)) k ++ [])) w8 := H.sel 9 [2, 3, 6, 7, 8]
              clear H gj
              simp [putAll, Act.put]
              go_wp2_with fail
              go_loopw [19] (fun i wr => ∃ j : Nat, j ≤ k ∧ i = .int .i64 j ∧ At W (OwnRow 27 1 (.slice ga k gc) k (slC gs k) :: RgR 84 87 gr ⟨cF, cP, cB, cK, cR⟩ SS pts :: Blk gl (.cells (iCs T ++ [Value.int .i64 (-77)]).toArray 3 (0, 0)) :: Blk g7 (.cells #[.slice (blkA gl) S.length (S.length + 1), .int .i64 cF, .int .i64 cP, .int .i64 cB, .int .i64 cK, .int .i64 cR] 29 (0, 0)) :: Arg W :: (Its (fun i => OI (gs i) (G i)) k ++ [])) wr) (fun i _ => k - (intOf i).toNat)
              case atStart => exact ⟨0, Nat.zero_le _, rfl, HF⟩
              case round =>
                clear HF
                obtain ⟨j, hj, rfl, HF⟩ := hrel
                by_cases hjk : j < k
                · have gj : (j : Int) < k := by omega
                  have gj2 : (j : Int) < ks.length := by omega
                  obtain ⟨ky, hkk⟩ : ∃ ky, ks[j]? = some ky := ⟨_, List.getElem?_eq_getElem (by omega)⟩
                  obtain ⟨bk, rfl⟩ := K3.out (by omega)
                  have Hd := Lib.hid (fun (w4 : World) (hx : Ext W w4) j u hj => hx.cell (recs_get HK.out hkk j u hj))
                  have Hs := Lib.hid (show sizeT Try.prog 38 = some ky.cells.length from s38)
                  obtain ⟨_, _, hv9, _, _, _, hb9, _⟩ := own_value HF
                  cases hv9
                  obtain ⟨bg, rfl⟩ := hb9 (by omega)
                  clear hb9
                  go_wp2_with ((with_reducible refine k_load (T := 38) ?_); refine st_loadCells rfl _ _ rfl _ rfl a38 ky.cells Hs.out (Hd.out _ (HF.ext 4 rfl)) ?_; (intro K hK; go_simp))
                  refine (groupU (rgf_of (HF.pick 1 rfl)) HP.out HRF.out ky HF).mono ?_
                  rintro e w9 ⟨p1, q1, c1, g1, rfl, hr1, hl1, HX⟩
                  clear HF
                  have HF := HX
                  clear HX
                  have hGg := grRel_eq (HG.out j hjk ky hkk) hr1
                  have hown := its_take (f := fun i => OI (gs i) (G i)) [OI (.slice p1 g1.length q1) g1, OwnRow 27 1 (.slice (some bg) k gc) k (slC gs k), RgR 84 87 gr ⟨cF, cP, cB, cK, cR⟩ SS pts, Blk gl (.cells (iCs T ++ [Value.int .i64 (-77)]).toArray 3 (0, 0)), Blk g7 (.cells #[.slice (blkA gl) S.length (S.length + 1), .int .i64 cF, .int .i64 cP, .int .i64 cB, .int .i64 cK, .int .i64 cR] 29 (0, 0)), Arg W] hjk HF
                  rw [hGg] at hown
                  obtain ⟨ag, cg, hgs⟩ := own_any hown
                  have Hsl := Lib.hid (slC_get (vs := gs) hjk)
                  rw [hgs] at Hsl hown
                  have HRE := Lib.hid (oi_recs hown)
                  clear hown hgs hGg hkk hr1 hl1
                  go_wp2_with ((with_reducible refine k_load ?_); refine st_load1 rfl _ _ rfl _ rfl rfl (own_cell (HF.pick 1 rfl) Hsl.out) ?_; (intro K hK; go_simp))
                  refine (sameInts (oi_recs HF) HRE.out HF).mono ?_
                  rintro e w10 ⟨rfl, HX⟩
                  clear HF
                  have HF := HX.drop
                  clear HX
                  go_wp2_with fail
                  go_roundw
                  case rel => exact ⟨j + 1, by omega, rfl, HF⟩
                  case measure => simp [intOf]; omega
                · have gj : ¬ (j : Int) < k := by omega
                  go_wp2_with (first | ((with_reducible refine k_load (T := 29) ?_); refine st_row rfl _ _ rfl _ rfl a29 6 s29 HF 3 rfl rfl ?_; (intro K hK; go_simp)) | ((with_reducible refine k_load (T := 29) ?_); refine st_loads rfl _ _ rfl _ _ rfl a29 6 s29 HF 3 rfl ?_ ?_; (simp); (intro K hK; go_simp)))
                  have hrt := lent_recs (S := T) (by rw [HTL.out]; exact HN.out) (HF.pick 2 rfl)
                  rw [HTL.out] at hrt
                  refine (HNw.out _ _ _ T _ hrt HF).mono ?_
                  rintro e w9 (⟨g9, rfl, hRC, _⟩ | ⟨rfl, _, HX⟩)
                  · have h0 : 0 < S.length := by have h1 := HRC.out.n.1; have h2 := HRC.out.f.1; dsimp only at h1 h2; omega
                    have h3 := hRC.s 900 (List.mem_of_getElem? (by have := HTG.out 0 h0; simpa using this))
                    omega
                  · clear HF
                    have HF := HX
                    clear HX
                    go_wp2_with fail
                    refine (known HF).mono ?_
                    rintro e w10 ⟨rfl, HX⟩
                    go_wp2_with fail
                    go_ret
                    exact ⟨rfl, HX.below 4 rfl⟩
end

theorem own : ownKnob Try.prog.godebug = none := by kernel_rfl

theorem lifted (os : Os) (started : os.Started) (H : Type) (enc : TypeId × Value → H) :
    ReturnsInHanded {} Try.checked os 12 .any (Rows.ringOwnSpec.pre6 enc Try.prog Try.f12 Rows.ringOwnRow.domain false) (Rows.ringOwnSpec.post enc Try.prog Try.f12 false true false false) := by
  refine frame_true (C := Try.checked) started own (by kernel_rfl) Try.func12
    (ChangeSpec.witness6 (enc := enc) (C := Try.checked) false ⟨#[], #[.agg #[.slice none 0 0, .int .i64 0, .int .i64 0, .int .i64 0, .int .i64 0, .int .i64 0], .slice none 0 0, .int .i64 0], []⟩ 8 (by kernel_rfl) (by kernel_rfl) (by kernel_rfl) (by kernel_rfl)) rfl ?_ (by kernel_rfl) (by kernel_rfl) (by kernel_rfl) Try.underlying4 ?_
  · intro ds hds
    match ds, hds with
    | [_, _, _], _ => rfl
  · rintro W args ds p ⟨base, hval⟩ hA hwt
    have hp : Try.f12.params.toList = [29, 33, 3] := by rw [Try.params12]
    rw [hp] at hA hwt
    obtain ⟨v0, r0, d0, e0, p0, q0, ha, rfl, rfl, h0, hA⟩ := trodAll_cons hA
    obtain ⟨v1, r1, d1, e1, p1, q1, rfl, rfl, rfl, h1, hA⟩ := trodAll_cons hA
    obtain ⟨v2, r2, d2, e2, p2, q2, rfl, rfl, rfl, h2, hA⟩ := trodAll_cons hA
    obtain ⟨rfl, rfl, rfl⟩ := trodAll_nil hA
    have ha2 : args = #[v0, v1, v2] := by cases args; simp_all
    subst ha2
    simp only [DataW.weightsEach, List.all_append, Bool.and_eq_true] at hwt
    obtain ⟨a0, b0⟩ := Lw.arg_Config (hval 0 _ _ (by rw [Try.params12]; rfl) rfl) h0 hwt.1
    obtain ⟨a1, b1⟩ := Lw.arg_keys (hval 1 _ _ (by rw [Try.params12]; rfl) rfl) h1 hwt.2.1
    obtain ⟨a2, b2⟩ := Lw.arg_int (hval 2 _ _ (by rw [Try.params12]; rfl) rfl) h2 hwt.2.2.1
    exact walk b0 b1 b2

theorem over : Rows.ringOwnRow.holds Try.pinned (OpenSpec.ofChange Rows.ringOwnSpec) :=
  OpenClaim.holds_of_wide 12 Try.f12 rfl rfl rfl rfl rfl rfl rfl ⟨rfl, rfl, rfl, rfl, rfl⟩ rfl rfl rfl rfl rfl (by kernel_rfl) Try.func12 (by kernel_rfl)
    (of_decide_eq_true (by kernel_rfl)) (by unfold Func.isWrapper; first | (rw [if_pos (by decide +kernel)]; kernel_rfl) | (rw [if_neg (by decide +kernel)]; exact ⟨rfl, rfl⟩))
    (fun os started H enc _ => lifted os started H enc)

theorem proved : Rows.RingOwnSaid := over
#print axioms proved
end ringOwn
end Go.Proofs.Ytohfboolicheeaa
