/-
  For any configuration, numbers, keys and names the law RingFront answers true: the order in which servers are named changes no answer, the group of a greater F begins with that of a lesser one.
-/
import Derived.Test.YtohfboolicheeaaRgArgs2
import Derived.Test.YtohfboolicheeaaRgFront
import Derived.Test.YtohfboolicheeaaRgCfg
import Derived.ProofKit
namespace Go.Proofs.Ytohfboolicheeaa
open Go.Hp Go.RowKit Go.ChangeShapes Go.WideShapes
set_option linter.unusedVariables false
set_option linter.unusedSimpArgs false
set_option maxRecDepth 100000
namespace ringFront
open Rg
namespace Lw
abbrev arg_Config := @Rg.arg_Config
abbrev arg_int := @Rg.arg_int
abbrev arg_keys := @Rg.arg_keys
abbrev arg_strs := @Rg.arg_strs
end Lw
theorem nil_ints {w : World} : RecsAt w (.slice none 0 0) 1 (([] : List Int).map iC) := ⟨⟨none, 0, rfl, Nat.le_refl _, by simp [maxLen], fun h => absurd h (Nat.lt_irrefl _), fun b hb => by cases hb⟩, fun r hr => absurd hr List.not_mem_nil⟩
section
variable {W : World}

set_option maxHeartbeats 4000000 in
theorem walk {va vf vt vk vn : Value} {x : Cg} (ha : CfArg W va x) {f : Int} (hf : IntArg vf f) {tn : Int} (ht : IntArg vt tn) {ks : List Ky} (hk : KysArg W vk ks) {ns : List ByteArray} (hn : StrsArg W vn ns) :
    Calls Try.prog 11 #[va, vf, vt, vk, vn] W fun e w => e = .returned (.bool true) ∧ Below W.heap.size W w := by
  obtain ⟨rfl, hs, hn9, _⟩ := ha
  obtain ⟨rfl, _⟩ := hf
  obtain ⟨rfl, _⟩ := ht
  obtain ⟨c, S, vs⟩ := x
  obtain ⟨hk1, _⟩ := hk
  obtain ⟨hm1, hm2⟩ := hn
  dsimp only at *
  have HF := At.of W
  obtain ⟨adk, capk, rfl, k1, k2, k3⟩ := hk1.value
  rw [List.length_map] at k1 k3 hk1
  have hk63 : ks.length ≤ 9223372036854775807 := by simp only [maxLen] at k2; omega
  have HK := Lib.hid hk1
  have K3 := Lib.hid k3
  obtain ⟨adn, capn, rfl, n1, n2, n3⟩ := hm1.value
  rw [List.length_map] at n1 n3 hm1
  have hn63 : ns.length ≤ 9223372036854775807 := by simp only [maxLen] at n2; omega
  have HM := Lib.hid hm1
  have HM2 := Lib.hid hm2
  have N3 := Lib.hid n3
  obtain ⟨ads, caps, rfl, s1, s2, s3⟩ := hs.value
  rw [List.length_map] at hs s1 s3
  rw [List.length_map, List.length_map, List.length_map]
  have HS := Lib.hid hs
  have S3 := Lib.hid s3
  have HN := Lib.hid hn9
  have hs63 : S.length ≤ 17592186043904 := hn9
  have HIs := Lib.hid (fun (w2 : World) (M : List HProp) (w0 : World) (v2 : Value) (h2 : RecsAt w2 v2 1 (S.map iC)) (HM : At w0 M w2) => isC (c := c) h2 HM)
  have HIg := Lib.hid (fun (w2 : World) (M : List HProp) (w0 : World) (v2 : Value) (h2 : RecsAt w2 v2 1 (S.map iC)) (HM : At w0 M w2) => isC (c := ⟨f, c.P, c.B, c.K, c.R⟩) h2 HM)
  have HLd := Lib.hid (fun (w2 : World) (M : List HProp) (w0 : World) (v2 : Value) (h2 : RecsAt w2 v2 1 (S.map iC)) (HM : At w0 M w2) => lend (c := c) h2 hn9 HM)
  obtain ⟨T, hT⟩ : ∃ T, rot S (tn % (S.length : Int)).toNat = T := ⟨_, rfl⟩
  have hTp : T.Perm S := by rw [← hT]; exact rot_perm _ _
  have hTl : T.length = S.length := hTp.length_eq
  have HTL := Lib.hid hTl
  have HTP := Lib.hid hTp
  have HTD := Lib.hid hT
  have HMd := Lib.hid (fun (w2 : World) (M : List HProp) (w0 : World) (v2 : Value) (h2 : RecsAt w2 v2 1 (S.map iC)) (HM : At w0 M w2) => made (c := c) h2 hn9 HM)
  have HMg := Lib.hid (fun (w2 : World) (M : List HProp) (w0 : World) (v2 : Value) (h2 : RecsAt w2 v2 1 (S.map iC)) (HM : At w0 M w2) => made (c := ⟨f, c.P, c.B, c.K, c.R⟩) h2 hn9 HM)
  have HMt := Lib.hid (fun (w2 : World) (M : List HProp) (w0 : World) (v2 : Value) (h2 : RecsAt w2 v2 1 (T.map iC)) (HM : At w0 M w2) => made (c := c) h2 (by rw [hTl]; exact hn9) HM)
  obtain ⟨cF, cP, cB, cK, cR⟩ := c
  dsimp only at HIs HIg HLd HMd HMg HMt
  clear hk1 k1 k2 k3 hs s1 s2 s3 hn9 hm1 hm2 n1 n2 n3 hT hTp hTl
  simp only [Cg.cells]
  have Hs6 := Lib.hid (fun (a : Option Addr) (n m : Nat) (F : Int) => show sizeT Try.prog 29 = some ([.slice a n m, .int .i64 F, .int .i64 cP, .int .i64 cB, .int .i64 cK, .int .i64 cR] : List Value).length from s29)
  go_enter Try.func11, Try.ntmps11
  go_wp2_with (first | ((with_reducible refine k_box ?_); refine st_box rfl _ _ rfl _ rfl HF ?_; (clear HF; intro g5 w HF K hK; simp only [Value.cells, Act.eval, Value.cells, Array.getD_eq_getD_getElem?, List.getElem?_toArray, List.getElem?_cons_succ, List.getElem?_cons_zero, Option.getD_some] at HF; go_simp)))
  refine (known HF).mono ?_
  rintro e w1 ⟨rfl, HX⟩
  clear HF
  have HW1 := Lib.hid HX
  have XA := Lib.hid (HX.ext 1 rfl)
  have HX0 := HX.get 0 rfl
  have HB5 := Lib.hid (fun (w4 : World) (hx : Ext w1 w4) j u (hj : ([.slice ads S.length caps, .int .i64 cF, .int .i64 cP, .int .i64 cB, .int .i64 cK, .int .i64 cR] : List Value)[j]? = some u) => hx.cell (cells_of (HX0) j u hj))
  clear HX0 HX
  have HF := At.of w1
  go_wp2_with ((with_reducible refine k_load (T := 29) ?_); refine st_loadCells rfl _ _ rfl _ rfl a29 [.slice ads S.length caps, .int .i64 cF, .int .i64 cP, .int .i64 cB, .int .i64 cK, .int .i64 cR] (Hs6.out _ _ _ _) (HB5.out _ (HF.ext 0 rfl)) ?_; (intro K hK; go_simp))
  refine (HLd.out _ _ _ _ (HS.out.ext (XA.out.trans (HF.ext 0 rfl))) HF).mono ?_
  rintro e w2 ⟨gl, rfl, HX⟩
  clear HF
  have HF := HX
  clear HX
  go_wp2_with (first | ((with_reducible refine k_alloc (T := 29) ?_); refine st_alloc rfl _ rfl _ z29 _ rfl HF ?_; (clear HF; intro g11 w HF K hK; simp only [Value.cells] at HF; go_simp)) | ((with_reducible refine k_store (T := 29) ?_); refine st_put rfl _ _ _ rfl _ rfl _ rfl ?_ s29 HF 0 rfl rfl ?_; (simp [Value.oneCell']); (clear HF; intro w HF K hK; simp only [List.set_cons_zero, List.set_cons_succ, Act.eval, Value.cells, Array.getD_eq_getD_getElem?, List.getElem?_toArray, List.getElem?_cons_succ, List.getElem?_cons_zero, Option.getD_some] at HF; go_simp)))
  go_loopw [12] (fun i wr => ∃ k : Nat, k ≤ S.length ∧ i = .int .i64 k ∧ At w1 (Blk g11 (.cells #[.slice (blkA gl) S.length (S.length + 1), .int .i64 cF, .int .i64 cP, .int .i64 cB, .int .i64 cK, .int .i64 cR] 29 (0, 0)) :: Blk gl (.cells (iCs (mixL T S k) ++ [Value.int .i64 (-77)]).toArray 3 (0, 0)) :: Arg w1 :: []) wr) (fun i _ => S.length - (intOf i).toNat)
  case atStart =>
    refine ⟨0, Nat.zero_le _, rfl, ?_⟩
    have e : mixL T S 0 = S := by unfold mixL; simp
    rw [e]
    exact HF
  case round =>
    clear HF
    obtain ⟨i, hi, rfl, HF⟩ := hrel
    by_cases hlt : i < S.length
    · have gi : (i : Int) < S.length := by omega
      have hnp : (0 : Int) < (S.length : Int) := by omega
      have hr1 := Int.emod_nonneg tn (show (S.length : Int) ≠ 0 by omega)
      have hr2 := Int.emod_lt_of_pos tn hnp
      obtain ⟨rt, hrt⟩ : ∃ rt : Nat, tn % (S.length : Int) = rt := ⟨(tn % (S.length : Int)).toNat, by omega⟩
      have hrl : rt < S.length := by omega
      obtain ⟨m, hm⟩ : ∃ m, (i + rt) % S.length = m := ⟨_, rfl⟩
      have hml : m < S.length := by rw [← hm]; exact Nat.mod_lt _ (by omega)
      obtain ⟨x, hx⟩ : ∃ x, S[m]? = some x := ⟨_, List.getElem?_eq_getElem hml⟩
      have hTi : T[i]? = some x := by
        rw [← HTD.out, hrt, Int.toNat_natCast, rot_get hrl hlt, Nat.add_comm rt i, hm, hx]
      have HST := Lib.hid (mix_store HTL.out hTi (Value.int .i64 (-77)))
      have hsz : i < (iCs (mixL T S i) ++ [Value.int .i64 (-77)]).toArray.size := by
        rw [List.size_toArray, List.length_append, iCs_len, mixL_len HTL.out hi]
        simp
        omega
      have HSZ := Lib.hid hsz
      obtain ⟨bs, rfl⟩ := S3.out (by omega)
      have Hx := Lib.hid (fun (w4 : World) (hx4 : Ext w1 w4) => hx4.cell (XA.out.cell (recs_int HS.out hx)))
      have HTn := Lib.hid (fun (w4 : World) (M : List HProp) (HM : At w1 M w4) => turnIn HM tn S.length hnp (by omega))
      rw [hrt] at HTn
      obtain ⟨s, hs⟩ : ∃ s, i + rt = s := ⟨_, rfl⟩
      have hw1 : IntKind.i64.wrap ((i : Int) + (rt : Nat)) = (s : Nat) := by rw [IntWalk.i64_in _ (by omega)]; omega
      have hrem : ((s : Nat) : Int).tmod (S.length : Int) = (m : Nat) := by
        rw [Int.tmod_eq_emod_of_nonneg (by omega), ← hm, hs]
        exact (Int.natCast_emod _ _).symm
      have gm : (m : Int) < S.length := by omega
      have hnil : ¬ S = [] := by rintro rfl; exact absurd hlt (by simp)
      have hnz : ¬ (S.length : Int) = 0 := by omega
      clear hr1 hr2 hrt hm hx hTi hsz hs hrl
      go_wp2_with (first | ((with_reducible refine k_load ?_); refine st_load1 rfl _ _ rfl _ rfl rfl (HB5.out _ (HF.ext 2 rfl) 0 _ rfl) ?_; (intro K hK; go_simp)))
      apply wp_region_eff [19] (fun i => (#[[], [], [], [], [], [], [], [], [], [], [], [], [], [], [], [], [], [], [], []] : Array (List Nat)).getD i []) (fun val i => ((_ :: .slice (blkA gl) S.length (S.length + 1) :: _ :: _ :: .slice (some bs) S.length caps :: _ :: _ :: _ :: .slice (some bs) S.length caps :: .int .i64 S.length :: .int .i64 (rt : Nat) :: .int .i64 (s : Nat) :: _ :: .slice (some bs) S.length caps :: .int .i64 S.length :: .int .i64 (m : Nat) :: _ :: .int .i64 x :: _ :: val 19 :: []) : List Value).toArray.getD i undef) (fun E val => At w1 (Blk g11 (.cells #[.slice (blkA gl) S.length (S.length + 1), .int .i64 cF, .int .i64 cP, .int .i64 cB, .int .i64 cK, .int .i64 cR] 29 (0, 0)) :: Blk gl (.cells (if E 19 = true then (iCs (mixL T S (i + 1)) ++ [Value.int .i64 (-77)]).toArray else (iCs (mixL T S i) ++ [Value.int .i64 (-77)]).toArray) 3 (0, 0)) :: Arg w1 :: [])) (by kernel_rfl) (by kernel_rfl) (by kernel_rfl) (by kernel_rfl) (HF)
      case step =>
        iterate 19 (refine ⟨eff_pl rfl (fun _ => by rfl) fun E val hn T ds w K H hk ho hK => ?_, ?_⟩; rotate_left)
        refine ⟨eff_mk rfl (fun _ => by rfl) fun E val hE0 hcl hn T ds w K H hk ho hK => ?_, ?_⟩; rotate_left
        exact trivial
        · have o11 := ho 11 (by kernel_rfl); clear ho; simp [know, dstAt, Region.binds] at hk o11; go_simp; exact hK _ H
        · clear ho; simp [know, dstAt, Region.binds] at hk
          (refine op_loadT rfl hk ?_ H 0 rfl rfl ?_; (kernel_rfl); exact hK _ H)
        · have o12 := ho 12 (by kernel_rfl); clear ho; simp [know, dstAt, Region.binds] at hk o12; go_simp; exact hK _ H
        · have o5 := ho 5 (by kernel_rfl); clear ho; simp [know, dstAt, Region.binds] at hk o5; go_simp; exact hK _ H
        · clear ho; simp [know, dstAt, Region.binds] at hk
          (refine op_load1T rfl hk (by kernel_rfl) (HB5.out _ (H.ext 2 rfl) 0 _ rfl) ?_; exact hK _ H)
        · have o12 := ho 12 (by kernel_rfl); clear ho; simp [know, dstAt, Region.binds] at hk o12; go_simp; exact hK _ H
        · have o2 := ho 2 (by kernel_rfl); clear ho; simp [know, dstAt, Region.binds] at hk o2; go_simp; exact hK _ H
        · have o5 := ho 5 (by kernel_rfl); clear ho; simp [know, dstAt, Region.binds] at hk o5; go_simp; exact hK _ H
        · clear ho; simp [know, dstAt, Region.binds] at hk
          (refine op_load1T rfl hk (by kernel_rfl) (HB5.out _ (H.ext 2 rfl) 0 _ rfl) ?_; exact hK _ H)
        · clear ho; simp [know, dstAt, Region.binds] at hk; go_simp; exact hK _ H
        · clear ho; simp [know, dstAt, Region.binds] at hk
          (go_simp; refine (HTn.out _ _ H).mono ?_; rintro e w' ⟨rfl, H⟩; exact hK _ H)
        · clear ho; simp [know, dstAt, Region.binds] at hk; go_simp; exact hK _ H
        · have o5 := ho 5 (by kernel_rfl); clear ho; simp [know, dstAt, Region.binds] at hk o5; go_simp; exact hK _ H
        · clear ho; simp [know, dstAt, Region.binds] at hk
          (refine op_load1T rfl hk (by kernel_rfl) (HB5.out _ (H.ext 2 rfl) 0 _ rfl) ?_; exact hK _ H)
        · clear ho; simp [know, dstAt, Region.binds] at hk; go_simp; exact hK _ H
        · clear ho; simp [know, dstAt, Region.binds] at hk; go_simp; exact hK _ H
        · clear ho; simp [know, dstAt, Region.binds] at hk; go_simp; exact hK _ H
        · clear ho; simp [know, dstAt, Region.binds] at hk
          (refine op_load1T rfl hk (by kernel_rfl) (Hx.out _ (H.ext 2 rfl)) ?_; exact hK _ H)
        · clear ho; simp [know, dstAt, Region.binds] at hk; go_simp; exact hK _ H
        · clear ho; simp [know, dstAt, Region.binds] at hk
          (simp only [hE0, Bool.false_eq_true, if_false] at H); refine op_storeT rfl hk.1 hk.2.1 rfl (by kernel_rfl) H 1 rfl HSZ.out ?_; (intro w' H2; refine hK _ _ ?_; have t19 : updE E 19 19 = true := rfl; simp only [t19, if_true]; simp only [List.set_cons_succ, List.set_cons_zero] at H2; rw [HST.out] at H2; exact H2)
      case ins =>
        iterate 19 (refine ⟨ins_pl rfl (fun _ _ _ => rfl), ?_⟩)
        refine ⟨ins_mk rfl (fun _ => rfl), ?_⟩
        exact trivial
      case jns =>
        iterate 19 (refine ⟨j_pl (fun _ _ _ => rfl), ?_⟩)
        refine ⟨j_mk rfl, ?_⟩
        exact trivial
      case fin =>
        intro E val w5 hE H
        have e19 := hE 19 (by decide)
        simp only [e19, if_true] at H
        clear HF hE e19 hw1 hrem gm hnil hnz
        have HF := H
        clear H
        simp [putAll, Act.put]
        go_wp2_with fail
        go_roundw
        case rel => exact ⟨i + 1, by omega, rfl, HF⟩
        case measure => simp [intOf]; omega
    · have gi : ¬ (i : Int) < S.length := by omega
      have e : mixL T S i = T := by
        unfold mixL
        rw [List.take_of_length_le (by have := HTL.out; omega), List.drop_of_length_le (by omega), List.append_nil]
      rw [e] at HF
      clear e
      go_wp2_with (first | ((with_reducible refine k_load (T := 29) ?_); refine st_loadCells rfl _ _ rfl _ rfl a29 [.slice ads S.length caps, .int .i64 cF, .int .i64 cP, .int .i64 cB, .int .i64 cK, .int .i64 cR] (Hs6.out _ _ _ _) (HB5.out _ (HF.ext 2 rfl)) ?_; (intro K hK; go_simp))          | ((with_reducible refine k_load ?_); refine st_load1 rfl _ _ rfl _ rfl rfl (HB5.out _ (HF.ext 2 rfl) 0 _ rfl) ?_; (intro K hK; go_simp)))
      refine (HLd.out _ _ _ _ (HS.out.ext (XA.out.trans (HF.ext 2 rfl))) HF).mono ?_
      rintro e w3 ⟨gl2, rfl, HX⟩
      clear HF HLd
      have HF := HX
      clear HX
      go_wp2_with (first | ((with_reducible refine k_alloc (T := 29) ?_); refine st_alloc rfl _ rfl _ z29 _ rfl HF ?_; (clear HF; intro g13 w HF K hK; simp only [Value.cells] at HF; go_simp)) | ((with_reducible refine k_store (T := 29) ?_); refine st_put rfl _ _ _ rfl _ rfl _ rfl ?_ s29 HF 0 rfl rfl ?_; (simp [Value.oneCell']); (clear HF; intro w HF K hK; simp only [List.set_cons_zero, List.set_cons_succ, Act.eval, Value.cells, Array.getD_eq_getD_getElem?, List.getElem?_toArray, List.getElem?_cons_succ, List.getElem?_cons_zero, Option.getD_some] at HF; go_simp)) | ((with_reducible refine k_store ?_); refine st_store rfl _ _ _ rfl _ _ rfl _ rfl rfl ?_ HF 0 rfl ?_ ?_; (kernel_rfl); (simp); (clear HF; intro w HF K hK; simp only [List.set_cons_zero, List.set_cons_succ, List.setIfInBounds_toArray, Act.eval, Value.cells, Array.getD_eq_getD_getElem?, List.getElem?_toArray, List.getElem?_cons_succ, List.getElem?_cons_zero, Option.getD_some] at HF; go_simp))          | ((with_reducible refine k_load (T := 29) ?_); refine st_loadCells rfl _ _ rfl _ rfl a29 [.slice ads S.length caps, .int .i64 cF, .int .i64 cP, .int .i64 cB, .int .i64 cK, .int .i64 cR] (Hs6.out _ _ _ _) (HB5.out _ (HF.ext 4 rfl)) ?_; (intro K hK; go_simp)))
      have HX : At w1 (Blk g13 (.cells #[.slice (blkA gl2) S.length (S.length + 1), .int .i64 f, .int .i64 cP, .int .i64 cB, .int .i64 cK, .int .i64 cR] 29 (0, 0)) :: Blk gl2 (.cells (iCs S ++ [Value.int .i64 (-77)]).toArray 3 (0, 0)) :: Blk g11 (.cells #[.slice (blkA gl) S.length (S.length + 1), .int .i64 cF, .int .i64 cP, .int .i64 cB, .int .i64 cK, .int .i64 cR] 29 (0, 0)) :: Blk gl (.cells (iCs T ++ [Value.int .i64 (-77)]).toArray 3 (0, 0)) :: Arg w1 :: []) _ := HF
      obtain ⟨w4, hw4⟩ : ∃ w4, w = w4 := ⟨_, rfl⟩
      subst hw4
      clear HF
      have hX0 := HX.get 0 rfl
      have hX2 := HX.get 2 rfl
      have RG := Lib.hid (lent_recs HN.out (HX.pick 1 rfl))
      have hRT := lent_recs (S := T) (by rw [HTL.out]; exact HN.out) (HX.pick 3 rfl)
      rw [HTL.out] at hRT
      have RT := Lib.hid hRT
      have HB13 := Lib.hid (fun (w4 : World) (hx : Ext w w4) j u (hj : ([.slice (blkA gl2) S.length (S.length + 1), .int .i64 f, .int .i64 cP, .int .i64 cB, .int .i64 cK, .int .i64 cR] : List Value)[j]? = some u) => hx.cell (cells_of (hX0) j u hj))
      have HB11 := Lib.hid (fun (w4 : World) (hx : Ext w w4) j u (hj : ([.slice (blkA gl) S.length (S.length + 1), .int .i64 cF, .int .i64 cP, .int .i64 cB, .int .i64 cK, .int .i64 cR] : List Value)[j]? = some u) => hx.cell (cells_of (hX2) j u hj))
      have X14 := Lib.hid (HX.ext 4 rfl)
      have HW4 := Lib.hid HX
      clear hX0 hX2 hRT HX
      have HF := At.of w
      have HEND := Lib.hid (fun (w' : World) (H : At w [Arg w] w') => (((H.lift0 HW4.out).sel 5 [4]).lift0 HW1.out).below 1 rfl)
      clear HTD
      go_wp2_with ((with_reducible refine k_load (T := 29) ?_); (first | refine st_loadCells rfl _ _ rfl _ rfl a29 [.slice ads S.length caps, .int .i64 cF, .int .i64 cP, .int .i64 cB, .int .i64 cK, .int .i64 cR] (Hs6.out _ _ _ _) (HB5.out _ (X14.out.trans (HF.ext 0 rfl))) ?_ | refine st_loadCells rfl _ _ rfl _ rfl a29 [.slice (blkA gl2) S.length (S.length + 1), .int .i64 f, .int .i64 cP, .int .i64 cB, .int .i64 cK, .int .i64 cR] (Hs6.out _ _ _ _) (HB13.out _ (HF.ext 0 rfl)) ?_ | refine st_loadCells rfl _ _ rfl _ rfl a29 [.slice (blkA gl) S.length (S.length + 1), .int .i64 cF, .int .i64 cP, .int .i64 cB, .int .i64 cK, .int .i64 cR] (Hs6.out _ _ _ _) (HB11.out _ (HF.ext 0 rfl)) ?_); (intro K hK; go_simp))
      refine (HIs.out _ _ _ _ (HS.out.ext (XA.out.trans (X14.out.trans (HF.ext 0 rfl)))) HF).mono ?_
      rintro e w5 ⟨b1, rfl, hb1, HX⟩
      clear HF HIs
      have HF := HX
      clear HX
      have HB1 := Lib.hid hb1
      clear hb1
      cases b1 with
      | false =>
        go_wp2_with fail
        go_ret
        exact ⟨rfl, HEND.out _ HF⟩
      | true =>
      go_wp2_with ((with_reducible refine k_load (T := 29) ?_); (first | refine st_loadCells rfl _ _ rfl _ rfl a29 [.slice ads S.length caps, .int .i64 cF, .int .i64 cP, .int .i64 cB, .int .i64 cK, .int .i64 cR] (Hs6.out _ _ _ _) (HB5.out _ (X14.out.trans (HF.ext 0 rfl))) ?_ | refine st_loadCells rfl _ _ rfl _ rfl a29 [.slice (blkA gl2) S.length (S.length + 1), .int .i64 f, .int .i64 cP, .int .i64 cB, .int .i64 cK, .int .i64 cR] (Hs6.out _ _ _ _) (HB13.out _ (HF.ext 0 rfl)) ?_ | refine st_loadCells rfl _ _ rfl _ rfl a29 [.slice (blkA gl) S.length (S.length + 1), .int .i64 cF, .int .i64 cP, .int .i64 cB, .int .i64 cK, .int .i64 cR] (Hs6.out _ _ _ _) (HB11.out _ (HF.ext 0 rfl)) ?_); (intro K hK; go_simp))
      refine (HIg.out _ _ _ _ (RG.out.ext (HF.ext 0 rfl)) HF).mono ?_
      rintro e w6 ⟨b2, rfl, hb2, HX⟩
      clear HF HIg
      have HF := HX
      clear HX
      have HB2 := Lib.hid hb2
      clear hb2
      cases b2 with
      | false =>
        go_wp2_with fail
        go_ret
        exact ⟨rfl, HEND.out _ HF⟩
      | true =>
      have hRC := HB1.out.1 (by first | rfl | trivial)
      have hRG := HB2.out.1 (by first | rfl | trivial)
      clear HB1 HB2
      have HRC := Lib.hid hRC
      have HRG := Lib.hid hRG
      clear hRC hRG
      go_wp2_with ((with_reducible refine k_load (T := 29) ?_); (first | refine st_loadCells rfl _ _ rfl _ rfl a29 [.slice ads S.length caps, .int .i64 cF, .int .i64 cP, .int .i64 cB, .int .i64 cK, .int .i64 cR] (Hs6.out _ _ _ _) (HB5.out _ (X14.out.trans (HF.ext 0 rfl))) ?_ | refine st_loadCells rfl _ _ rfl _ rfl a29 [.slice (blkA gl2) S.length (S.length + 1), .int .i64 f, .int .i64 cP, .int .i64 cB, .int .i64 cK, .int .i64 cR] (Hs6.out _ _ _ _) (HB13.out _ (HF.ext 0 rfl)) ?_ | refine st_loadCells rfl _ _ rfl _ rfl a29 [.slice (blkA gl) S.length (S.length + 1), .int .i64 cF, .int .i64 cP, .int .i64 cB, .int .i64 cK, .int .i64 cR] (Hs6.out _ _ _ _) (HB11.out _ (HF.ext 0 rfl)) ?_); (intro K hK; go_simp))
      refine (HMd.out _ _ _ _ (HS.out.ext (XA.out.trans (X14.out.trans (HF.ext 0 rfl)))) HF).mono ?_
      rintro e w7 (⟨_, g1, rfl, HX⟩ | ⟨hRC, _⟩)
      case inr => exact absurd HRC.out hRC
      clear HF HMd
      have HF := HX
      clear HX
      go_wp2_with ((with_reducible refine k_load (T := 29) ?_); (first | refine st_loadCells rfl _ _ rfl _ rfl a29 [.slice ads S.length caps, .int .i64 cF, .int .i64 cP, .int .i64 cB, .int .i64 cK, .int .i64 cR] (Hs6.out _ _ _ _) (HB5.out _ (X14.out.trans (HF.ext 1 rfl))) ?_ | refine st_loadCells rfl _ _ rfl _ rfl a29 [.slice (blkA gl2) S.length (S.length + 1), .int .i64 f, .int .i64 cP, .int .i64 cB, .int .i64 cK, .int .i64 cR] (Hs6.out _ _ _ _) (HB13.out _ (HF.ext 1 rfl)) ?_ | refine st_loadCells rfl _ _ rfl _ rfl a29 [.slice (blkA gl) S.length (S.length + 1), .int .i64 cF, .int .i64 cP, .int .i64 cB, .int .i64 cK, .int .i64 cR] (Hs6.out _ _ _ _) (HB11.out _ (HF.ext 1 rfl)) ?_); (intro K hK; go_simp))
      refine (HMt.out _ _ _ _ (RT.out.ext (HF.ext 1 rfl)) HF).mono ?_
      rintro e w8 (⟨_, g2, rfl, HX⟩ | ⟨hRC, _⟩)
      case inr => exact absurd (rightC_perm HRC.out HTP.out) hRC
      clear HF HMt
      have HF := HX
      clear HX
      go_wp2_with ((with_reducible refine k_load (T := 29) ?_); (first | refine st_loadCells rfl _ _ rfl _ rfl a29 [.slice ads S.length caps, .int .i64 cF, .int .i64 cP, .int .i64 cB, .int .i64 cK, .int .i64 cR] (Hs6.out _ _ _ _) (HB5.out _ (X14.out.trans (HF.ext 2 rfl))) ?_ | refine st_loadCells rfl _ _ rfl _ rfl a29 [.slice (blkA gl2) S.length (S.length + 1), .int .i64 f, .int .i64 cP, .int .i64 cB, .int .i64 cK, .int .i64 cR] (Hs6.out _ _ _ _) (HB13.out _ (HF.ext 2 rfl)) ?_ | refine st_loadCells rfl _ _ rfl _ rfl a29 [.slice (blkA gl) S.length (S.length + 1), .int .i64 cF, .int .i64 cP, .int .i64 cB, .int .i64 cK, .int .i64 cR] (Hs6.out _ _ _ _) (HB11.out _ (HF.ext 2 rfl)) ?_); (intro K hK; go_simp))
      refine (HMg.out _ _ _ _ (RG.out.ext (HF.ext 2 rfl)) HF).mono ?_
      rintro e w9 (⟨_, g3, rfl, HX⟩ | ⟨hRC, _⟩)
      case inr => exact absurd HRG.out hRC
      clear HF HMg
      have hTS : sortI T = sortI S := sortI_perm_eq HTP.out
      rw [hTS] at HX
      have hP := pts_ok HRC.out
      have hPg := pts_ok HRG.out
      dsimp only at HX hP hPg
      have hSl : (sortI S).length ≤ 64 := by rw [(sortI_perm S).length_eq]; have := HRC.out.n; omega
      obtain ⟨pts, hpts⟩ : ∃ pts, sortP (ptsOf (sortI S) cP.toNat) = pts := ⟨_, rfl⟩
      obtain ⟨SS, hSS⟩ : ∃ SS, sortI S = SS := ⟨_, rfl⟩
      rw [hpts] at hP hPg HX
      rw [hSS] at HX hSl
      clear hpts hSS hTS
      have HP := Lib.hid hP
      have HPg := Lib.hid hPg
      have HSl := Lib.hid (show SS.length ≤ 100000 by omega)
      have HRF := Lib.hid HRC.out.f
      have HRFg := Lib.hid HRG.out.f
      have HRB := Lib.hid HRC.out.b
      have R3 := Lib.hid (rgf_of (HX.pick 0 rfl))
      have R2 := Lib.hid (rgf_of (HX.pick 1 rfl))
      have R1 := Lib.hid (rgf_of (HX.pick 2 rfl))
      have HW9 := Lib.hid HX
      have Y5 := Lib.hid (X14.out.trans (HX.ext 3 rfl))
      have YA := Lib.hid (XA.out.trans Y5.out)
      clear hP hPg hSl HX
      have HF := At.of w9
      go_wp2_with fail
      refine (cfg R1.out HSl.out HF).mono ?_
      rintro e w10 ⟨r1, rfl, HX⟩
      clear HF
      obtain ⟨a1, n1, m1, hv1, _, HF⟩ := cfg_open HX
      subst hv1
      clear HX
      go_wp2_with fail
      refine (cfg (R2.out.ext (HF.ext 1 rfl)) HSl.out HF).mono ?_
      rintro e w11 ⟨r2, rfl, HX⟩
      clear HF
      obtain ⟨a2, n2, m2, hv2, _, HF⟩ := cfg_open HX
      subst hv2
      clear HX
      go_wp2_with fail
      refine (sameConfig (c := ⟨cF, cP, cB, cK, cR⟩) (oi_recs (HF.pick 1 rfl)) (oi_recs HF) HF).mono ?_
      rintro e w12 ⟨rfl, HX⟩
      clear HF
      have HF := HX.sel 3 [2]
      clear HX
      go_wp2_with fail
      go_loopw [17] (fun i wr => ∃ m : Nat, m ≤ S.length ∧ i = .int .i64 m ∧ At w9 (Arg w9 :: []) wr) (fun i _ => S.length - (intOf i).toNat)
      case atStart => exact ⟨0, Nat.zero_le _, rfl, HF⟩
      case round =>
        clear HF
        obtain ⟨m, hm, rfl, HF⟩ := hrel
        by_cases hml : m < S.length
        · have gm : (m : Int) < S.length := by omega
          obtain ⟨x, hx⟩ : ∃ x, S[m]? = some x := ⟨_, List.getElem?_eq_getElem hml⟩
          obtain ⟨bs, rfl⟩ := S3.out (by omega)
          have Hx := Lib.hid (fun (w4 : World) (hx4 : Ext w9 w4) => hx4.cell (YA.out.cell (recs_int HS.out hx)))
          have Hc5 := Lib.hid (fun (w4 : World) (hx4 : Ext w9 w4) => HB5.out w4 (Y5.out.trans hx4) 0 _ rfl)
          have hcb := count_b HP.out.s HP.out.b HP.out.p x
          have hq := share_word hcb.1 hcb.2
          have hro := order_sh (a := (countS pts x).toNat) (b := (countS pts x).toNat) (by omega) (by omega)
          rw [Nat.compare_eq_eq.2 rfl] at hro
          have HSh1 := Lib.hid (fun (w3 : World) (M : List HProp) (hx : Ext w9 w3) (HM : At w9 M w3) => share (R1.out.ext hx) HP.out.b HP.out.l HP.out.p x hq HM)
          have HSh2 := Lib.hid (fun (w3 : World) (M : List HProp) (hx : Ext w9 w3) (HM : At w9 M w3) => share (R2.out.ext hx) HP.out.b HP.out.l HP.out.p x hq HM)
          have HSh3 := Lib.hid (fun (w3 : World) (M : List HProp) (hx : Ext w9 w3) (HM : At w9 M w3) => share (R3.out.ext hx) HP.out.b HP.out.l HP.out.p x hq HM)
          obtain ⟨r, hr⟩ : ∃ r, shB (countS pts x).toNat = r := ⟨_, rfl⟩
          rw [hr] at hro HSh1 HSh2 HSh3
          clear hcb hr hq hx
          have hne : (FloatKind.f64.format.order r r != some .eq) = false := by
            have e : FloatKind.f64.format.order r r = some .eq := hro
            rw [e]; rfl
          clear hro
          go_wp2_with (first | ((with_reducible refine k_load ?_); refine st_load1 rfl _ _ rfl _ rfl rfl (Hc5.out _ (HF.ext 0 rfl)) ?_; (intro K hK; go_simp)))
          apply wp_region_eff [] (fun i => (#[[], [], [], [], [], [], [], [], [], [], [], [], [], [], [], [], [], [], [], [], [], [], [], [], [], [], [], [], [], [], [], []] : Array (List Nat)).getD i []) (fun val i => ((_ :: _ :: .slice (some bs) S.length caps :: _ :: _ :: .int .i64 x :: .float .f64 r :: _ :: _ :: .slice (some bs) S.length caps :: _ :: _ :: .int .i64 x :: .float .f64 r :: .bool false :: .bool false :: _ :: _ :: .slice (some bs) S.length caps :: _ :: _ :: .int .i64 x :: .float .f64 r :: _ :: _ :: .slice (some bs) S.length caps :: _ :: _ :: .int .i64 x :: .float .f64 r :: .bool false :: .bool false :: []) : List Value).toArray.getD i undef) (fun E val => At w9 (Arg w9 :: [])) (by kernel_rfl) (by kernel_rfl) (by kernel_rfl) (by kernel_rfl) (HF)
          case step =>
            iterate 32 (refine ⟨eff_pl rfl (fun _ => by rfl) fun E val hn T ds w K H hk ho hK => ?_, ?_⟩; rotate_left)
            exact trivial
            · have o14 := ho 14 (by kernel_rfl); clear ho; simp [know, dstAt, Region.binds] at hk o14; go_simp; exact hK _ H
            · have o5 := ho 5 (by kernel_rfl); clear ho; simp [know, dstAt, Region.binds] at hk o5; go_simp; exact hK _ H
            · clear ho; simp [know, dstAt, Region.binds] at hk
              (refine op_load1T rfl hk (by kernel_rfl) (Hc5.out _ (H.ext 0 rfl)) ?_; exact hK _ H)
            · have o17 := ho 17 (by kernel_rfl); clear ho; simp [know, dstAt, Region.binds] at hk o17; go_simp; exact hK _ H
            · clear ho; simp [know, dstAt, Region.binds] at hk; go_simp; exact hK _ H
            · clear ho; simp [know, dstAt, Region.binds] at hk
              (refine op_load1T rfl hk (by kernel_rfl) (Hx.out _ (H.ext 0 rfl)) ?_; exact hK _ H)
            · clear ho; simp [know, dstAt, Region.binds] at hk
              (go_simp; refine (HSh1.out _ _ (H.ext 0 rfl) H).mono ?_; rintro e w' ⟨rfl, H⟩; exact hK _ H)
            · have o15 := ho 15 (by kernel_rfl); clear ho; simp [know, dstAt, Region.binds] at hk o15; go_simp; exact hK _ H
            · have o5 := ho 5 (by kernel_rfl); clear ho; simp [know, dstAt, Region.binds] at hk o5; go_simp; exact hK _ H
            · clear ho; simp [know, dstAt, Region.binds] at hk
              (refine op_load1T rfl hk (by kernel_rfl) (Hc5.out _ (H.ext 0 rfl)) ?_; exact hK _ H)
            · have o17 := ho 17 (by kernel_rfl); clear ho; simp [know, dstAt, Region.binds] at hk o17; go_simp; exact hK _ H
            · clear ho; simp [know, dstAt, Region.binds] at hk; go_simp; exact hK _ H
            · clear ho; simp [know, dstAt, Region.binds] at hk
              (refine op_load1T rfl hk (by kernel_rfl) (Hx.out _ (H.ext 0 rfl)) ?_; exact hK _ H)
            · clear ho; simp [know, dstAt, Region.binds] at hk
              (go_simp; refine (HSh2.out _ _ (H.ext 0 rfl) H).mono ?_; rintro e w' ⟨rfl, H⟩; exact hK _ H)
            · clear ho; simp [know, dstAt, Region.binds] at hk; go_simp; exact hK _ H
            · clear ho; simp [know, dstAt, Region.binds] at hk; go_simp; exact hK _ H
            · have o14 := ho 14 (by kernel_rfl); clear ho; simp [know, dstAt, Region.binds] at hk o14; go_simp; exact hK _ H
            · have o5 := ho 5 (by kernel_rfl); clear ho; simp [know, dstAt, Region.binds] at hk o5; go_simp; exact hK _ H
            · clear ho; simp [know, dstAt, Region.binds] at hk
              (refine op_load1T rfl hk.1 (by kernel_rfl) (Hc5.out _ (H.ext 0 rfl)) ?_; exact hK _ H)
            · have o17 := ho 17 (by kernel_rfl); clear ho; simp [know, dstAt, Region.binds] at hk o17; go_simp; exact hK _ H
            · clear ho; simp [know, dstAt, Region.binds] at hk; go_simp; exact hK _ H
            · clear ho; simp [know, dstAt, Region.binds] at hk
              (refine op_load1T rfl hk.1 (by kernel_rfl) (Hx.out _ (H.ext 0 rfl)) ?_; exact hK _ H)
            · clear ho; simp [know, dstAt, Region.binds] at hk
              (go_simp; refine (HSh1.out _ _ (H.ext 0 rfl) H).mono ?_; rintro e w' ⟨rfl, H⟩; exact hK _ H)
            · have o16 := ho 16 (by kernel_rfl); clear ho; simp [know, dstAt, Region.binds] at hk o16; go_simp; exact hK _ H
            · have o5 := ho 5 (by kernel_rfl); clear ho; simp [know, dstAt, Region.binds] at hk o5; go_simp; exact hK _ H
            · clear ho; simp [know, dstAt, Region.binds] at hk
              (refine op_load1T rfl hk.1 (by kernel_rfl) (Hc5.out _ (H.ext 0 rfl)) ?_; exact hK _ H)
            · have o17 := ho 17 (by kernel_rfl); clear ho; simp [know, dstAt, Region.binds] at hk o17; go_simp; exact hK _ H
            · clear ho; simp [know, dstAt, Region.binds] at hk; go_simp; exact hK _ H
            · clear ho; simp [know, dstAt, Region.binds] at hk
              (refine op_load1T rfl hk.1 (by kernel_rfl) (Hx.out _ (H.ext 0 rfl)) ?_; exact hK _ H)
            · clear ho; simp [know, dstAt, Region.binds] at hk
              (go_simp; refine (HSh3.out _ _ (H.ext 0 rfl) H).mono ?_; rintro e w' ⟨rfl, H⟩; exact hK _ H)
            · clear ho; simp [know, dstAt, Region.binds] at hk; go_simp; exact hK _ H
            · clear ho; simp [know, dstAt, Region.binds] at hk; go_simp; exact hK _ H
          case ins =>
            iterate 32 (refine ⟨ins_pl rfl (fun _ _ _ => rfl), ?_⟩)
            exact trivial
          case jns =>
            iterate 32 (refine ⟨j_pl (fun _ _ _ => rfl), ?_⟩)
            exact trivial
          case fin =>
            intro E val w5 hE H
            clear HF hE hne
            have HF := H
            clear H
            simp [putAll, Act.put]
            go_wp2_with fail
            go_roundw
            case rel => exact ⟨m + 1, by omega, rfl, HF⟩
            case measure => simp [intOf]; omega
        · have gm : ¬ (m : Int) < S.length := by omega
          have Hc5 := Lib.hid (fun (w4 : World) (hx4 : Ext w9 w4) => HB5.out w4 (Y5.out.trans hx4) 0 _ rfl)
          go_wp2_with (first | ((with_reducible refine k_load ?_); refine st_load1 rfl _ _ rfl _ rfl rfl (Hc5.out _ (HF.ext 0 rfl)) ?_; (intro K hK; go_simp)))
          go_loopw [18] (fun i wr => ∃ k : Nat, k ≤ ns.length ∧ i = .int .i64 k ∧ At w9 (Arg w9 :: []) wr) (fun i _ => ns.length - (intOf i).toNat)
          case atStart => exact ⟨0, Nat.zero_le _, rfl, HF⟩
          case round =>
            clear HF
            obtain ⟨k, hk, rfl, HF⟩ := hrel
            by_cases hkl : k < ns.length
            · have gk : (k : Int) < ns.length := by omega
              obtain ⟨x, hx⟩ : ∃ x, ns[k]? = some x := ⟨_, List.getElem?_eq_getElem hkl⟩
              obtain ⟨bn, rfl⟩ := N3.out (by omega)
              have Hx := Lib.hid (fun (w4 : World) (hx4 : Ext w9 w4) => hx4.cell (YA.out.cell (recs_str HM.out hx)))
              have hxs := HM2.out x (List.mem_of_getElem? hx)
              have HBu1 := Lib.hid (fun (w3 : World) (M : List HProp) (hx : Ext w9 w3) (HM : At w9 M w3) => bucketP (R1.out.ext hx) HRB.out x hxs HM)
              have HBu2 := Lib.hid (fun (w3 : World) (M : List HProp) (hx : Ext w9 w3) (HM : At w9 M w3) => bucketP (R2.out.ext hx) HRB.out x hxs HM)
              have HBu3 := Lib.hid (fun (w3 : World) (M : List HProp) (hx : Ext w9 w3) (HM : At w9 M w3) => bucketP (R3.out.ext hx) HRB.out x hxs HM)
              obtain ⟨r, hr⟩ : ∃ r, (textS x : Int) % cB = r := ⟨_, rfl⟩
              dsimp only at HBu1 HBu2 HBu3
              rw [hr] at HBu1 HBu2 HBu3
              clear hr hx hxs
              go_wp2_with fail
              apply wp_region_eff [] (fun i => (#[[], [], [], [], [], [], [], [], [], [], [], [], [], [], [], [], [], [], [], [], [], [], [], [], [], [], [], []] : Array (List Nat)).getD i []) (fun val i => ((_ :: _ :: _ :: _ :: .string x :: .int .i64 r :: _ :: _ :: _ :: _ :: .string x :: .int .i64 r :: .bool false :: .bool false :: _ :: _ :: _ :: _ :: .string x :: .int .i64 r :: _ :: _ :: _ :: _ :: .string x :: .int .i64 r :: .bool false :: .bool false :: []) : List Value).toArray.getD i undef) (fun E val => At w9 (Arg w9 :: [])) (by kernel_rfl) (by kernel_rfl) (by kernel_rfl) (by kernel_rfl) (HF)
              case step =>
                iterate 28 (refine ⟨eff_pl rfl (fun _ => by rfl) fun E val hn T ds w K H hk ho hK => ?_, ?_⟩; rotate_left)
                exact trivial
                · have o14 := ho 14 (by kernel_rfl); clear ho; simp [know, dstAt, Region.binds] at hk o14; go_simp; exact hK _ H
                · have o4 := ho 4 (by kernel_rfl); clear ho; simp [know, dstAt, Region.binds] at hk o4; go_simp; exact hK _ H
                · have o18 := ho 18 (by kernel_rfl); clear ho; simp [know, dstAt, Region.binds] at hk o18; go_simp; exact hK _ H
                · clear ho; simp [know, dstAt, Region.binds] at hk; go_simp; exact hK _ H
                · clear ho; simp [know, dstAt, Region.binds] at hk
                  (refine op_load1T rfl hk (by kernel_rfl) (Hx.out _ (H.ext 0 rfl)) ?_; exact hK _ H)
                · clear ho; simp [know, dstAt, Region.binds] at hk
                  (go_simp; refine (HBu1.out _ _ (H.ext 0 rfl) H).mono ?_; rintro e w' ⟨rfl, H⟩; exact hK _ H)
                · have o15 := ho 15 (by kernel_rfl); clear ho; simp [know, dstAt, Region.binds] at hk o15; go_simp; exact hK _ H
                · have o4 := ho 4 (by kernel_rfl); clear ho; simp [know, dstAt, Region.binds] at hk o4; go_simp; exact hK _ H
                · have o18 := ho 18 (by kernel_rfl); clear ho; simp [know, dstAt, Region.binds] at hk o18; go_simp; exact hK _ H
                · clear ho; simp [know, dstAt, Region.binds] at hk; go_simp; exact hK _ H
                · clear ho; simp [know, dstAt, Region.binds] at hk
                  (refine op_load1T rfl hk (by kernel_rfl) (Hx.out _ (H.ext 0 rfl)) ?_; exact hK _ H)
                · clear ho; simp [know, dstAt, Region.binds] at hk
                  (go_simp; refine (HBu2.out _ _ (H.ext 0 rfl) H).mono ?_; rintro e w' ⟨rfl, H⟩; exact hK _ H)
                · clear ho; simp [know, dstAt, Region.binds] at hk; go_simp; exact hK _ H
                · clear ho; simp [know, dstAt, Region.binds] at hk; go_simp; exact hK _ H
                · have o14 := ho 14 (by kernel_rfl); clear ho; simp [know, dstAt, Region.binds] at hk o14; go_simp; exact hK _ H
                · have o4 := ho 4 (by kernel_rfl); clear ho; simp [know, dstAt, Region.binds] at hk o4; go_simp; exact hK _ H
                · have o18 := ho 18 (by kernel_rfl); clear ho; simp [know, dstAt, Region.binds] at hk o18; go_simp; exact hK _ H
                · clear ho; simp [know, dstAt, Region.binds] at hk; go_simp; exact hK _ H
                · clear ho; simp [know, dstAt, Region.binds] at hk
                  (refine op_load1T rfl hk.1 (by kernel_rfl) (Hx.out _ (H.ext 0 rfl)) ?_; exact hK _ H)
                · clear ho; simp [know, dstAt, Region.binds] at hk
                  (go_simp; refine (HBu1.out _ _ (H.ext 0 rfl) H).mono ?_; rintro e w' ⟨rfl, H⟩; exact hK _ H)
                · have o16 := ho 16 (by kernel_rfl); clear ho; simp [know, dstAt, Region.binds] at hk o16; go_simp; exact hK _ H
                · have o4 := ho 4 (by kernel_rfl); clear ho; simp [know, dstAt, Region.binds] at hk o4; go_simp; exact hK _ H
                · have o18 := ho 18 (by kernel_rfl); clear ho; simp [know, dstAt, Region.binds] at hk o18; go_simp; exact hK _ H
                · clear ho; simp [know, dstAt, Region.binds] at hk; go_simp; exact hK _ H
                · clear ho; simp [know, dstAt, Region.binds] at hk
                  (refine op_load1T rfl hk.1 (by kernel_rfl) (Hx.out _ (H.ext 0 rfl)) ?_; exact hK _ H)
                · clear ho; simp [know, dstAt, Region.binds] at hk
                  (go_simp; refine (HBu3.out _ _ (H.ext 0 rfl) H).mono ?_; rintro e w' ⟨rfl, H⟩; exact hK _ H)
                · clear ho; simp [know, dstAt, Region.binds] at hk; go_simp; exact hK _ H
                · clear ho; simp [know, dstAt, Region.binds] at hk; go_simp; exact hK _ H
              case ins =>
                iterate 28 (refine ⟨ins_pl rfl (fun _ _ _ => rfl), ?_⟩)
                exact trivial
              case jns =>
                iterate 28 (refine ⟨j_pl (fun _ _ _ => rfl), ?_⟩)
                exact trivial
              case fin =>
                intro E val w5 hE H
                clear HF hE
                have HF := H
                clear H
                simp [putAll, Act.put]
                go_wp2_with fail
                go_roundw
                case rel => exact ⟨k + 1, by omega, rfl, HF⟩
                case measure => simp [intOf]; omega
            · have gk : ¬ (k : Int) < ns.length := by omega
              go_wp2_with fail
              clear gk hkl
              go_loopw [19] (fun i wr => ∃ k : Nat, k ≤ ks.length ∧ i = .int .i64 k ∧ At w9 (Arg w9 :: []) wr) (fun i _ => ks.length - (intOf i).toNat)
              case atStart => exact ⟨0, Nat.zero_le _, rfl, HF⟩
              case round =>
                clear HF
                obtain ⟨k, hk, rfl, HF⟩ := hrel
                by_cases hkl : k < ks.length
                · have gk : (k : Int) < ks.length := by omega
                  obtain ⟨ky, hkk⟩ : ∃ ky, ks[k]? = some ky := ⟨_, List.getElem?_eq_getElem hkl⟩
                  obtain ⟨bk, rfl⟩ := K3.out (by omega)
                  have Hd := Lib.hid (fun (w4 : World) (hx : Ext w9 w4) j u hj => hx.cell (YA.out.cell (recs_get HK.out hkk j u hj)))
                  have Hs := Lib.hid (show sizeT Try.prog 38 = some ky.cells.length from s38)
                  clear hkk
                  have HG1 := Lib.hid (fun (w4 : World) (M : List HProp) (hx : Ext w9 w4) (HM : At w9 M w4) => group (R1.out.ext hx) HP.out.s HP.out.l HP.out.p HRF.out HP.out.f ky HM)
                  have HG2 := Lib.hid (fun (w4 : World) (M : List HProp) (hx : Ext w9 w4) (HM : At w9 M w4) => group (R2.out.ext hx) HP.out.s HP.out.l HP.out.p HRF.out HP.out.f ky HM)
                  have HG3 := Lib.hid (fun (w4 : World) (M : List HProp) (hx : Ext w9 w4) (HM : At w9 M w4) => group (R3.out.ext hx) HPg.out.s HPg.out.l HPg.out.p HRFg.out HPg.out.f ky HM)
                  have HL1 := Lib.hid (group_ok (S := pts.map Pt.s) HP.out HRF.out (fun p hp => List.mem_map.2 ⟨p, hp, rfl⟩) ky).l
                  have HL3 := Lib.hid (group_ok (S := pts.map Pt.s) HPg.out HRFg.out (fun p hp => List.mem_map.2 ⟨p, hp, rfl⟩) ky).l
                  have HFr := Lib.hid (fun (j : Nat) (x y : Int) (h1 : (groupS pts (2 * cF + 1).toNat ky)[j]? = some x) (h2 : (groupS pts (2 * f + 1).toNat ky)[j]? = some y) => groups_front HP.out.s HP.out.p h1 h2)
                  dsimp only at HG1 HG2 HG3 HL1 HL3
                  obtain ⟨q1, hq1⟩ : ∃ q1, groupS pts (2 * cF + 1).toNat ky = q1 := ⟨_, rfl⟩
                  obtain ⟨q3, hq3⟩ : ∃ q3, groupS pts (2 * f + 1).toNat ky = q3 := ⟨_, rfl⟩
                  unfold GrPost at HG1 HG2 HG3
                  rw [hq1] at HG1 HG2 HL1 HFr
                  rw [hq3] at HG3 HL3 HFr
                  clear hq1 hq3
                  go_wp2_with ((with_reducible refine k_load (T := 38) ?_); refine st_loadCells rfl _ _ rfl _ rfl a38 ky.cells Hs.out (Hd.out _ (HF.ext 0 rfl)) ?_; (intro K hK; go_simp))
                  refine (HG1.out _ _ (HF.ext 0 rfl) HF).mono ?_
                  rintro e w13 (⟨hkr, v1, rfl, HX⟩ | ⟨hkr, rfl, HX⟩)
                  · clear HF
                    have HF := HX
                    clear HX
                    go_wp2_with ((with_reducible refine k_load (T := 38) ?_); refine st_loadCells rfl _ _ rfl _ rfl a38 ky.cells Hs.out (Hd.out _ (HF.ext 1 rfl)) ?_; (intro K hK; go_simp))
                    refine (HG2.out _ _ (HF.ext 1 rfl) HF).mono ?_
                    rintro e w14 (⟨_, v2, rfl, HX⟩ | ⟨hkn, _⟩)
                    case inr => exact absurd hkr hkn
                    clear HF
                    have HF := HX
                    clear HX
                    go_wp2_with ((with_reducible refine k_load (T := 38) ?_); refine st_loadCells rfl _ _ rfl _ rfl a38 ky.cells Hs.out (Hd.out _ (HF.ext 2 rfl)) ?_; (intro K hK; go_simp))
                    refine (HG3.out _ _ (HF.ext 2 rfl) HF).mono ?_
                    rintro e w15 (⟨_, v3, rfl, HX⟩ | ⟨hkn, _⟩)
                    case inr => exact absurd hkr hkn
                    clear HF hkr
                    have hl1 := HL1.out
                    have hl3 := HL3.out
                    have hf1 := HRF.out
                    have hf3 := HRFg.out
                    (try dsimp only at hf1 hf3)
                    obtain ⟨b1, p1, rfl, _⟩ := own_addr (by omega) (HX.pick 2 rfl)
                    obtain ⟨b3, p3, rfl, _⟩ := own_addr (by omega) (HX.pick 0 rfl)
                    have N1 := Lib.hid (oi_recs (HX.pick 2 rfl))
                    have N2 := Lib.hid (oi_recs (HX.pick 1 rfl))
                    have N3' := Lib.hid (oi_recs (HX.pick 0 rfl))
                    have HW15 := Lib.hid HX
                    clear HX
                    have HF := At.of w15
                    have hl18 : q1.length ≤ 7 := by omega
                    clear hl1 hl3 hf1 hf3
                    go_wp2_with fail
                    refine (sameInts (N1.out.ext (HF.ext 0 rfl)) (N2.out.ext (HF.ext 0 rfl)) HF).mono ?_
                    rintro e w16 ⟨rfl, HX⟩
                    clear HF
                    have HF := HX
                    clear HX
                    go_wp2_with fail
                    go_loopw [26] (fun i wr => ∃ a : Nat, a ≤ q1.length ∧ i = .int .i64 a ∧ At w15 (Arg w15 :: []) wr) (fun i _ => q1.length - (intOf i).toNat)
                    case atStart => exact ⟨0, Nat.zero_le _, rfl, HF⟩
                    case round =>
                      clear HF
                      obtain ⟨a, ha, rfl, HF⟩ := hrel
                      by_cases h1 : a < q1.length
                      · have ga1 : (a : Int) < q1.length := by omega
                        by_cases h3 : a < q3.length
                        · have ga3 : (a : Int) < q3.length := by omega
                          obtain ⟨x, hx⟩ : ∃ x, q1[a]? = some x := ⟨_, List.getElem?_eq_getElem h1⟩
                          obtain ⟨y, hy⟩ : ∃ y, q3[a]? = some y := ⟨_, List.getElem?_eq_getElem h3⟩
                          have hxy := HFr.out a x y hx hy
                          subst hxy
                          have Hx := Lib.hid (fun (w4 : World) (hx4 : Ext w15 w4) => hx4.cell (show w15.cell? ⟨b1, a, none⟩ = some (.int .i64 x) from by
                            have := recs_int N1.out hx
                            rwa [Addr.add_lit, Nat.zero_add] at this))
                          have Hy := Lib.hid (fun (w4 : World) (hx4 : Ext w15 w4) => hx4.cell (show w15.cell? ⟨b3, a, none⟩ = some (.int .i64 x) from by
                            have := recs_int N3'.out hy
                            rwa [Addr.add_lit, Nat.zero_add] at this))
                          clear hx hy
                          go_wp2_with fail
                          apply wp_region_eff [] (fun i => (#[[], [], [], [], [], [], [], [], []] : Array (List Nat)).getD i []) (fun val i => ((_ :: _ :: _ :: .int .i64 x :: _ :: _ :: _ :: .int .i64 x :: .bool false :: []) : List Value).toArray.getD i undef) (fun E val => At w15 (Arg w15 :: [])) (by kernel_rfl) (by kernel_rfl) (by kernel_rfl) (by kernel_rfl) (HF)
                          case step =>
                            iterate 9 (refine ⟨eff_pl rfl (fun _ => by rfl) fun E val hn T ds w K H hk ho hK => ?_, ?_⟩; rotate_left)
                            exact trivial
                            · have o20 := ho 20 (by kernel_rfl); clear ho; simp [know, dstAt, Region.binds] at hk o20; go_simp; exact hK _ H
                            · have o26 := ho 26 (by kernel_rfl); clear ho; simp [know, dstAt, Region.binds] at hk o26; go_simp; exact hK _ H
                            · clear ho; simp [know, dstAt, Region.binds] at hk; go_simp; exact hK _ H
                            · clear ho; simp [know, dstAt, Region.binds] at hk
                              (refine op_load1T rfl hk (by kernel_rfl) (Hx.out _ (H.ext 0 rfl)) ?_; exact hK _ H)
                            · have o24 := ho 24 (by kernel_rfl); clear ho; simp [know, dstAt, Region.binds] at hk o24; go_simp; exact hK _ H
                            · have o26 := ho 26 (by kernel_rfl); clear ho; simp [know, dstAt, Region.binds] at hk o26; go_simp; exact hK _ H
                            · clear ho; simp [know, dstAt, Region.binds] at hk; go_simp; exact hK _ H
                            · clear ho; simp [know, dstAt, Region.binds] at hk
                              (refine op_load1T rfl hk (by kernel_rfl) (Hy.out _ (H.ext 0 rfl)) ?_; exact hK _ H)
                            · clear ho; simp [know, dstAt, Region.binds] at hk; go_simp; exact hK _ H
                          case ins =>
                            iterate 9 (refine ⟨ins_pl rfl (fun _ _ _ => rfl), ?_⟩)
                            exact trivial
                          case jns =>
                            iterate 9 (refine ⟨j_pl (fun _ _ _ => rfl), ?_⟩)
                            exact trivial
                          case fin =>
                            intro E val w5 hE H
                            clear HF hE
                            have HF := H
                            clear H
                            simp [putAll, Act.put]
                            go_wp2_with fail
                            go_roundw
                            case rel => exact ⟨a + 1, by omega, rfl, HF⟩
                            case measure => simp [intOf]; omega
                        · have ga3 : ¬ (a : Int) < q3.length := by omega
                          go_wp2_with fail
                          go_roundw
                          case rel => exact ⟨k + 1, by omega, rfl, (HF.lift0 HW15.out).sel 4 [3]⟩
                          case measure => simp [intOf]; omega
                      · have ga1 : ¬ (a : Int) < q1.length := by omega
                        go_wp2_with fail
                        go_roundw
                        case rel => exact ⟨k + 1, by omega, rfl, (HF.lift0 HW15.out).sel 4 [3]⟩
                        case measure => simp [intOf]; omega
                  · clear HF
                    have HF := HX
                    clear HX
                    go_wp2_with ((with_reducible refine k_load (T := 38) ?_); refine st_loadCells rfl _ _ rfl _ rfl a38 ky.cells Hs.out (Hd.out _ (HF.ext 0 rfl)) ?_; (intro K hK; go_simp))
                    refine (HG2.out _ _ (HF.ext 0 rfl) HF).mono ?_
                    rintro e w14 (⟨hkn, _⟩ | ⟨_, rfl, HX⟩)
                    case inl => exact absurd hkn hkr
                    clear HF
                    have HF := HX
                    clear HX
                    go_wp2_with ((with_reducible refine k_load (T := 38) ?_); refine st_loadCells rfl _ _ rfl _ rfl a38 ky.cells Hs.out (Hd.out _ (HF.ext 0 rfl)) ?_; (intro K hK; go_simp))
                    refine (HG3.out _ _ (HF.ext 0 rfl) HF).mono ?_
                    rintro e w15 (⟨hkn, _⟩ | ⟨_, rfl, HX⟩)
                    case inl => exact absurd hkn hkr
                    clear HF
                    have HF := HX
                    clear HX
                    go_wp2_with fail
                    refine (sameInts nil_ints nil_ints HF).mono ?_
                    rintro e w16 ⟨rfl, HX⟩
                    clear HF
                    have HF := HX
                    clear HX
                    go_wp2_with fail
                    go_loopw [26] (fun i wr => i = .int .i64 (0 : Nat) ∧ At w9 (Arg w9 :: []) wr) (fun i _ => 0)
                    case atStart => exact ⟨rfl, HF⟩
                    case round =>
                      clear HF
                      obtain ⟨rfl, HF⟩ := hrel
                      go_wp2_with fail
                      go_roundw
                      case rel => exact ⟨k + 1, by omega, rfl, HF⟩
                      case measure => simp [intOf]; omega
                · have gk : ¬ (k : Int) < ks.length := by omega
                  go_wp2_with fail
                  go_ret
                  exact ⟨rfl, HEND.out _ ((HF.lift0 HW9.out).sel 4 [3])⟩
end

theorem own : ownKnob Try.prog.godebug = none := by kernel_rfl

theorem lifted (os : Os) (started : os.Started) (H : Type) (enc : TypeId × Value → H) :
    ReturnsInHanded {} Try.checked os 11 .any (Rows.ringFrontSpec.pre6 enc Try.prog Try.f11 Rows.ringFrontRow.domain false) (Rows.ringFrontSpec.post enc Try.prog Try.f11 false true false false) := by
  refine frame_true (C := Try.checked) started own (by kernel_rfl) Try.func11
    (ChangeSpec.witness6 (enc := enc) (C := Try.checked) false ⟨#[], #[.agg #[.slice none 0 0, .int .i64 0, .int .i64 0, .int .i64 0, .int .i64 0, .int .i64 0], .int .i64 0, .int .i64 0, .slice none 0 0, .slice none 0 0], []⟩ 8 (by kernel_rfl) (by kernel_rfl) (by kernel_rfl) (by kernel_rfl)) rfl ?_ (by kernel_rfl) (by kernel_rfl) (by kernel_rfl) Try.underlying4 ?_
  · intro ds hds
    match ds, hds with
    | [_, _, _, _, _], _ => rfl
  · rintro W args ds p ⟨base, hval⟩ hA hwt
    have hp : Try.f11.params.toList = [29, 3, 3, 33, 64] := by rw [Try.params11]
    rw [hp] at hA hwt
    obtain ⟨v0, r0, d0, e0, p0, q0, ha, rfl, rfl, h0, hA⟩ := trodAll_cons hA
    obtain ⟨v1, r1, d1, e1, p1, q1, rfl, rfl, rfl, h1, hA⟩ := trodAll_cons hA
    obtain ⟨v2, r2, d2, e2, p2, q2, rfl, rfl, rfl, h2, hA⟩ := trodAll_cons hA
    obtain ⟨v3, r3, d3, e3, p3, q3, rfl, rfl, rfl, h3, hA⟩ := trodAll_cons hA
    obtain ⟨v4, r4, d4, e4, p4, q4, rfl, rfl, rfl, h4, hA⟩ := trodAll_cons hA
    obtain ⟨rfl, rfl, rfl⟩ := trodAll_nil hA
    have ha2 : args = #[v0, v1, v2, v3, v4] := by cases args; simp_all
    subst ha2
    simp only [DataW.weightsEach, List.all_append, Bool.and_eq_true] at hwt
    obtain ⟨a0, b0⟩ := Lw.arg_Config (hval 0 _ _ (by rw [Try.params11]; rfl) rfl) h0 hwt.1
    obtain ⟨a1, b1⟩ := Lw.arg_int (hval 1 _ _ (by rw [Try.params11]; rfl) rfl) h1 hwt.2.1
    obtain ⟨a2, b2⟩ := Lw.arg_int (hval 2 _ _ (by rw [Try.params11]; rfl) rfl) h2 hwt.2.2.1
    obtain ⟨a3, b3⟩ := Lw.arg_keys (hval 3 _ _ (by rw [Try.params11]; rfl) rfl) h3 hwt.2.2.2.1
    obtain ⟨a4, b4⟩ := Lw.arg_strs (hval 4 _ _ (by rw [Try.params11]; rfl) rfl) h4 hwt.2.2.2.2.1
    exact walk b0 b1 b2 b3 b4

theorem over : Rows.ringFrontRow.holds Try.pinned (OpenSpec.ofChange Rows.ringFrontSpec) :=
  OpenClaim.holds_of_wide 11 Try.f11 rfl rfl rfl rfl rfl rfl rfl ⟨rfl, rfl, rfl, rfl, rfl⟩ rfl rfl rfl rfl rfl (by kernel_rfl) Try.func11 (by kernel_rfl)
    (of_decide_eq_true (by kernel_rfl)) (by unfold Func.isWrapper; first | (rw [if_pos (by decide +kernel)]; kernel_rfl) | (rw [if_neg (by decide +kernel)]; exact ⟨rfl, rfl⟩))
    (fun os started H enc _ => lifted os started H enc)

theorem proved : Rows.RingFrontSaid := over
#print axioms proved
end ringFront
end Go.Proofs.Ytohfboolicheeaa
