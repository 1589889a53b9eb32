/-
  A right configuration's ring; a majority; what was lent, standing.
-/
import Derived.Test.YtohfboolicheeaaRgBoth
namespace Go.Proofs.Ytohfboolicheeaa
open Go.Hp Go.RowKit
set_option linter.unusedVariables false
set_option linter.unusedSimpArgs false
set_option maxRecDepth 100000
set_option maxHeartbeats 2000000
namespace Rg
section
variable {w0 w : World} {L : List HProp}

theorem recs_take {ad : Option Addr} {cap : Nat} {l : List Int} {a : Nat} (h : RecsAt w (.slice ad l.length cap) 1 (l.map iC)) (ha : a ≤ l.length) : RecsAt w (.slice ad a cap) 1 ((l.take a).map iC) := by
  obtain ⟨⟨ad2, cap2, e, c1, c2, c3, c4⟩, c5⟩ := h
  rw [List.length_map] at e c1 c3
  cases e
  have hl : ((l.take a).map iC).length = a := by rw [List.length_map, List.length_take]; omega
  refine ⟨⟨ad, cap, by rw [hl], by rw [hl]; omega, c2, fun h => c3 (by rw [hl] at h; omega), fun b hb j u hj => c4 b hb j u ?_⟩, by intro r hr; obtain ⟨x, _, rfl⟩ := List.mem_map.1 hr; rfl⟩
  have e2 : (l.map iC).flatten = ((l.take a).map iC).flatten ++ ((l.drop a).map iC).flatten := by rw [← List.flatten_append, ← List.map_append, List.take_append_drop]
  rw [e2, List.getElem?_append_left (List.getElem?_eq_some_iff.1 hj).1]
  exact hj

theorem majority (H : At w0 L w) (v : Value) (c : Cf) (hF : 0 ≤ c.F ∧ c.F ≤ 3) :
    Calls Try.prog 27 #[.agg #[v, .int .i64 c.F, .int .i64 c.P, .int .i64 c.B, .int .i64 c.K, .int .i64 c.R]] w (Ret w0 (.int .i64 (c.F + 1)) L) := by
  obtain ⟨cF, cP, cB, cK, cR⟩ := c
  dsimp only at *
  have hw1 : wrap64 (cF + 1) = cF + 1 := wrap64_of (by omega) (by omega)
  go_enter Try.func27, Try.ntmps27
  go_wp2_with (first | ((with_reducible refine k_box ?_); refine st_box rfl _ _ rfl _ rfl H ?_; (clear H; intro g1 w H K hK; simp only [Value.cells, Act.eval, Value.cells, Array.getD_eq_getD_getElem?, List.getElem?_toArray, List.getElem?_cons_succ, List.getElem?_cons_zero, Option.getD_some] at H; go_simp)) | ((with_reducible refine k_load ?_); refine st_load rfl _ _ rfl _ _ rfl ?_ H 0 rfl rfl ?_; (kernel_rfl); (intro K hK; go_simp)))
  go_ret
  exact ⟨rfl, H.drop⟩

theorem keptF {g : Nat} {v : Value} {c : Cf} {S : List Int} (hg : RecsAt w (.slice (blkA g) S.length (S.length + 1)) 1 (S.map iC)) (hm : w.cell? ⟨g, S.length, none⟩ = some (.int .i64 (-77))) (hv : RecsAt w v 1 (S.map iC)) (hsz : S.length ≤ 17592186043904) (H : At w0 L w) :
    Calls Try.prog 28 #[.agg #[.slice (blkA g) S.length (S.length + 1), .int .i64 c.F, .int .i64 c.P, .int .i64 c.B, .int .i64 c.K, .int .i64 c.R], .agg #[v, .int .i64 c.F, .int .i64 c.P, .int .i64 c.B, .int .i64 c.K, .int .i64 c.R]] w (Ret w0 (.bool true) L) := by
  obtain ⟨W, rfl⟩ : ∃ W : World, W = w := ⟨_, rfl⟩
  have HF := At.of W
  have H0 := Lib.hid H
  obtain ⟨cF, cP, cB, cK, cR⟩ := c
  obtain ⟨ad, cap, rfl, c1, c2, c3⟩ := hv.value
  rw [List.length_map] at c1 c3 hv ⊢
  have HG := Lib.hid hg
  have HM := Lib.hid (fun (w2 : World) (hx : Ext W w2) => hx.cell hm)
  have HV := Lib.hid hv
  dsimp only
  have tok : True := trivial
  clear hv c3 c1 c2 H hg hm
  have hw1 : IntKind.i64.wrap ((S.length : Int) + 1) = ((S.length + 1 : Nat) : Int) := by rw [IntWalk.i64_in _ (by omega)]; omega
  have gl : (S.length : Int) < ((S.length + 1 : Nat) : Int) := by omega
  have gl2 : (S.length : Int) < (S.length : Int) + 1 := by omega
  go_enter Try.func28, Try.ntmps28
  go_wp2_with (first | ((with_reducible refine k_box (T := 29) ?_); (have _t := tok); refine st_box rfl _ _ rfl _ rfl HF ?_; (clear HF tok _t; intro g2 w HF K hK; simp only [Value.cells] at HF; go_simp)) | ((with_reducible refine k_box (T := 29) ?_); refine st_box rfl _ _ rfl _ rfl HF ?_; (clear HF; intro g3 w HF K hK; simp only [Value.cells] at HF; go_simp)))
  replace HF : At W (Blk g3 (.cells #[.slice ad S.length cap, .int .i64 cF, .int .i64 cP, .int .i64 cB, .int .i64 cK, .int .i64 cR] 29 (0, 0)) :: Blk g2 (.cells #[.slice (blkA g) S.length (S.length + 1), .int .i64 cF, .int .i64 cP, .int .i64 cB, .int .i64 cK, .int .i64 cR] 29 (0, 0)) :: Arg W :: []) _ := HF
  apply wp_region_eff [] (fun i => (#[[], [], [], [], [], [], [], [], [], [], [], [], [], [], [], [], [], [], [], [], [], []] : Array (List Nat)).getD i []) (fun val i => ((_ :: .slice (blkA g) S.length (S.length + 1) :: _ :: _ :: .slice ad S.length cap :: _ :: .bool false :: .bool false :: _ :: .slice (blkA g) S.length (S.length + 1) :: _ :: .slice ad S.length cap :: _ :: .int .i64 ((S.length + 1 : Nat) : Int) :: .slice (blkA g) (S.length + 1) (S.length + 1) :: _ :: .slice ad S.length cap :: _ :: _ :: .int .i64 (-77) :: .bool false :: .bool false :: []) : List Value).toArray.getD i undef) (fun E val => At W (Blk g3 (.cells #[.slice ad S.length cap, .int .i64 cF, .int .i64 cP, .int .i64 cB, .int .i64 cK, .int .i64 cR] 29 (0, 0)) :: Blk g2 (.cells #[.slice (blkA g) S.length (S.length + 1), .int .i64 cF, .int .i64 cP, .int .i64 cB, .int .i64 cK, .int .i64 cR] 29 (0, 0)) :: Arg W :: [])) (by kernel_rfl) (by kernel_rfl) (by kernel_rfl) (by kernel_rfl) (HF)
  case step =>
    iterate 22 (refine ⟨eff_pl rfl (fun _ => by rfl) fun E val hn T ds w K H hk ho hK => ?_, ?_⟩; rotate_left)
    exact trivial
    · have o2 := ho 2 (by kernel_rfl); clear ho; simp [know, dstAt, Region.binds] at hk o2; go_simp; exact hK _ H
    · clear ho; simp [know, dstAt, Region.binds] at hk
      (refine op_loadT rfl hk ?_ H 1 rfl rfl ?_; (kernel_rfl); exact hK _ H)
    · clear ho; simp [know, dstAt, Region.binds] at hk; go_simp; exact hK _ H
    · have o3 := ho 3 (by kernel_rfl); clear ho; simp [know, dstAt, Region.binds] at hk o3; go_simp; exact hK _ H
    · clear ho; simp [know, dstAt, Region.binds] at hk
      (refine op_loadT rfl hk ?_ H 0 rfl rfl ?_; (kernel_rfl); exact hK _ H)
    · clear ho; simp [know, dstAt, Region.binds] at hk; go_simp; exact hK _ H
    · clear ho; simp [know, dstAt, Region.binds] at hk; go_simp; exact hK _ H
    · clear ho; simp [know, dstAt, Region.binds] at hk; go_simp; exact hK _ H
    · have o2 := ho 2 (by kernel_rfl); clear ho; simp [know, dstAt, Region.binds] at hk o2; go_simp; exact hK _ H
    · clear ho; simp [know, dstAt, Region.binds] at hk
      (refine op_loadT rfl hk.1 ?_ H 1 rfl rfl ?_; (kernel_rfl); exact hK _ H)
    · have o3 := ho 3 (by kernel_rfl); clear ho; simp [know, dstAt, Region.binds] at hk o3; go_simp; exact hK _ H
    · clear ho; simp [know, dstAt, Region.binds] at hk
      (refine op_loadT rfl hk.1 ?_ H 0 rfl rfl ?_; (kernel_rfl); exact hK _ H)
    · clear ho; simp [know, dstAt, Region.binds] at hk; go_simp; exact hK _ H
    · clear ho; simp [know, dstAt, Region.binds] at hk; go_simp; exact hK _ H
    · clear ho; simp [know, dstAt, Region.binds] at hk
      first | (refine op_sliceT rfl hk.1 hk.2.1 Try.underlying27 st3 (by omega) ?_; exact hK _ H) | (go_simp; exact hK _ H)
    · have o3 := ho 3 (by kernel_rfl); clear ho; simp [know, dstAt, Region.binds] at hk o3; go_simp; exact hK _ H
    · clear ho; simp [know, dstAt, Region.binds] at hk
      (refine op_loadT rfl hk.1 ?_ H 0 rfl rfl ?_; (kernel_rfl); exact hK _ H)
    · clear ho; simp [know, dstAt, Region.binds] at hk; go_simp; exact hK _ H
    · clear ho; simp [know, dstAt, Region.binds] at hk; go_simp; exact hK _ H
    · clear ho; simp [know, dstAt, Region.binds] at hk
      (refine op_load1T rfl hk.1 (by kernel_rfl) (HM.out _ (H.ext 2 rfl)) ?_; exact hK _ H)
    · clear ho; simp [know, dstAt, Region.binds] at hk; go_simp; exact hK _ H
    · clear ho; simp [know, dstAt, Region.binds] at hk; go_simp; exact hK _ H
  case ins =>
    iterate 22 (refine ⟨ins_pl rfl (fun _ _ _ => rfl), ?_⟩)
    exact trivial
  case jns =>
    iterate 22 (refine ⟨j_pl (fun _ _ _ => rfl), ?_⟩)
    exact trivial
  case fin =>
    intro E val w5 hE H
    clear HF hE hw1 gl gl2
    have HF := H
    clear H
    simp [putAll, Act.put]
    go_wp2_with (first | ((with_reducible refine k_load ?_); (first | refine st_load rfl _ _ rfl _ _ rfl ?_ HF 0 rfl rfl ?_ | refine st_load rfl _ _ rfl _ _ rfl ?_ HF 1 rfl rfl ?_); (kernel_rfl); (intro K hK; go_simp)))
    refine (sameInts (HG.out.ext (HF.ext 2 rfl)) (HV.out.ext (HF.ext 2 rfl)) HF).mono ?_
    rintro e w6 ⟨rfl, HX⟩
    go_wp2_with fail
    go_ret
    exact ⟨rfl, (HX.sel 3 [2]).lift0 H0.out⟩

def MadePost (w0 : World) (L : List HProp) (c : Cf) (S : List Int) (e : Ending) (w' : World) : Prop :=
  (RightC c S ∧ ∃ g1, e = .returned (.pointer (some ⟨g1, 0, none⟩)) ∧ At w0 (RgR 84 87 g1 c (sortI S) (sortP (ptsOf (sortI S) c.P.toNat)) :: L) w') ∨
  (¬ RightC c S ∧ e = .returned (.pointer none) ∧ At w0 L w')
theorem made {v : Value} {c : Cf} {S : List Int} (hv : RecsAt w v 1 (S.map iC)) (hsz : S.length ≤ 17592186043904) (H : At w0 L w) :
    Calls Try.prog 23 #[.agg #[v, .int .i64 c.F, .int .i64 c.P, .int .i64 c.B, .int .i64 c.K, .int .i64 c.R]] w (MadePost w0 L c S) := by
  obtain ⟨W, rfl⟩ : ∃ W : World, W = w := ⟨_, rfl⟩
  have HF := At.of W
  have H0 := Lib.hid H
  have HV := Lib.hid hv
  obtain ⟨pts, hpts⟩ : ∃ pts, sortP (ptsOf (sortI S) c.P.toNat) = pts := ⟨_, rfl⟩
  unfold MadePost
  rw [hpts]
  obtain ⟨SS, hSS⟩ : ∃ SS, sortI S = SS := ⟨_, rfl⟩
  rw [hSS]
  have HNw := Lib.hid (fun (w2 : World) (M : List HProp) (v2 : Value) (h2 : RecsAt w2 v2 1 (S.map iC)) (HM : At W M w2) => new (c := c) h2 HM)
  unfold NewPost at HNw
  rw [hpts, hSS] at HNw
  have HLd := Lib.hid (fun (w2 : World) (M : List HProp) (v2 : Value) (h2 : RecsAt w2 v2 1 (S.map iC)) (HM : At W M w2) => lend (c := c) h2 hsz HM)
  have HIs := Lib.hid (fun (w2 : World) (M : List HProp) (v2 : Value) (h2 : RecsAt w2 v2 1 (S.map iC)) (HM : At W M w2) => isC (c := c) h2 HM)
  obtain ⟨ad, cap, rfl, c1, c2, c3⟩ := hv.value
  rw [List.length_map] at c1 c3 HV ⊢
  obtain ⟨cF, cP, cB, cK, cR⟩ := c
  dsimp only at *
  clear H hv c3 c1 c2 hpts hSS
  go_enter Try.func23, Try.ntmps23
  go_wp2_with (first | ((with_reducible refine k_box ?_); refine st_box rfl _ _ rfl _ rfl HF ?_; (clear HF; intro g1 w HF K hK; simp only [Value.cells, Act.eval, Value.cells, Array.getD_eq_getD_getElem?, List.getElem?_toArray, List.getElem?_cons_succ, List.getElem?_cons_zero, Option.getD_some] at HF; go_simp)) | ((with_reducible refine k_load (T := 29) ?_); refine st_row rfl _ _ rfl _ rfl a29 6 s29 HF 0 rfl rfl ?_; (intro K hK; go_simp)) | ((with_reducible refine k_load (T := 29) ?_); refine st_loads rfl _ _ rfl _ _ rfl a29 6 s29 HF 0 rfl ?_ ?_; (simp); (intro K hK; go_simp)))
  refine (HIs.out _ _ _ (HV.out.ext (HF.ext 1 rfl)) HF).mono ?_
  rintro e w2 ⟨b, rfl, hb, HX⟩
  clear HF HIs
  have HF := HX
  clear HX
  have HB := Lib.hid hb
  clear hb
  cases b with
  | false =>
    go_wp2_with fail
    go_ret
    exact .inr ⟨fun h => (by cases HB.out.2 h), rfl, (HF.sel 2 [1]).lift0 H0.out⟩
  | true =>
    go_wp2_with (first | ((with_reducible refine k_load (T := 29) ?_); refine st_row rfl _ _ rfl _ rfl a29 6 s29 HF 0 rfl rfl ?_; (intro K hK; go_simp)) | ((with_reducible refine k_load (T := 29) ?_); refine st_loads rfl _ _ rfl _ _ rfl a29 6 s29 HF 0 rfl ?_ ?_; (simp); (intro K hK; go_simp)))
    refine (HLd.out _ _ _ (HV.out.ext (HF.ext 1 rfl)) HF).mono ?_
    rintro e w3 ⟨gl, rfl, HX⟩
    clear HF HLd
    have HF := HX
    clear HX
    go_wp2_with fail
    refine (HNw.out _ _ _ (lent_recs hsz (HF.pick 0 rfl)) HF).mono ?_
    rintro e w4 (⟨ga, rfl, hRC, HX⟩ | ⟨rfl, hRC, HX⟩)
    · clear HF HNw
      have HRC := Lib.hid hRC
      clear hRC
      go_wp2_with fail
      go_ret
      exact .inl ⟨HRC.out, ga, rfl, (HX.sel 4 [0, 3]).lift1 H0.out⟩
    · exact absurd (HB.out.1 trivial) hRC
end
end Rg
end Go.Proofs.Ytohfboolicheeaa
