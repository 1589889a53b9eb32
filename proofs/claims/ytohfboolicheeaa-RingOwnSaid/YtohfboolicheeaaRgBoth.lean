/-
  What the laws lend and keep; a ring on both sides.
-/
import Derived.Test.YtohfboolicheeaaRgKnown
namespace Go.Proofs.Ytohfboolicheeaa
open Go.Hp Go.RowKit
set_option linter.unusedVariables false
set_option linter.unusedSimpArgs false
set_option maxRecDepth 100000
set_option maxHeartbeats 2000000
namespace Rg

abbrev blkA (g : Nat) : Option Addr := some ⟨g, 0, none⟩
theorem splice_eq (c v : List Value) (o : Nat) : splice c o v = c.take o ++ v ++ c.drop (o + v.length) := by simp [splice]
theorem splice_fill {A z : List Value} {n size : Nat} (hA : A.length = n * size) (hz : z.length = size) : splice (List.replicate (n + 1) z).flatten 0 A = A ++ z := by
  have e : (List.replicate (n + 1) z).flatten = (List.replicate n z).flatten ++ z := by rw [← List.replicate_append_replicate, List.flatten_append]; simp
  rw [splice_eq, List.take_zero, List.nil_append, Nat.zero_add, e, List.drop_left' (by rw [len_zeros hz, hA])]
theorem mark_set {A : List Value} {n : Nat} {z m : Value} (hA : A.length = n * 1) : (A ++ [z]).toArray.setIfInBounds n m = (A ++ [m]).toArray := by
  rw [List.setIfInBounds_toArray, List.set_append_right _ _ (by omega), show n - A.length = 0 by omega, List.set_cons_zero]
section
variable {w0 w : World} {L : List HProp}

/-- Two equal rows of numbers. -/
theorem sameInts {v1 v2 : Value} {l : List Int} (h1 : RecsAt w v1 1 (l.map iC)) (h2 : RecsAt w v2 1 (l.map iC)) (H : At w0 L w) :
    Calls Try.prog 18 #[v1, v2] w (Ret w0 (.bool true) L) := by
  obtain ⟨W, rfl⟩ : ∃ W : World, W = w := ⟨_, rfl⟩
  have HF := At.of W
  have H0 := Lib.hid H
  obtain ⟨ad1, cap1, rfl, c1, cm, c3⟩ := h1.value
  obtain ⟨ad2, cap2, rfl, d1, _, d3⟩ := h2.value
  rw [List.length_map] at c1 c3 d1 d3 h1 h2 ⊢
  have hl63 : l.length ≤ 9223372036854775807 := by simp only [maxLen] at cm; omega
  have R1 := Lib.hid h1
  have R2 := Lib.hid h2
  have C3 := Lib.hid c3
  have D3 := Lib.hid d3
  clear H h1 h2 c3 d3
  go_enter Try.func18, Try.ntmps18
  go_wp2_with fail
  go_loopw [5] (fun i wr => ∃ k : Nat, k ≤ l.length ∧ i = .int .i64 k ∧ At W (Arg W :: []) wr) (fun i _ => l.length - (intOf i).toNat)
  case atStart => exact ⟨0, Nat.zero_le _, rfl, HF⟩
  case round =>
    clear HF
    obtain ⟨k, hk, rfl, HF⟩ := hrel
    by_cases hlt : k < l.length
    · have g1 : (k : Int) < l.length := by omega
      obtain ⟨x, hx⟩ : ∃ x, l[k]? = some x := ⟨_, List.getElem?_eq_getElem hlt⟩
      obtain ⟨b1, rfl⟩ := C3.out (by omega)
      obtain ⟨b2, rfl⟩ := D3.out (by omega)
      have C1 := Lib.hid (fun (w2 : World) (hxx : Ext W w2) => hxx.cell (recs_int R1.out hx))
      have C2 := Lib.hid (fun (w2 : World) (hxx : Ext W w2) => hxx.cell (recs_int R2.out hx))
      clear hx
      go_wp2_with fail
      apply wp_region_eff [] (fun i => (#[[], [], [], [], [], [], [], [], []] : Array (List Nat)).getD i []) (fun val i => ((_ :: _ :: _ :: .int .i64 x :: _ :: _ :: _ :: .int .i64 x :: .bool false :: []) : List Value).toArray.getD i undef) (fun E val => At W (Arg W :: [])) (by kernel_rfl) (by kernel_rfl) (by kernel_rfl) (by kernel_rfl) (HF)
      case step =>
        iterate 9 (refine ⟨eff_pl rfl (fun _ => by rfl) fun E val hn T ds w K H hk ho hK => ?_, ?_⟩; rotate_left)
        exact trivial
        · have o0 := ho 0 (by kernel_rfl); clear ho; simp [know, dstAt, Region.binds] at hk o0; go_simp; exact hK _ H
        · have o5 := ho 5 (by kernel_rfl); clear ho; simp [know, dstAt, Region.binds] at hk o5; go_simp; exact hK _ H
        · clear ho; simp [know, dstAt, Region.binds] at hk; go_simp; exact hK _ H
        · clear ho; simp [know, dstAt, Region.binds] at hk
          (refine op_load1T rfl hk (by kernel_rfl) (C1.out _ (H.ext 0 rfl)) ?_; exact hK _ H)
        · have o1 := ho 1 (by kernel_rfl); clear ho; simp [know, dstAt, Region.binds] at hk o1; go_simp; exact hK _ H
        · have o5 := ho 5 (by kernel_rfl); clear ho; simp [know, dstAt, Region.binds] at hk o5; go_simp; exact hK _ H
        · clear ho; simp [know, dstAt, Region.binds] at hk; go_simp; exact hK _ H
        · clear ho; simp [know, dstAt, Region.binds] at hk
          (refine op_load1T rfl hk (by kernel_rfl) (C2.out _ (H.ext 0 rfl)) ?_; exact hK _ H)
        · clear ho; simp [know, dstAt, Region.binds] at hk; go_simp; exact hK _ H
      case ins =>
        iterate 9 (refine ⟨ins_pl rfl (fun _ _ _ => rfl), ?_⟩)
        exact trivial
      case jns =>
        iterate 9 (refine ⟨j_pl (fun _ _ _ => rfl), ?_⟩)
        exact trivial
      case fin =>
        intro E val w5 hE H
        clear HF hE
        have HF := H
        clear H
        simp [putAll, Act.put]
        go_wp2_with fail
        go_roundw
        case rel => exact ⟨k + 1, by omega, rfl, HF⟩
        case measure => simp [intOf]; omega
    · have g1 : ¬ (k : Int) < l.length := by omega
      go_wp2_with fail
      go_ret
      exact ⟨rfl, HF.lift0 H0.out⟩

theorem lend {v : Value} {c : Cf} {S : List Int} (hv : RecsAt w v 1 (S.map iC)) (hsz : S.length ≤ 17592186043904) (H : At w0 L w) :
    Calls Try.prog 24 #[.agg #[v, .int .i64 c.F, .int .i64 c.P, .int .i64 c.B, .int .i64 c.K, .int .i64 c.R]] w (fun e w' => ∃ gl, e = .returned (.agg #[.slice (some ⟨gl, 0, none⟩) S.length (S.length + 1), .int .i64 c.F, .int .i64 c.P, .int .i64 c.B, .int .i64 c.K, .int .i64 c.R]) ∧ At w0 (Blk gl (.cells (iCs S ++ [Value.int .i64 (-77)]).toArray 3 (0, 0)) :: L) w') := by
  obtain ⟨W, rfl⟩ : ∃ W : World, W = w := ⟨_, rfl⟩
  have HF := At.of W
  have H0 := Lib.hid H
  obtain ⟨cF, cP, cB, cK, cR⟩ := c
  obtain ⟨⟨ad, cap, rfl, c1, c2, c3, c4⟩, _⟩ := hv
  rw [List.length_map] at c1 c3 ⊢
  have C3 := Lib.hid c3
  have C4 := Lib.hid (show ∀ b, ad = some b → ∀ j u, (iCs S)[j]? = some u → W.cell? (b.add j) = some u from c4)
  have Li := Lib.hid (iCs_len S)
  have Oi := Lib.hid (iCs_one S)
  have hn : ((S.length : Int) + 1).toNat = S.length + 1 := by omega
  clear H c3 c4
  dsimp only
  go_enter Try.func24, Try.ntmps24
  go_wp2_with (first | ((with_reducible refine k_box ?_); refine st_box rfl _ _ rfl _ rfl HF ?_; (clear HF; intro g1 w HF K hK; simp only [Value.cells, Act.eval, Value.cells, Array.getD_eq_getD_getElem?, List.getElem?_toArray, List.getElem?_cons_succ, List.getElem?_cons_zero, Option.getD_some] at HF; go_simp)) | ((with_reducible refine k_alloc (T := 29) ?_); refine st_alloc rfl _ rfl _ z29 _ rfl HF ?_; (clear HF; intro g2 w HF K hK; simp only [Value.cells] at HF; go_simp)) | ((with_reducible refine k_load (T := 29) ?_); refine st_row rfl _ _ rfl _ rfl a29 6 s29 HF 2 rfl rfl ?_; (intro K hK; go_simp)) | ((with_reducible refine k_load (T := 29) ?_); refine st_loads rfl _ _ rfl _ _ rfl a29 6 s29 HF 2 rfl ?_ ?_; (simp); (intro K hK; go_simp)) | ((with_reducible refine k_load ?_); (first | refine st_load rfl _ _ rfl _ _ rfl ?_ HF 0 rfl rfl ?_ | refine st_load rfl _ _ rfl _ _ rfl ?_ HF 1 rfl rfl ?_ | refine st_load rfl _ _ rfl _ _ rfl ?_ HF 2 rfl rfl ?_ | refine st_load rfl _ _ rfl _ _ rfl ?_ HF 3 rfl rfl ?_); (kernel_rfl); (intro K hK; go_simp))      | ((with_reducible refine k_make ?_); refine st_make rfl _ _ _ rfl _ _ _ _ rfl rfl 3 Try.underlying27 8 ?_ 1 st3 (Value.int .i64 0) zt3 ?_ ?_ ?_ ?_ HF ?_; (kernel_rfl); (omega); (omega); (omega); (omega);        (clear HF; intro gl w HF K hK; replace HF : At W (Blk gl (.cells (List.replicate (S.length + 1) [Value.int .i64 0]).flatten.toArray 3 (0, 0)) :: Blk g2 (.cells #[.slice none 0 0, .int .i64 0, .int .i64 0, .int .i64 0, .int .i64 0, .int .i64 0] 29 (0, 0)) :: Blk g1 (.cells #[.slice ad S.length cap, .int .i64 cF, .int .i64 cP, .int .i64 cB, .int .i64 cK, .int .i64 cR] 29 (0, 0)) :: Arg W :: []) w := (by rw [← madeCells_recs [Value.int .i64 0] (by decide)]; have e : ((S.length : Int) + 1).toNat * 1 = (S.length + 1) * [Value.int .i64 0].length := (by rw [hn]; rfl); rw [e] at HF; exact HF); go_simp))      | ((with_reducible refine k_builtin ?_); refine st_copyR rfl _ _ _ _ rfl 3 Try.underlying27 1 st3 gl 0 (S.length + 1) (S.length + 1) S.length cap ad rfl rfl (iCs S) S.length ?_ Li.out ?_ Oi.out HF 0 rfl ?_ ?_; (show _ = min S.length (S.length + 1); omega);          (intro hp; obtain ⟨bb, hbb⟩ := C3.out (by have := Li.out; omega); exact ⟨bb, hbb, fun j u hj => (HF.ext 3 rfl).cell (C4.out bb hbb j u hj)⟩);          (rw [len_zeros (size := 1) rfl, Li.out]; omega); (clear HF; intro w HF K hK; simp only [List.set_cons_zero] at HF; rw [splice_fill (n := S.length) (size := 1) Li.out rfl] at HF; go_simp))      | ((with_reducible refine k_store (T := 3) ?_); refine st_store rfl _ _ _ rfl gl S.length rfl (Value.int .i64 (-77)) rfl rfl st3 HF 0 rfl ?_ ?_; (rw [List.size_toArray, List.length_append, Li.out]; simp); (clear HF; intro w HF K hK; simp only [List.set_cons_zero] at HF; rw [mark_set Li.out] at HF; go_simp)) | ((with_reducible refine k_store ?_); refine st_store rfl _ _ _ rfl _ _ rfl _ rfl rfl ?_ HF 2 rfl ?_ ?_; (kernel_rfl); (simp); (clear HF; intro w HF K hK; simp only [List.set_cons_zero, List.set_cons_succ, List.setIfInBounds_toArray, Act.eval, Value.cells, Array.getD_eq_getD_getElem?, List.getElem?_toArray, List.getElem?_cons_succ, List.getElem?_cons_zero, Option.getD_some] at HF; go_simp)) | ((with_reducible refine k_store (T := 29) ?_); refine st_put rfl _ _ _ rfl _ rfl _ rfl ?_ s29 HF 1 rfl rfl ?_; (simp [Value.oneCell']); (clear HF; intro w HF K hK; simp only [List.set_cons_zero, List.set_cons_succ, Act.eval, Value.cells, Array.getD_eq_getD_getElem?, List.getElem?_toArray, List.getElem?_cons_succ, List.getElem?_cons_zero, Option.getD_some] at HF; go_simp)))
  refine bodyPost_ret (results_cell rfl rfl a29 s29 (HF.get 1 rfl) rfl) rfl ?_
  exact ⟨gl, rfl, (HF.sel 4 [0, 3]).lift1 H0.out⟩

theorem lent_recs {g : Nat} {S : List Int} {m : Value} (hsz : S.length ≤ 17592186043904) (H : At w0 (Blk g (.cells (iCs S ++ [m]).toArray 3 (0, 0)) :: L) w) : RecsAt w (.slice (some ⟨g, 0, none⟩) S.length (S.length + 1)) 1 (S.map iC) := by
  have hl : (S.map iC).length = S.length := List.length_map _
  refine ⟨⟨some ⟨g, 0, none⟩, S.length + 1, by rw [hl], by rw [hl]; omega, by simp only [maxLen]; omega, fun _ => ⟨_, rfl⟩, fun b hb j u hj => ?_⟩, by intro r hr; obtain ⟨e, _, rfl⟩ := List.mem_map.1 hr; rfl⟩
  cases hb
  refine cells_of (c := iCs S ++ [m]) H.get0 j u ?_
  have hj2 : (iCs S)[j]? = some u := hj
  rw [List.getElem?_append_left (List.getElem?_eq_some_iff.1 hj2).1]
  exact hj2
theorem lent_mark {g : Nat} {S : List Int} {m : Value} (H : At w0 (Blk g (.cells (iCs S ++ [m]).toArray 3 (0, 0)) :: L) w) : w.cell? ⟨g, S.length, none⟩ = some m := by
  have := cells_of (c := iCs S ++ [m]) H.get0 S.length m (by rw [List.getElem?_append_right (by rw [iCs_len]; omega), iCs_len, Nat.mul_one, Nat.sub_self]; rfl)
  rwa [Addr.add_lit, Nat.zero_add] at this

theorem kept {g : Nat} {v : Value} {c : Cf} {S : List Int} {q : Nat} {W : World} (hL : L[q]? = some (Arg W)) (hv : RecsAt W v 1 (S.map iC)) (hsz : S.length ≤ 17592186043904) (H : At w0 (Blk g (.cells (iCs S ++ [Value.int .i64 (-77)]).toArray 3 (0, 0)) :: L) w) :
    Calls Try.prog 28 #[.agg #[.slice (some ⟨g, 0, none⟩) S.length (S.length + 1), .int .i64 c.F, .int .i64 c.P, .int .i64 c.B, .int .i64 c.K, .int .i64 c.R], .agg #[v, .int .i64 c.F, .int .i64 c.P, .int .i64 c.B, .int .i64 c.K, .int .i64 c.R]] w (Ret w0 (.bool true) L) := by
  obtain ⟨cF, cP, cB, cK, cR⟩ := c
  obtain ⟨ad, cap, rfl, c1, c2, c3⟩ := hv.value
  rw [List.length_map] at c1 c3 hv ⊢
  have HL := Lib.hid hL
  have HV := Lib.hid hv
  dsimp only
  have tok : True := trivial
  clear hL hv c3 c1 c2
  have HF := H
  clear H
  have hw1 : IntKind.i64.wrap ((S.length : Int) + 1) = ((S.length + 1 : Nat) : Int) := by rw [IntWalk.i64_in _ (by omega)]; omega
  have gl : (S.length : Int) < ((S.length + 1 : Nat) : Int) := by omega
  have gl2 : (S.length : Int) < (S.length : Int) + 1 := by omega
  go_enter Try.func28, Try.ntmps28
  go_wp2_with (first | ((with_reducible refine k_box (T := 29) ?_); (have _t := tok); refine st_box rfl _ _ rfl _ rfl HF ?_; (clear HF tok _t; intro g2 w HF K hK; simp only [Value.cells] at HF; go_simp)) | ((with_reducible refine k_box (T := 29) ?_); refine st_box rfl _ _ rfl _ rfl HF ?_; (clear HF; intro g3 w HF K hK; simp only [Value.cells] at HF; go_simp)))
  replace HF : At w0 (Blk g3 (.cells #[.slice ad S.length cap, .int .i64 cF, .int .i64 cP, .int .i64 cB, .int .i64 cK, .int .i64 cR] 29 (0, 0)) :: Blk g2 (.cells #[.slice (some ⟨g, 0, none⟩) S.length (S.length + 1), .int .i64 cF, .int .i64 cP, .int .i64 cB, .int .i64 cK, .int .i64 cR] 29 (0, 0)) :: Blk g (.cells (iCs S ++ [Value.int .i64 (-77)]).toArray 3 (0, 0)) :: L) _ := HF
  apply wp_region_eff [] (fun i => (#[[], [], [], [], [], [], [], [], [], [], [], [], [], [], [], [], [], [], [], [], [], []] : Array (List Nat)).getD i []) (fun val i => ((_ :: .slice (blkA g) S.length (S.length + 1) :: _ :: _ :: .slice ad S.length cap :: _ :: .bool false :: .bool false :: _ :: .slice (blkA g) S.length (S.length + 1) :: _ :: .slice ad S.length cap :: _ :: .int .i64 ((S.length + 1 : Nat) : Int) :: .slice (blkA g) (S.length + 1) (S.length + 1) :: _ :: .slice ad S.length cap :: _ :: _ :: .int .i64 (-77) :: .bool false :: .bool false :: []) : List Value).toArray.getD i undef) (fun E val => At w0 (Blk g3 (.cells #[.slice ad S.length cap, .int .i64 cF, .int .i64 cP, .int .i64 cB, .int .i64 cK, .int .i64 cR] 29 (0, 0)) :: Blk g2 (.cells #[.slice (some ⟨g, 0, none⟩) S.length (S.length + 1), .int .i64 cF, .int .i64 cP, .int .i64 cB, .int .i64 cK, .int .i64 cR] 29 (0, 0)) :: Blk g (.cells (iCs S ++ [Value.int .i64 (-77)]).toArray 3 (0, 0)) :: L)) (by kernel_rfl) (by kernel_rfl) (by kernel_rfl) (by kernel_rfl) (HF)
  case step =>
    iterate 22 (refine ⟨eff_pl rfl (fun _ => by rfl) fun E val hn T ds w K H hk ho hK => ?_, ?_⟩; rotate_left)
    exact trivial
    · have o2 := ho 2 (by kernel_rfl); clear ho; simp [know, dstAt, Region.binds] at hk o2; go_simp; exact hK _ H
    · clear ho; simp [know, dstAt, Region.binds] at hk
      (refine op_loadT rfl hk ?_ H 1 rfl rfl ?_; (kernel_rfl); exact hK _ H)
    · clear ho; simp [know, dstAt, Region.binds] at hk; go_simp; exact hK _ H
    · have o3 := ho 3 (by kernel_rfl); clear ho; simp [know, dstAt, Region.binds] at hk o3; go_simp; exact hK _ H
    · clear ho; simp [know, dstAt, Region.binds] at hk
      (refine op_loadT rfl hk ?_ H 0 rfl rfl ?_; (kernel_rfl); exact hK _ H)
    · clear ho; simp [know, dstAt, Region.binds] at hk; go_simp; exact hK _ H
    · clear ho; simp [know, dstAt, Region.binds] at hk; go_simp; exact hK _ H
    · clear ho; simp [know, dstAt, Region.binds] at hk; go_simp; exact hK _ H
    · have o2 := ho 2 (by kernel_rfl); clear ho; simp [know, dstAt, Region.binds] at hk o2; go_simp; exact hK _ H
    · clear ho; simp [know, dstAt, Region.binds] at hk
      (refine op_loadT rfl hk.1 ?_ H 1 rfl rfl ?_; (kernel_rfl); exact hK _ H)
    · have o3 := ho 3 (by kernel_rfl); clear ho; simp [know, dstAt, Region.binds] at hk o3; go_simp; exact hK _ H
    · clear ho; simp [know, dstAt, Region.binds] at hk
      (refine op_loadT rfl hk.1 ?_ H 0 rfl rfl ?_; (kernel_rfl); exact hK _ H)
    · clear ho; simp [know, dstAt, Region.binds] at hk; go_simp; exact hK _ H
    · clear ho; simp [know, dstAt, Region.binds] at hk; go_simp; exact hK _ H
    · clear ho; simp [know, dstAt, Region.binds] at hk
      first | (refine op_sliceT rfl hk.1 hk.2.1 Try.underlying27 st3 (by omega) ?_; exact hK _ H) | (go_simp; exact hK _ H)
    · have o3 := ho 3 (by kernel_rfl); clear ho; simp [know, dstAt, Region.binds] at hk o3; go_simp; exact hK _ H
    · clear ho; simp [know, dstAt, Region.binds] at hk
      (refine op_loadT rfl hk.1 ?_ H 0 rfl rfl ?_; (kernel_rfl); exact hK _ H)
    · clear ho; simp [know, dstAt, Region.binds] at hk; go_simp; exact hK _ H
    · clear ho; simp [know, dstAt, Region.binds] at hk; go_simp; exact hK _ H
    · clear ho; simp [know, dstAt, Region.binds] at hk
      (refine op_load1T rfl hk.1 (by kernel_rfl) (lent_mark (H.pick 2 rfl)) ?_; exact hK _ H)
    · clear ho; simp [know, dstAt, Region.binds] at hk; go_simp; exact hK _ H
    · clear ho; simp [know, dstAt, Region.binds] at hk; go_simp; exact hK _ H
  case ins =>
    iterate 22 (refine ⟨ins_pl rfl (fun _ _ _ => rfl), ?_⟩)
    exact trivial
  case jns =>
    iterate 22 (refine ⟨j_pl (fun _ _ _ => rfl), ?_⟩)
    exact trivial
  case fin =>
    intro E val w5 hE H
    clear HF hE hw1 gl gl2
    have HF := H
    clear H
    simp [putAll, Act.put]
    go_wp2_with (first | ((with_reducible refine k_load ?_); (first | refine st_load rfl _ _ rfl _ _ rfl ?_ HF 0 rfl rfl ?_ | refine st_load rfl _ _ rfl _ _ rfl ?_ HF 1 rfl rfl ?_); (kernel_rfl); (intro K hK; go_simp)))
    refine (sameInts (lent_recs hsz (HF.pick 2 rfl)) (HV.out.ext (HF.ext (q + 3) HL.out)) HF).mono ?_
    rintro e w6 ⟨rfl, HX⟩
    go_wp2_with fail
    go_ret
    exact ⟨rfl, HX.sel 3 []⟩

def BothPost (w0 : World) (L : List HProp) (c : Cf) (S : List Int) (e : Ending) (w' : World) : Prop :=
  (RightC c S ∧ ∃ g1 g2, e = .returned (.tuple #[.pointer (some ⟨g1, 0, none⟩), .pointer (some ⟨g2, 0, none⟩), .bool true]) ∧ At w0 (RgR 84 87 g1 c (sortI S) (sortP (ptsOf (sortI S) c.P.toNat)) :: RgR 45 81 g2 c (sortI S) (sortP (ptsOf (sortI S) c.P.toNat)) :: L) w') ∨
  (¬ RightC c S ∧ e = .returned (.tuple #[.pointer none, .pointer none, .bool true]) ∧ At w0 L w')
theorem both {v : Value} {c : Cf} {S : List Int} (hv : RecsAt w v 1 (S.map iC)) (hsz : S.length ≤ 17592186043904) (H : At w0 L w) :
    Calls Try.prog 13 #[.agg #[v, .int .i64 c.F, .int .i64 c.P, .int .i64 c.B, .int .i64 c.K, .int .i64 c.R]] w (BothPost w0 L c S) := by
  obtain ⟨W, rfl⟩ : ∃ W : World, W = w := ⟨_, rfl⟩
  have HF := At.of W
  have H0 := Lib.hid H
  have HV := Lib.hid hv
  obtain ⟨pts, hpts⟩ : ∃ pts, sortP (ptsOf (sortI S) c.P.toNat) = pts := ⟨_, rfl⟩
  unfold BothPost
  rw [hpts]
  obtain ⟨SS, hSS⟩ : ∃ SS, sortI S = SS := ⟨_, rfl⟩
  rw [hSS]
  have HNw := Lib.hid (fun (w2 : World) (M : List HProp) (v2 : Value) (h2 : RecsAt w2 v2 1 (S.map iC)) (HM : At W M w2) => new (c := c) h2 HM)
  have HRn := Lib.hid (fun (w2 : World) (M : List HProp) (v2 : Value) (h2 : RecsAt w2 v2 1 (S.map iC)) (HM : At W M w2) => rnew (c := c) h2 HM)
  unfold NewPost at HNw HRn
  rw [hpts, hSS] at HNw HRn
  have HLd := Lib.hid (fun (w2 : World) (M : List HProp) (v2 : Value) (h2 : RecsAt w2 v2 1 (S.map iC)) (HM : At W M w2) => lend (c := c) h2 hsz HM)
  have HKp := Lib.hid (fun (w2 : World) (M : List HProp) (q : Nat) (g : Nat) (v2 : Value) (hL : M[q]? = some (Arg W)) (h2 : RecsAt W v2 1 (S.map iC)) (HM : At W (Blk g (.cells (iCs S ++ [Value.int .i64 (-77)]).toArray 3 (0, 0)) :: M) w2) => kept (c := c) hL h2 hsz HM)
  obtain ⟨ad, cap, rfl, c1, c2, c3⟩ := hv.value
  rw [List.length_map] at c1 c3 HV ⊢
  obtain ⟨cF, cP, cB, cK, cR⟩ := c
  dsimp only at *
  clear H hv c3 c1 c2 hpts hSS
  go_enter Try.func13, Try.ntmps13
  go_wp2_with (first | ((with_reducible refine k_box ?_); refine st_box rfl _ _ rfl _ rfl HF ?_; (clear HF; intro g1 w HF K hK; simp only [Value.cells, Act.eval, Value.cells, Array.getD_eq_getD_getElem?, List.getElem?_toArray, List.getElem?_cons_succ, List.getElem?_cons_zero, Option.getD_some] at HF; go_simp)) | ((with_reducible refine k_load (T := 29) ?_); refine st_row rfl _ _ rfl _ rfl a29 6 s29 HF 0 rfl rfl ?_; (intro K hK; go_simp)) | ((with_reducible refine k_load (T := 29) ?_); refine st_loads rfl _ _ rfl _ _ rfl a29 6 s29 HF 0 rfl ?_ ?_; (simp); (intro K hK; go_simp)))
  refine (HLd.out _ _ _ (HV.out.ext (HF.ext 1 rfl)) HF).mono ?_
  rintro e w2 ⟨gl, rfl, HX⟩
  clear HF HLd
  have HF := HX
  clear HX
  go_wp2_with (first | ((with_reducible refine k_alloc (T := 29) ?_); refine st_alloc rfl _ rfl _ z29 _ rfl HF ?_; (clear HF; intro g5 w HF K hK; simp only [Value.cells] at HF; go_simp)) | ((with_reducible refine k_store (T := 29) ?_); refine st_put rfl _ _ _ rfl _ rfl _ rfl ?_ s29 HF 0 rfl rfl ?_; (simp [Value.oneCell']); (clear HF; intro w HF K hK; simp only [List.set_cons_zero, List.set_cons_succ, Act.eval, Value.cells, Array.getD_eq_getD_getElem?, List.getElem?_toArray, List.getElem?_cons_succ, List.getElem?_cons_zero, Option.getD_some] at HF; go_simp)) | ((with_reducible refine k_load (T := 29) ?_); refine st_row rfl _ _ rfl _ rfl a29 6 s29 HF 0 rfl rfl ?_; (intro K hK; go_simp)) | ((with_reducible refine k_load (T := 29) ?_); refine st_loads rfl _ _ rfl _ _ rfl a29 6 s29 HF 0 rfl ?_ ?_; (simp); (intro K hK; go_simp)))
  refine (HNw.out _ _ _ (lent_recs hsz (HF.pick 1 rfl)) HF).mono ?_
  rintro e w3 (⟨ga, rfl, hRC, HX⟩ | ⟨rfl, hRC, HX⟩)
  · clear HF HNw
    have HF := HX
    clear HX
    have HRC := Lib.hid hRC
    clear hRC
    go_wp2_with (first | ((with_reducible refine k_load (T := 29) ?_); refine st_row rfl _ _ rfl _ rfl a29 6 s29 HF 3 rfl rfl ?_; (intro K hK; go_simp)) | ((with_reducible refine k_load (T := 29) ?_); refine st_loads rfl _ _ rfl _ _ rfl a29 6 s29 HF 3 rfl ?_ ?_; (simp); (intro K hK; go_simp)))
    refine (HRn.out _ _ _ (HV.out.ext (HF.ext 4 rfl)) HF).mono ?_
    rintro e w4 (⟨gb, rfl, _, HX⟩ | ⟨_, hn, _⟩)
    case inr => exact absurd HRC.out hn
    clear HF HRn
    have HF := HX
    clear HX
    go_wp2_with (first | ((with_reducible refine k_load (T := 29) ?_); (first | refine st_row rfl _ _ rfl _ rfl a29 6 s29 HF 2 rfl rfl ?_ | refine st_row rfl _ _ rfl _ rfl a29 6 s29 HF 4 rfl rfl ?_); (intro K hK; go_simp)) | ((with_reducible refine k_load (T := 29) ?_); (first | refine st_loads rfl _ _ rfl _ _ rfl a29 6 s29 HF 2 rfl ?_ ?_ | refine st_loads rfl _ _ rfl _ _ rfl a29 6 s29 HF 4 rfl ?_ ?_); (simp); (intro K hK; go_simp)))
    refine (HKp.out _ _ 4 _ _ rfl HV.out (HF.sel 6 [3, 0, 1, 2, 4, 5])).mono ?_
    rintro e w5 ⟨rfl, HX⟩
    go_wp2_with fail
    refine bodyPost_ret (results_tmp3 rfl _ _ _) rfl ?_
    exact .inl ⟨HRC.out, ga, gb, rfl, (show At W ([RgR 84 87 ga ⟨cF, cP, cB, cK, cR⟩ SS pts, RgR 45 81 gb ⟨cF, cP, cB, cK, cR⟩ SS pts] ++ [Arg W]) _ from HX.sel 5 [1, 0, 4]).lift H0.out⟩
  · clear HF HNw
    have HF := HX
    clear HX
    have HRC := Lib.hid hRC
    clear hRC
    go_wp2_with (first | ((with_reducible refine k_load (T := 29) ?_); refine st_row rfl _ _ rfl _ rfl a29 6 s29 HF 2 rfl rfl ?_; (intro K hK; go_simp)) | ((with_reducible refine k_load (T := 29) ?_); refine st_loads rfl _ _ rfl _ _ rfl a29 6 s29 HF 2 rfl ?_ ?_; (simp); (intro K hK; go_simp)))
    refine (HRn.out _ _ _ (HV.out.ext (HF.ext 3 rfl)) HF).mono ?_
    rintro e w4 (⟨gb, _, hp, _⟩ | ⟨rfl, _, HX⟩)
    case inl => exact absurd hp HRC.out
    clear HF HRn
    have HF := HX
    clear HX
    go_wp2_with (first | ((with_reducible refine k_load (T := 29) ?_); (first | refine st_row rfl _ _ rfl _ rfl a29 6 s29 HF 0 rfl rfl ?_ | refine st_row rfl _ _ rfl _ rfl a29 6 s29 HF 2 rfl rfl ?_); (intro K hK; go_simp)) | ((with_reducible refine k_load (T := 29) ?_); (first | refine st_loads rfl _ _ rfl _ _ rfl a29 6 s29 HF 0 rfl ?_ ?_ | refine st_loads rfl _ _ rfl _ _ rfl a29 6 s29 HF 2 rfl ?_ ?_); (simp); (intro K hK; go_simp)))
    refine (HKp.out _ _ 2 _ _ rfl HV.out (HF.sel 4 [1, 0, 2, 3])).mono ?_
    rintro e w5 ⟨rfl, HX⟩
    go_wp2_with fail
    refine bodyPost_ret (results_tmp3 rfl _ _ _) rfl ?_
    exact .inr ⟨HRC.out, rfl, (HX.sel 3 [2]).lift0 H0.out⟩
end
end Rg
end Go.Proofs.Ytohfboolicheeaa
