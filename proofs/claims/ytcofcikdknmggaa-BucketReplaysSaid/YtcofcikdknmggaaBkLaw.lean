/-
  The statements' own functions: lists, buckets, answers that are the same; a bucket lent.
-/
import Derived.Test.YtcofcikdknmggaaBkApply
namespace Go.Proofs.Ytcofcikdknmggaa
open Go.Hp Go.RowKit
set_option linter.unusedVariables false
set_option linter.unusedSimpArgs false
set_option maxRecDepth 100000
set_option maxHeartbeats 2000000
namespace Bk

theorem En.fits (e : En) : Fits entK e.cells := ⟨⟨_, rfl⟩, ⟨_, rfl⟩, ⟨_, rfl⟩, ⟨_, rfl⟩, trivial⟩
theorem La.fits (e : La) : Fits lastK e.cells := ⟨⟨_, rfl⟩, ⟨_, rfl⟩, ⟨_, rfl⟩, ⟨_, rfl⟩, ⟨_, rfl⟩, ⟨_, rfl⟩, ⟨_, rfl⟩, trivial⟩

def zE : List Value := [.string ⟨#[]⟩, .int .i64 0, .int .i64 0, .int .i64 0]
def zL : List Value := [.int .i64 0, .int .i64 0, .int .i64 0, .int .i64 0, .int .i64 0, .int .i64 0, .int .i64 0]
def mkE : List Value := [.string ⟨#[109, 97, 114, 107]⟩, .int .i64 0, .int .i64 0, .int .i64 (-9)]
def mkL : List Value := [.int .i64 (-9), .int .i64 0, .int .i64 0, .int .i64 0, .int .i64 0, .int .i64 0, .int .i64 0]

theorem splice_fill {A z : List Value} {n size : Nat} (hA : A.length = n * size) (hz : z.length = size) : splice (List.replicate (n + 1) z).flatten 0 A = A ++ z := by
  have e : (List.replicate (n + 1) z).flatten = (List.replicate n z).flatten ++ z := by rw [← List.replicate_append_replicate, List.flatten_append]; simp
  rw [splice_eq, List.take_zero, List.nil_append, Nat.zero_add, e, List.drop_left' (by rw [len_zeros hz, hA])]
theorem fill_mark {A z m : List Value} {n size : Nat} (hA : A.length = n * size) (hz : z.length = size) (hm : m.length = size) : (A ++ z).take (n * size) ++ m ++ (A ++ z).drop (n * size + m.length) = A ++ m := by
  rw [List.take_left' hA, List.drop_of_length_le (by rw [List.length_append]; omega), List.append_nil]

section
variable {w0 w : World} {L : List HProp}

theorem lent_e {g : Nat} {es : List En} {m : List Value} (hb : es.length * 40 ≤ 140737488355328) (H : At w0 (Blk g (.cells (eC es ++ m).toArray 39 (0, 0)) :: L) w) : RecsAt w (.slice (some ⟨g, 0, none⟩) es.length (es.length + 1)) 4 (es.map En.cells) := by
  refine ⟨⟨_, _, by rw [List.length_map], by rw [List.length_map]; omega, by simp only [maxLen]; omega, fun _ => ⟨_, rfl⟩, fun b hbb j u hj => ?_⟩, by intro r hr; obtain ⟨e, _, rfl⟩ := List.mem_map.1 hr; rfl⟩
  cases hbb
  replace hj : (eC es)[j]? = some u := hj
  rw [Addr.add_lit, Nat.zero_add, cell_of_row w g j _ _ _ H.get0, List.getElem?_toArray, List.getElem?_append_left (List.getElem?_eq_some_iff.1 hj).1]
  exact hj
theorem lent_l {g : Nat} {es : List La} {m : List Value} (hb : es.length * 56 ≤ 140737488355328) (H : At w0 (Blk g (.cells (lC es ++ m).toArray 53 (0, 0)) :: L) w) : RecsAt w (.slice (some ⟨g, 0, none⟩) es.length (es.length + 1)) 7 (es.map La.cells) := by
  refine ⟨⟨_, _, by rw [List.length_map], by rw [List.length_map]; omega, by simp only [maxLen]; omega, fun _ => ⟨_, rfl⟩, fun b hbb j u hj => ?_⟩, by intro r hr; obtain ⟨e, _, rfl⟩ := List.mem_map.1 hr; rfl⟩
  cases hbb
  replace hj : (lC es)[j]? = some u := hj
  rw [Addr.add_lit, Nat.zero_add, cell_of_row w g j _ _ _ H.get0, List.getElem?_toArray, List.getElem?_append_left (List.getElem?_eq_some_iff.1 hj).1]
  exact hj

theorem sameE {v1 v2 : Value} {l : List En} (h1 : RecsAt w v1 4 (l.map En.cells)) (h2 : RecsAt w v2 4 (l.map En.cells)) (hb : l.length ≤ 140737488355328) (H : At w0 L w) :
    Calls Try.prog 32 #[v1, v2] w (fun e w' => e = .returned (.bool true) ∧ At w0 L w') := by
  obtain ⟨W, rfl⟩ : ∃ W : World, W = w := ⟨_, rfl⟩
  have HF := At.of W
  have H0 := Lib.hid H
  obtain ⟨ad1, cap1, rfl, c1, c2, c3⟩ := h1.value
  obtain ⟨ad2, cap2, rfl, d1, d2, d3⟩ := h2.value
  rw [List.length_map] at c1 c3 d1 d3 h1 h2 ⊢
  have R1 := Lib.hid h1
  have R2 := Lib.hid h2
  have C3 := Lib.hid c3
  have D3 := Lib.hid d3
  clear H h1 h2 c3 d3
  go_enter Try.func32, Try.ntmps32
  go_wp2_with fail
  go_loopw [5] (fun i wr => ∃ k : Nat, k ≤ l.length ∧ i = .int .i64 k ∧ At W (Arg W :: []) wr) (fun i _ => l.length - (intOf i).toNat)
  case atStart => exact ⟨0, Nat.zero_le _, rfl, HF⟩
  case round =>
    clear HF
    obtain ⟨k, hk, rfl, HF⟩ := hrel
    by_cases hlt : k < l.length
    · have g1 : (k : Int) < l.length := by omega
      obtain ⟨r, hr⟩ : ∃ r, l[k]? = some r := ⟨_, List.getElem?_eq_getElem hlt⟩
      have hz2 : ∀ w, (Op.equalIn 10000 39 (.agg r.cells.toArray) (.agg r.cells.toArray)).run Try.prog w = .ok true w := fun w => run_eq_self 9 (by decide) fEntry a39 r.fits
      obtain ⟨b1, rfl⟩ := C3.out (by omega)
      obtain ⟨b2, rfl⟩ := D3.out (by omega)
      have C1 := Lib.hid (recs_get R1.out hr)
      have C2 := Lib.hid (recs_get R2.out hr)
      have Hs := Lib.hid (show sizeT Try.prog 39 = some r.cells.length from s39)
      clear hr
      go_wp2_with fail
      apply wp_region_eff [] (fun i => (#[[], [], [], [], [], [], [], [], []] : Array (List Nat)).getD i []) (fun val i => ((_ :: _ :: _ :: _ :: _ :: _ :: _ :: _ :: _ :: []) : List Value).toArray.getD i undef) (fun E val => At W (Arg W :: [])) (by kernel_rfl) (by kernel_rfl) (by kernel_rfl) (by kernel_rfl) (HF)
      case step =>
        iterate 9 (refine ⟨eff_pl rfl (fun _ => by rfl) fun E val hn T ds w K H hk ho hK => ?_, ?_⟩; rotate_left)
        exact trivial
        · have o0 := ho 0 (by kernel_rfl); clear ho; simp [know, dstAt, Region.binds] at hk o0; go_simp; exact hK _ H
        · have o5 := ho 5 (by kernel_rfl); clear ho; simp [know, dstAt, Region.binds] at hk o5; go_simp; exact hK _ H
        · clear ho; simp [know, dstAt, Region.binds] at hk; go_simp; exact hK _ H
        · clear ho; simp [know, dstAt, Region.binds] at hk
          first | (refine op_cellsT (vs := r.cells) rfl hk a39 Hs.out (fun j u hj => (H.ext 0 rfl).cell (C1.out j u hj)) ?_; exact hK _ H) | (refine op_cellsT (vs := r.cells) rfl hk a39 Hs.out (fun j u hj => (H.ext 0 rfl).cell (C2.out j u hj)) ?_; exact hK _ H)
        · have o1 := ho 1 (by kernel_rfl); clear ho; simp [know, dstAt, Region.binds] at hk o1; go_simp; exact hK _ H
        · have o5 := ho 5 (by kernel_rfl); clear ho; simp [know, dstAt, Region.binds] at hk o5; go_simp; exact hK _ H
        · clear ho; simp [know, dstAt, Region.binds] at hk; go_simp; exact hK _ H
        · clear ho; simp [know, dstAt, Region.binds] at hk
          first | (refine op_cellsT (vs := r.cells) rfl hk a39 Hs.out (fun j u hj => (H.ext 0 rfl).cell (C1.out j u hj)) ?_; exact hK _ H) | (refine op_cellsT (vs := r.cells) rfl hk a39 Hs.out (fun j u hj => (H.ext 0 rfl).cell (C2.out j u hj)) ?_; exact hK _ H)
        · clear ho; simp [know, dstAt, Region.binds] at hk; go_simp; exact hK _ H
      case ins =>
        iterate 9 (refine ⟨ins_pl rfl (fun _ _ _ => rfl), ?_⟩)
        exact trivial
      case jns =>
        iterate 9 (refine ⟨j_pl (fun _ _ _ => rfl), ?_⟩)
        exact trivial
      case fin =>
        intro E val w5 hE H
        clear HF hE
        have HF := H
        clear H
        simp [putAll, Act.put]
        go_wp2_with fail
        go_roundw
        case rel => exact ⟨k + 1, by omega, rfl, HF⟩
        case measure => simp [intOf]; omega
    · have g1 : ¬ (k : Int) < l.length := by omega
      go_wp2_with fail
      go_ret
      exact ⟨rfl, HF.lift0 H0.out⟩
theorem sameL {v1 v2 : Value} {l : List La} (h1 : RecsAt w v1 7 (l.map La.cells)) (h2 : RecsAt w v2 7 (l.map La.cells)) (hb : l.length ≤ 140737488355328) (H : At w0 L w) :
    Calls Try.prog 39 #[v1, v2] w (fun e w' => e = .returned (.bool true) ∧ At w0 L w') := by
  obtain ⟨W, rfl⟩ : ∃ W : World, W = w := ⟨_, rfl⟩
  have HF := At.of W
  have H0 := Lib.hid H
  obtain ⟨ad1, cap1, rfl, c1, c2, c3⟩ := h1.value
  obtain ⟨ad2, cap2, rfl, d1, d2, d3⟩ := h2.value
  rw [List.length_map] at c1 c3 d1 d3 h1 h2 ⊢
  have R1 := Lib.hid h1
  have R2 := Lib.hid h2
  have C3 := Lib.hid c3
  have D3 := Lib.hid d3
  clear H h1 h2 c3 d3
  go_enter Try.func39, Try.ntmps39
  go_wp2_with fail
  go_loopw [5] (fun i wr => ∃ k : Nat, k ≤ l.length ∧ i = .int .i64 k ∧ At W (Arg W :: []) wr) (fun i _ => l.length - (intOf i).toNat)
  case atStart => exact ⟨0, Nat.zero_le _, rfl, HF⟩
  case round =>
    clear HF
    obtain ⟨k, hk, rfl, HF⟩ := hrel
    by_cases hlt : k < l.length
    · have g1 : (k : Int) < l.length := by omega
      obtain ⟨r, hr⟩ : ∃ r, l[k]? = some r := ⟨_, List.getElem?_eq_getElem hlt⟩
      have hz2 : ∀ w, (Op.equalIn 10000 53 (.agg r.cells.toArray) (.agg r.cells.toArray)).run Try.prog w = .ok true w := fun w => run_eq_self 9 (by decide) fLast a53 r.fits
      obtain ⟨b1, rfl⟩ := C3.out (by omega)
      obtain ⟨b2, rfl⟩ := D3.out (by omega)
      have C1 := Lib.hid (recs_get R1.out hr)
      have C2 := Lib.hid (recs_get R2.out hr)
      have Hs := Lib.hid (show sizeT Try.prog 53 = some r.cells.length from s53)
      clear hr
      go_wp2_with fail
      apply wp_region_eff [] (fun i => (#[[], [], [], [], [], [], [], [], []] : Array (List Nat)).getD i []) (fun val i => ((_ :: _ :: _ :: _ :: _ :: _ :: _ :: _ :: _ :: []) : List Value).toArray.getD i undef) (fun E val => At W (Arg W :: [])) (by kernel_rfl) (by kernel_rfl) (by kernel_rfl) (by kernel_rfl) (HF)
      case step =>
        iterate 9 (refine ⟨eff_pl rfl (fun _ => by rfl) fun E val hn T ds w K H hk ho hK => ?_, ?_⟩; rotate_left)
        exact trivial
        · have o0 := ho 0 (by kernel_rfl); clear ho; simp [know, dstAt, Region.binds] at hk o0; go_simp; exact hK _ H
        · have o5 := ho 5 (by kernel_rfl); clear ho; simp [know, dstAt, Region.binds] at hk o5; go_simp; exact hK _ H
        · clear ho; simp [know, dstAt, Region.binds] at hk; go_simp; exact hK _ H
        · clear ho; simp [know, dstAt, Region.binds] at hk
          first | (refine op_cellsT (vs := r.cells) rfl hk a53 Hs.out (fun j u hj => (H.ext 0 rfl).cell (C1.out j u hj)) ?_; exact hK _ H) | (refine op_cellsT (vs := r.cells) rfl hk a53 Hs.out (fun j u hj => (H.ext 0 rfl).cell (C2.out j u hj)) ?_; exact hK _ H)
        · have o1 := ho 1 (by kernel_rfl); clear ho; simp [know, dstAt, Region.binds] at hk o1; go_simp; exact hK _ H
        · have o5 := ho 5 (by kernel_rfl); clear ho; simp [know, dstAt, Region.binds] at hk o5; go_simp; exact hK _ H
        · clear ho; simp [know, dstAt, Region.binds] at hk; go_simp; exact hK _ H
        · clear ho; simp [know, dstAt, Region.binds] at hk
          first | (refine op_cellsT (vs := r.cells) rfl hk a53 Hs.out (fun j u hj => (H.ext 0 rfl).cell (C1.out j u hj)) ?_; exact hK _ H) | (refine op_cellsT (vs := r.cells) rfl hk a53 Hs.out (fun j u hj => (H.ext 0 rfl).cell (C2.out j u hj)) ?_; exact hK _ H)
        · clear ho; simp [know, dstAt, Region.binds] at hk; go_simp; exact hK _ H
      case ins =>
        iterate 9 (refine ⟨ins_pl rfl (fun _ _ _ => rfl), ?_⟩)
        exact trivial
      case jns =>
        iterate 9 (refine ⟨j_pl (fun _ _ _ => rfl), ?_⟩)
        exact trivial
      case fin =>
        intro E val w5 hE H
        clear HF hE
        have HF := H
        clear H
        simp [putAll, Act.put]
        go_wp2_with fail
        go_roundw
        case rel => exact ⟨k + 1, by omega, rfl, HF⟩
        case measure => simp [intOf]; omega
    · have g1 : ¬ (k : Int) < l.length := by omega
      go_wp2_with fail
      go_ret
      exact ⟨rfl, HF.lift0 H0.out⟩

theorem sameBu {ve vl ve2 vl2 : Value} {b : Bu} (he : RecsAt w ve 4 (b.es.map En.cells)) (hl : RecsAt w vl 7 (b.ls.map La.cells)) (he2 : RecsAt w ve2 4 (b.es.map En.cells)) (hl2 : RecsAt w vl2 7 (b.ls.map La.cells)) (be : b.es.length ≤ 140737488355328) (bl : b.ls.length ≤ 140737488355328) (H : At w0 L w) :
    Calls Try.prog 22 #[.agg #[.int .i64 b.u, ve, vl], .agg #[.int .i64 b.u, ve2, vl2]] w (fun e w' => e = .returned (.bool true) ∧ At w0 L w') := by
  obtain ⟨W, rfl⟩ : ∃ W : World, W = w := ⟨_, rfl⟩
  have HF := At.of W
  have H0 := Lib.hid H
  have R1 := Lib.hid he
  have R2 := Lib.hid he2
  have Q1 := Lib.hid hl
  have Q2 := Lib.hid hl2
  clear H he hl he2 hl2
  have tok : True := trivial
  go_enter Try.func22, Try.ntmps22
  go_wp2_with (first | ((with_reducible refine k_box (T := 25) ?_); (have _t := tok); refine st_box rfl _ _ rfl _ rfl HF ?_; (clear HF tok _t; intro g2 w HF K hK; simp only [Value.cells, Act.eval, Value.cells, Array.getD_eq_getD_getElem?, List.getElem?_toArray, List.getElem?_cons_succ, List.getElem?_cons_zero, Option.getD_some] at HF; go_simp)) | ((with_reducible refine k_box (T := 25) ?_); refine st_box rfl _ _ rfl _ rfl HF ?_; (clear HF; intro g3 w HF K hK; simp only [Value.cells, Act.eval, Value.cells, Array.getD_eq_getD_getElem?, List.getElem?_toArray, List.getElem?_cons_succ, List.getElem?_cons_zero, Option.getD_some] at HF; go_simp)) | ((with_reducible refine k_load ?_); (first | refine st_load rfl _ _ rfl _ _ rfl ?_ HF 0 rfl rfl ?_ | refine st_load rfl _ _ rfl _ _ rfl ?_ HF 1 rfl rfl ?_); (kernel_rfl); (intro K hK; go_simp)))
  refine (sameE (R1.out.ext (HF.ext 2 rfl)) (R2.out.ext (HF.ext 2 rfl)) be HF).mono ?_
  rintro e w3 ⟨rfl, HX⟩
  replace HF := HX
  clear HX
  go_wp2_with ((with_reducible refine k_load ?_); (first | refine st_load rfl _ _ rfl _ _ rfl ?_ HF 0 rfl rfl ?_ | refine st_load rfl _ _ rfl _ _ rfl ?_ HF 1 rfl rfl ?_); (kernel_rfl); (intro K hK; go_simp))
  refine (sameL (Q1.out.ext (HF.ext 2 rfl)) (Q2.out.ext (HF.ext 2 rfl)) bl HF).mono ?_
  rintro e w3 ⟨rfl, HX⟩
  replace HF := HX
  clear HX
  go_wp2_with fail
  go_ret
  exact ⟨rfl, (HF.sel 3 [2]).lift0 H0.out⟩

theorem sameA {va va2 : Value} {a : An} (h1 : RecsAt w va 4 (a.l.map En.cells)) (h2 : RecsAt w va2 4 (a.l.map En.cells)) (hb : a.l.length ≤ 140737488355328) (H : At w0 L w) :
    Calls Try.prog 25 #[anV a.err a.e va, anV a.err a.e va2] w (fun e w' => e = .returned (.bool true) ∧ At w0 L w') := by
  obtain ⟨W, rfl⟩ : ∃ W : World, W = w := ⟨_, rfl⟩
  have HF := At.of W
  have H0 := Lib.hid H
  have R1 := Lib.hid h1
  have R2 := Lib.hid h2
  obtain ⟨er, ⟨xn, xf, xo, xs⟩, al⟩ := a
  dsimp only at *
  clear H h1 h2
  simp only [anV]
  have hz2 : ∀ w, (Op.equalIn 10000 39 (.agg #[.string xn, .int .i64 xf, .int .i64 xo, .int .i64 xs]) (.agg #[.string xn, .int .i64 xf, .int .i64 xo, .int .i64 xs])).run Try.prog w = .ok true w := fun w => run_eq_self 9 (by decide) fEntry a39 (En.fits ⟨xn, xf, xo, xs⟩)
  have tok : True := trivial
  go_enter Try.func25, Try.ntmps25
  go_wp2_with (first | ((with_reducible refine k_box (T := 41) ?_); (have _t := tok); refine st_box rfl _ _ rfl _ rfl HF ?_; (clear HF tok _t; intro g2 w HF K hK; simp only [Value.cells, Act.eval, Value.cells, Array.getD_eq_getD_getElem?, List.getElem?_toArray, List.getElem?_cons_succ, List.getElem?_cons_zero, Option.getD_some] at HF; go_simp)) | ((with_reducible refine k_box (T := 41) ?_); refine st_box rfl _ _ rfl _ rfl HF ?_; (clear HF; intro g3 w HF K hK; simp only [Value.cells, Act.eval, Value.cells, Array.getD_eq_getD_getElem?, List.getElem?_toArray, List.getElem?_cons_succ, List.getElem?_cons_zero, Option.getD_some] at HF; go_simp)) | ((with_reducible refine k_load (T := 39) ?_); (first | refine st_row rfl _ _ rfl _ rfl a39 4 s39 HF 0 rfl rfl ?_ | refine st_row rfl _ _ rfl _ rfl a39 4 s39 HF 1 rfl rfl ?_); (intro K hK; go_simp)) | ((with_reducible refine k_load (T := 39) ?_); (first | refine st_loads rfl _ _ rfl _ _ rfl a39 4 s39 HF 0 rfl ?_ ?_ | refine st_loads rfl _ _ rfl _ _ rfl a39 4 s39 HF 1 rfl ?_ ?_); (simp); (intro K hK; go_simp)) | ((with_reducible refine k_load ?_); (first | refine st_load rfl _ _ rfl _ _ rfl ?_ HF 0 rfl rfl ?_ | refine st_load rfl _ _ rfl _ _ rfl ?_ HF 1 rfl rfl ?_); (kernel_rfl); (intro K hK; go_simp)))
  refine (sameE (R1.out.ext (HF.ext 2 rfl)) (R2.out.ext (HF.ext 2 rfl)) hb HF).mono ?_
  rintro e w3 ⟨rfl, HX⟩
  replace HF := HX
  clear HX
  go_wp2_with fail
  go_ret
  exact ⟨rfl, (HF.sel 3 [2]).lift0 H0.out⟩

theorem Lend {ve vl : Value} {b : Bu} (he : RecsAt w ve 4 (b.es.map En.cells)) (hl : RecsAt w vl 7 (b.ls.map La.cells)) (be : (b.es.length + 1) * 40 ≤ 140737488355328) (bl : (b.ls.length + 1) * 56 ≤ 140737488355328) (H : At w0 L w) :
    Calls Try.prog 18 #[.agg #[.int .i64 b.u, ve, vl]] w (fun e w' => ∃ ge gl, e = .returned (.agg #[.int .i64 b.u, .slice (some ⟨ge, 0, none⟩) b.es.length (b.es.length + 1), .slice (some ⟨gl, 0, none⟩) b.ls.length (b.ls.length + 1)]) ∧
      At w0 (Blk ge (.cells (eC b.es ++ mkE).toArray 39 (0, 0)) :: Blk gl (.cells (lC b.ls ++ mkL).toArray 53 (0, 0)) :: L) w') := by
  obtain ⟨W, rfl⟩ : ∃ W : World, W = w := ⟨_, rfl⟩
  have HF := At.of W
  have H0 := Lib.hid H
  obtain ⟨u, es, ls⟩ := b
  dsimp only at *
  have Le := Lib.hid (eC_len es)
  have Ll := Lib.hid (lC_len ls)
  have Oe := Lib.hid (eC_one es)
  have Ol := Lib.hid (lC_one ls)
  obtain ⟨⟨ade, cape, rfl, e1, e2, e3, e4⟩, e5⟩ := he
  obtain ⟨⟨adl, capl, rfl, l1, l2, l3, l4⟩, l5⟩ := hl
  rw [List.length_map] at e1 e3 l1 l3
  have E3 := Lib.hid e3
  have E4 := Lib.hid (show ∀ b, ade = some b → ∀ j u, (eC es)[j]? = some u → W.cell? (b.add j) = some u from e4)
  have L3 := Lib.hid l3
  have L4 := Lib.hid (show ∀ b, adl = some b → ∀ j u, (lC ls)[j]? = some u → W.cell? (b.add j) = some u from l4)
  clear H e3 e4 e5 l3 l4 l5
  have hn : ((es.length : Int) + 1).toNat = es.length + 1 := by omega
  have hn2 : ((ls.length : Int) + 1).toNat = ls.length + 1 := by omega
  simp only [List.length_map]
  go_enter Try.func18, Try.ntmps18
  go_wp2_with (first | ((with_reducible refine k_box ?_); refine st_box rfl _ _ rfl _ rfl HF ?_; (clear HF; intro g1 w HF K hK; simp only [Value.cells, Act.eval, Value.cells, Array.getD_eq_getD_getElem?, List.getElem?_toArray, List.getElem?_cons_succ, List.getElem?_cons_zero, Option.getD_some] at HF; go_simp)) | ((with_reducible refine k_alloc (T := 25) ?_); refine st_alloc rfl _ rfl _ z25 _ rfl HF ?_; (clear HF; intro g2 w HF K hK; simp only [Value.cells] at HF; go_simp)) | ((with_reducible refine k_load ?_); (first | refine st_load rfl _ _ rfl _ _ rfl ?_ HF 0 rfl rfl ?_ | refine st_load rfl _ _ rfl _ _ rfl ?_ HF 1 rfl rfl ?_ | refine st_load rfl _ _ rfl _ _ rfl ?_ HF 2 rfl rfl ?_ | refine st_load rfl _ _ rfl _ _ rfl ?_ HF 3 rfl rfl ?_); (kernel_rfl); (intro K hK; go_simp))      | ((with_reducible refine k_make ?_); refine st_make rfl _ _ _ rfl _ _ _ _ rfl rfl 39 Try.underlying22 40 ?_ 4 ?_ (.agg zE.toArray) ?_ ?_ ?_ ?_ ?_ HF ?_; (kernel_rfl); (kernel_rfl); (kernel_rfl); (omega); (omega); (omega); (omega);        (clear HF; intro ge w HF K hK; replace HF : At W (Blk ge (.cells (List.replicate (es.length + 1) zE).flatten.toArray 39 (0, 0)) :: Blk g2 (.cells #[.int .i64 0, .slice none 0 0, .slice none 0 0] 25 (0, 0)) :: Blk g1 (.cells #[.int .i64 u, .slice ade es.length cape, .slice adl ls.length capl] 25 (0, 0)) :: Arg W :: []) w := (by rw [← madeCells_recs zE (by decide)]; have e : ((es.length : Int) + 1).toNat * 4 = (es.length + 1) * zE.length := (by rw [hn]; rfl); rw [e] at HF; exact HF); go_simp))      | ((with_reducible refine k_make ?_); refine st_make rfl _ _ _ rfl _ _ _ _ rfl rfl 53 Try.underlying23 56 ?_ 7 ?_ (.agg zL.toArray) ?_ ?_ ?_ ?_ ?_ HF ?_; (kernel_rfl); (kernel_rfl); (kernel_rfl); (omega); (omega); (omega); (omega);        (clear HF; intro gl w HF K hK; replace HF : At W (Blk gl (.cells (List.replicate (ls.length + 1) zL).flatten.toArray 53 (0, 0)) :: Blk ge (.cells (eC es ++ mkE).toArray 39 (0, 0)) :: Blk g2 (.cells #[.int .i64 0, .slice none 0 0, .slice none 0 0] 25 (0, 0)) :: Blk g1 (.cells #[.int .i64 u, .slice ade es.length cape, .slice adl ls.length capl] 25 (0, 0)) :: Arg W :: []) w := (by rw [← madeCells_recs zL (by decide)]; have e : ((ls.length : Int) + 1).toNat * 7 = (ls.length + 1) * zL.length := (by rw [hn2]; rfl); rw [e] at HF; exact HF); go_simp))      | ((with_reducible refine k_builtin ?_); refine st_copyR rfl _ _ _ _ rfl 39 Try.underlying22 4 ?_ ge 0 (es.length + 1) (es.length + 1) es.length cape ade rfl rfl (eC es) es.length ?_ Le.out ?_ Oe.out HF 0 rfl ?_ ?_; (kernel_rfl); (show _ = min es.length (es.length + 1); omega);          (intro hp; obtain ⟨bb, hbb⟩ := E3.out (by have := Le.out; omega); exact ⟨bb, hbb, fun j u hj => (HF.ext 3 rfl).cell (E4.out bb hbb j u hj)⟩);          (rw [len_zeros (size := 4) rfl, Le.out]; omega); (clear HF; intro w HF K hK; simp only [List.set_cons_zero] at HF; rw [splice_fill (n := es.length) (size := 4) Le.out rfl] at HF; go_simp))      | ((with_reducible refine k_builtin ?_); refine st_copyR rfl _ _ _ _ rfl 53 Try.underlying23 7 ?_ gl 0 (ls.length + 1) (ls.length + 1) ls.length capl adl rfl rfl (lC ls) ls.length ?_ Ll.out ?_ Ol.out HF 0 rfl ?_ ?_; (kernel_rfl); (show _ = min ls.length (ls.length + 1); omega);          (intro hp; obtain ⟨bb, hbb⟩ := L3.out (by have := Ll.out; omega); exact ⟨bb, hbb, fun j u hj => (HF.ext 4 rfl).cell (L4.out bb hbb j u hj)⟩);          (rw [len_zeros (size := 7) rfl, Ll.out]; omega); (clear HF; intro w HF K hK; simp only [List.set_cons_zero] at HF; rw [splice_fill (n := ls.length) (size := 7) Ll.out rfl] at HF; go_simp))      | ((with_reducible refine k_store (T := 39) ?_); refine st_stores rfl _ _ _ rfl _ _ rfl mkE.toArray rfl ?_ s39 HF 0 rfl ?_ ?_; (simp [mkE, Value.oneCell']); (simp only [List.size_toArray, List.length_append]; rw [Le.out]; exact Nat.le_refl _); (clear HF; intro w HF K hK; simp only [List.set_cons_zero, List.size_toArray] at HF; rw [fill_mark (m := mkE) (size := 4) Le.out rfl rfl] at HF; go_simp))      | ((with_reducible refine k_store (T := 53) ?_); refine st_stores rfl _ _ _ rfl _ _ rfl mkL.toArray rfl ?_ s53 HF 0 rfl ?_ ?_; (simp [mkL, Value.oneCell']); (simp only [List.size_toArray, List.length_append]; rw [Ll.out]; exact Nat.le_refl _); (clear HF; intro w HF K hK; simp only [List.set_cons_zero, List.size_toArray] at HF; rw [fill_mark (m := mkL) (size := 7) Ll.out rfl rfl] at HF; go_simp)))
  apply wp_region_eff [13] (fun i => (#[[], [], [], [], [], [], [], [], [], [], [], [], [], []] : Array (List Nat)).getD i []) (fun val i => ((_ :: _ :: _ :: _ :: _ :: _ :: _ :: _ :: _ :: _ :: _ :: _ :: _ :: val 13 :: []) : List Value).toArray.getD i undef) (fun E val => At W (Blk gl (.cells (lC ls ++ mkL).toArray 53 (0, 0)) :: Blk ge (.cells (eC es ++ mkE).toArray 39 (0, 0)) :: Blk g2 (.cells (if E 13 = true then #[.int .i64 u, .slice (some ⟨ge, 0, none⟩) es.length (es.length + 1), .slice (some ⟨gl, 0, none⟩) ls.length (ls.length + 1)] else #[.int .i64 0, .slice none 0 0, .slice none 0 0]) 25 (0, 0)) :: Blk g1 (.cells #[.int .i64 u, .slice ade es.length cape, .slice adl ls.length capl] 25 (0, 0)) :: Arg W :: [])) (by kernel_rfl) (by kernel_rfl) (by kernel_rfl) (by kernel_rfl) (HF)
  case step =>
    iterate 13 (refine ⟨eff_pl rfl (fun _ => by rfl) fun E val hn T ds w K H hk ho hK => ?_, ?_⟩; rotate_left)
    refine ⟨eff_mk rfl (fun _ => by rfl) fun E val hE0 hcl hn T ds w K H hk ho hK => ?_, ?_⟩; rotate_left
    exact trivial
    · have o1 := ho 1 (by kernel_rfl); clear ho; simp [know, dstAt, Region.binds] at hk o1; go_simp; exact hK _ H
    · clear ho; simp [know, dstAt, Region.binds] at hk
      (refine op_loadT rfl hk ?_ H 3 rfl rfl ?_; (kernel_rfl); exact hK _ H)
    · have o3 := ho 3 (by kernel_rfl); clear ho; simp [know, dstAt, Region.binds] at hk o3; go_simp; exact hK _ H
    · have o1 := ho 1 (by kernel_rfl); clear ho; simp [know, dstAt, Region.binds] at hk o1; go_simp; exact hK _ H
    · clear ho; simp [know, dstAt, Region.binds] at hk
      (refine op_loadT rfl hk ?_ H 3 rfl rfl ?_; (kernel_rfl); exact hK _ H)
    · clear ho; simp [know, dstAt, Region.binds] at hk; go_simp; exact hK _ H
    · clear ho; simp [know, dstAt, Region.binds] at hk
      first | (refine op_sliceT rfl hk.1 hk.2 Try.underlying22 s39 (by omega) ?_; exact hK _ H) | (refine op_sliceT rfl hk.1 hk.2 Try.underlying23 s53 (by omega) ?_; exact hK _ H) | (go_simp; exact hK _ H)
    · have o4 := ho 4 (by kernel_rfl); clear ho; simp [know, dstAt, Region.binds] at hk o4; go_simp; exact hK _ H
    · have o1 := ho 1 (by kernel_rfl); clear ho; simp [know, dstAt, Region.binds] at hk o1; go_simp; exact hK _ H
    · clear ho; simp [know, dstAt, Region.binds] at hk
      (refine op_loadT rfl hk ?_ H 3 rfl rfl ?_; (kernel_rfl); exact hK _ H)
    · clear ho; simp [know, dstAt, Region.binds] at hk; go_simp; exact hK _ H
    · clear ho; simp [know, dstAt, Region.binds] at hk
      first | (refine op_sliceT rfl hk.1 hk.2 Try.underlying22 s39 (by omega) ?_; exact hK _ H) | (refine op_sliceT rfl hk.1 hk.2 Try.underlying23 s53 (by omega) ?_; exact hK _ H) | (go_simp; exact hK _ H)
    · clear ho; simp [know, dstAt, Region.binds] at hk
      first | (refine op_sliceT rfl hk.1 hk.2 Try.underlying22 s39 (by omega) ?_; exact hK _ H) | (refine op_sliceT rfl hk.1 hk.2 Try.underlying23 s53 (by omega) ?_; exact hK _ H) | (go_simp; exact hK _ H)
    · have o2 := ho 2 (by kernel_rfl); clear ho; simp [know, dstAt, Region.binds] at hk o2
      (simp only [hE0, Bool.false_eq_true, if_false] at H); refine op_putT rfl o2 hk.1 ?_ s25 H 2 rfl rfl rfl ?_; (simp [Value.oneCell']); (intro w' H; refine hK _ _ ?_; exact H)
  case ins =>
    iterate 13 (refine ⟨ins_pl rfl (fun _ _ _ => rfl), ?_⟩)
    refine ⟨ins_mk rfl (fun _ => rfl), ?_⟩
    exact trivial
  case jns =>
    iterate 13 (refine ⟨j_pl (fun _ _ _ => rfl), ?_⟩)
    refine ⟨j_mk rfl, ?_⟩
    exact trivial
  case fin =>
    intro E val w5 hE H
    have e13 := hE 13 (by decide)
    simp only [e13, if_true] at H
    clear HF hE e13
    have HF := H
    clear H
    simp [putAll, Act.put]
    go_wp2_with fail
    refine bodyPost_ret (results_cell rfl rfl a25 s25 (HF.get 2 rfl) rfl) rfl ?_
    exact ⟨ge, gl, rfl, (show At W ([_, _] ++ [Arg W]) _ from HF.sel 5 [1, 0, 4]).lift H0.out⟩
end
end Bk
end Go.Proofs.Ytcofcikdknmggaa
