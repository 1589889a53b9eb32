/-
  The statements' own functions: buckets that are the same.
-/
import Derived.Test.YtjobojgmadjmfaaMdLendK
namespace Go.Proofs.Ytjobojgmadjmfaa
open Go.Hp Go.RowKit
set_option linter.unusedVariables false
set_option linter.unusedSimpArgs false
set_option maxRecDepth 100000
set_option maxHeartbeats 2000000
namespace Md
section
variable {w0 w : World} {L : List HProp}

theorem sameK {ve vl ve2 vl2 : Value} {u : Int} {es ls : List (List Value)} (he : RecsAt w ve 4 es) (hl : RecsAt w vl 7 ls) (he2 : RecsAt w ve2 4 es) (hl2 : RecsAt w vl2 7 ls) (fe : ∀ r ∈ es, Fits entK r) (fl : ∀ r ∈ ls, Fits lastK r) (be : es.length * 40 ≤ 140737488355328) (bl : ls.length * 56 ≤ 140737488355328) (H : At w0 L w) :
    Calls Try.prog 40 #[.agg #[.int .i64 u, ve, vl], .agg #[.int .i64 u, ve2, vl2]] w (fun e w' => e = .returned (.bool true) ∧ At w0 L w') := by
  obtain ⟨W, rfl⟩ : ∃ W : World, W = w := ⟨_, rfl⟩
  have HF := At.of W
  have H0 := Lib.hid H
  obtain ⟨ae, ce, rfl, c1, c2, c3⟩ := he.value
  obtain ⟨al, cl, rfl, d1, d2, d3⟩ := hl.value
  obtain ⟨ae2, ce2, rfl, c12, c22, c32⟩ := he2.value
  obtain ⟨al2, cl2, rfl, d12, d22, d32⟩ := hl2.value
  have A3 := Lib.hid c3
  have B3 := Lib.hid c32
  have M3 := Lib.hid d3
  have N3 := Lib.hid d32
  have R1 := Lib.hid he
  have R2 := Lib.hid he2
  have Q1 := Lib.hid hl
  have Q2 := Lib.hid hl2
  have Fe := Lib.hid fe
  have Fl := Lib.hid fl
  clear H he hl he2 hl2 fe fl c3 d3 c32 d32
  have tok : True := trivial
  go_enter Try.func40, Try.ntmps40
  go_wp2_with (first | ((with_reducible refine k_box (T := 36) ?_); (have _t := tok); refine st_box rfl _ _ rfl _ rfl HF ?_; (clear HF tok _t; intro g2 w HF K hK; simp only [Value.cells, Act.eval, Value.cells, Array.getD_eq_getD_getElem?, List.getElem?_toArray, List.getElem?_cons_succ, List.getElem?_cons_zero, Option.getD_some] at HF; go_simp)) | ((with_reducible refine k_box (T := 36) ?_); refine st_box rfl _ _ rfl _ rfl HF ?_; (clear HF; intro g3 w HF K hK; simp only [Value.cells, Act.eval, Value.cells, Array.getD_eq_getD_getElem?, List.getElem?_toArray, List.getElem?_cons_succ, List.getElem?_cons_zero, Option.getD_some] at HF; go_simp)) | ((with_reducible refine k_load ?_); (first | refine st_load rfl _ _ rfl _ _ rfl ?_ HF 0 rfl rfl ?_ | refine st_load rfl _ _ rfl _ _ rfl ?_ HF 1 rfl rfl ?_); (kernel_rfl); (intro K hK; go_simp)))
  go_loopw [5] (fun i wr => ∃ k : Nat, k ≤ es.length ∧ i = .int .i64 k ∧ At W (Blk g3 (.cells #[.int .i64 u, .slice ae2 es.length ce2, .slice al2 ls.length cl2] 36 (0, 0)) :: Blk g2 (.cells #[.int .i64 u, .slice ae es.length ce, .slice al ls.length cl] 36 (0, 0)) :: Arg W :: []) wr) (fun i _ => es.length - (intOf i).toNat)
  case atStart => exact ⟨0, Nat.zero_le _, rfl, HF⟩
  case round =>
    clear HF
    obtain ⟨k, hk, rfl, HF⟩ := hrel
    by_cases hlt : k < es.length
    · have g1 : (k : Int) < es.length := by omega
      obtain ⟨r, hr⟩ : ∃ r, es[k]? = some r := ⟨_, List.getElem?_eq_getElem hlt⟩
      have hf := Fe.out r (List.mem_of_getElem? hr)
      have hrl := Lib.hid hf.len
      have hz : ∀ w, (binOp .neq 101 (.agg r.toArray) (.agg r.toArray)).run Try.prog w = .ok (.bool false) w := fun w => by
        rw [run_neq_struct, run_eq_self 9 (by decide) fEntry a101 hf]
        rfl
      have hz2 : ∀ w, (Op.equalIn 10000 101 (.agg r.toArray) (.agg r.toArray)).run Try.prog w = .ok true w := fun w => run_eq_self 9 (by decide) fEntry a101 hf
      obtain ⟨b1, rfl⟩ := A3.out (by omega)
      obtain ⟨b2, rfl⟩ := B3.out (by omega)
      have C1 := Lib.hid (fun j u (hj : r[j]? = some u) => (by
        have := R1.out.cell rfl hr hj
        rwa [← Addr.add_add] at this : W.cell? ((b1.add (k * 4)).add j) = some u))
      have C2 := Lib.hid (fun j u (hj : r[j]? = some u) => (by
        have := R2.out.cell rfl hr hj
        rwa [← Addr.add_add] at this : W.cell? ((b2.add (k * 4)).add j) = some u))
      clear hf hr
      go_wp2_with (first | ((with_reducible refine k_load ?_); (first | refine st_load rfl _ _ rfl _ _ rfl ?_ HF 0 rfl rfl ?_ | refine st_load rfl _ _ rfl _ _ rfl ?_ HF 1 rfl rfl ?_); (kernel_rfl); (intro K hK; go_simp)))
      apply wp_region_eff [] (fun i => (#[[], [], [], [], [], [], [], [], [], [], []] : Array (List Nat)).getD i []) (fun val i => ((_ :: _ :: _ :: _ :: _ :: _ :: _ :: _ :: _ :: _ :: _ :: []) : List Value).toArray.getD i undef) (fun E val => At W (Blk g3 (.cells #[.int .i64 u, .slice (some b2) es.length ce2, .slice al2 ls.length cl2] 36 (0, 0)) :: Blk g2 (.cells #[.int .i64 u, .slice (some b1) es.length ce, .slice al ls.length cl] 36 (0, 0)) :: Arg W :: [])) (by kernel_rfl) (by kernel_rfl) (by kernel_rfl) (by kernel_rfl) (HF)
      case step =>
        iterate 11 (refine ⟨eff_pl rfl (fun _ => by rfl) fun E val hn T ds w K H hk ho hK => ?_, ?_⟩; rotate_left)
        exact trivial
        · have o2 := ho 2 (by kernel_rfl); clear ho; simp [know, dstAt, Region.binds] at hk o2; go_simp; exact hK _ H
        · clear ho; simp [know, dstAt, Region.binds] at hk
          first | (refine op_loadT rfl hk ?_ H 0 rfl rfl ?_; (kernel_rfl); exact hK _ H) | (refine op_loadT rfl hk ?_ H 1 rfl rfl ?_; (kernel_rfl); exact hK _ H)
        · have o5 := ho 5 (by kernel_rfl); clear ho; simp [know, dstAt, Region.binds] at hk o5; go_simp; exact hK _ H
        · clear ho; simp [know, dstAt, Region.binds] at hk; go_simp; exact hK _ H
        · clear ho; simp [know, dstAt, Region.binds] at hk
          first | (refine op_cellsT (vs := r) rfl hk a101 (by rw [hrl.out]; exact s101) (fun j u hj => (H.ext 2 rfl).cell (C1.out j u hj)) ?_; exact hK _ H) | (refine op_cellsT (vs := r) rfl hk a101 (by rw [hrl.out]; exact s101) (fun j u hj => (H.ext 2 rfl).cell (C2.out j u hj)) ?_; exact hK _ H)
        · have o3 := ho 3 (by kernel_rfl); clear ho; simp [know, dstAt, Region.binds] at hk o3; go_simp; exact hK _ H
        · clear ho; simp [know, dstAt, Region.binds] at hk
          first | (refine op_loadT rfl hk ?_ H 0 rfl rfl ?_; (kernel_rfl); exact hK _ H) | (refine op_loadT rfl hk ?_ H 1 rfl rfl ?_; (kernel_rfl); exact hK _ H)
        · have o5 := ho 5 (by kernel_rfl); clear ho; simp [know, dstAt, Region.binds] at hk o5; go_simp; exact hK _ H
        · clear ho; simp [know, dstAt, Region.binds] at hk; go_simp; exact hK _ H
        · clear ho; simp [know, dstAt, Region.binds] at hk
          first | (refine op_cellsT (vs := r) rfl hk a101 (by rw [hrl.out]; exact s101) (fun j u hj => (H.ext 2 rfl).cell (C1.out j u hj)) ?_; exact hK _ H) | (refine op_cellsT (vs := r) rfl hk a101 (by rw [hrl.out]; exact s101) (fun j u hj => (H.ext 2 rfl).cell (C2.out j u hj)) ?_; exact hK _ H)
        · clear ho; simp [know, dstAt, Region.binds] at hk; go_simp; exact hK _ H
      case ins =>
        iterate 11 (refine ⟨ins_pl rfl (fun _ _ _ => rfl), ?_⟩)
        exact trivial
      case jns =>
        iterate 11 (refine ⟨j_pl (fun _ _ _ => rfl), ?_⟩)
        exact trivial
      case fin =>
        intro E val w5 hE H
        clear HF hE
        have HF := H
        clear H
        simp [putAll, Act.put]
        go_wp2_with fail
        go_roundw
        case rel => exact ⟨k + 1, by omega, rfl, HF⟩
        case measure => simp [intOf]; omega
    · have hk2 : k = es.length := by omega
      have g1 : ¬ (k : Int) < es.length := by omega
      clear hk2
      go_wp2_with (first | ((with_reducible refine k_load ?_); (first | refine st_load rfl _ _ rfl _ _ rfl ?_ HF 0 rfl rfl ?_ | refine st_load rfl _ _ rfl _ _ rfl ?_ HF 1 rfl rfl ?_); (kernel_rfl); (intro K hK; go_simp)))
      go_loopw [6] (fun i wr => ∃ k : Nat, k ≤ ls.length ∧ i = .int .i64 k ∧ At W (Blk g3 (.cells #[.int .i64 u, .slice ae2 es.length ce2, .slice al2 ls.length cl2] 36 (0, 0)) :: Blk g2 (.cells #[.int .i64 u, .slice ae es.length ce, .slice al ls.length cl] 36 (0, 0)) :: Arg W :: []) wr) (fun i _ => ls.length - (intOf i).toNat)
      case atStart => exact ⟨0, Nat.zero_le _, rfl, HF⟩
      case round =>
        clear HF
        obtain ⟨k, hk, rfl, HF⟩ := hrel
        by_cases hlt : k < ls.length
        · have g1 : (k : Int) < ls.length := by omega
          obtain ⟨r, hr⟩ : ∃ r, ls[k]? = some r := ⟨_, List.getElem?_eq_getElem hlt⟩
          have hf := Fl.out r (List.mem_of_getElem? hr)
          have hrl := Lib.hid hf.len
          have hz : ∀ w, (binOp .neq 104 (.agg r.toArray) (.agg r.toArray)).run Try.prog w = .ok (.bool false) w := fun w => by
            rw [run_neq_struct, run_eq_self 9 (by decide) fLast a104 hf]
            rfl
          have hz2 : ∀ w, (Op.equalIn 10000 104 (.agg r.toArray) (.agg r.toArray)).run Try.prog w = .ok true w := fun w => run_eq_self 9 (by decide) fLast a104 hf
          obtain ⟨b1, rfl⟩ := M3.out (by omega)
          obtain ⟨b2, rfl⟩ := N3.out (by omega)
          have C1 := Lib.hid (fun j u (hj : r[j]? = some u) => (by
            have := Q1.out.cell rfl hr hj
            rwa [← Addr.add_add] at this : W.cell? ((b1.add (k * 7)).add j) = some u))
          have C2 := Lib.hid (fun j u (hj : r[j]? = some u) => (by
            have := Q2.out.cell rfl hr hj
            rwa [← Addr.add_add] at this : W.cell? ((b2.add (k * 7)).add j) = some u))
          clear hf hr
          go_wp2_with (first | ((with_reducible refine k_load ?_); (first | refine st_load rfl _ _ rfl _ _ rfl ?_ HF 0 rfl rfl ?_ | refine st_load rfl _ _ rfl _ _ rfl ?_ HF 1 rfl rfl ?_); (kernel_rfl); (intro K hK; go_simp)))
          apply wp_region_eff [] (fun i => (#[[], [], [], [], [], [], [], [], [], [], []] : Array (List Nat)).getD i []) (fun val i => ((_ :: _ :: _ :: _ :: _ :: _ :: _ :: _ :: _ :: _ :: _ :: []) : List Value).toArray.getD i undef) (fun E val => At W (Blk g3 (.cells #[.int .i64 u, .slice ae2 es.length ce2, .slice (some b2) ls.length cl2] 36 (0, 0)) :: Blk g2 (.cells #[.int .i64 u, .slice ae es.length ce, .slice (some b1) ls.length cl] 36 (0, 0)) :: Arg W :: [])) (by kernel_rfl) (by kernel_rfl) (by kernel_rfl) (by kernel_rfl) (HF)
          case step =>
            iterate 11 (refine ⟨eff_pl rfl (fun _ => by rfl) fun E val hn T ds w K H hk ho hK => ?_, ?_⟩; rotate_left)
            exact trivial
            · have o2 := ho 2 (by kernel_rfl); clear ho; simp [know, dstAt, Region.binds] at hk o2; go_simp; exact hK _ H
            · clear ho; simp [know, dstAt, Region.binds] at hk
              first | (refine op_loadT rfl hk ?_ H 0 rfl rfl ?_; (kernel_rfl); exact hK _ H) | (refine op_loadT rfl hk ?_ H 1 rfl rfl ?_; (kernel_rfl); exact hK _ H)
            · have o6 := ho 6 (by kernel_rfl); clear ho; simp [know, dstAt, Region.binds] at hk o6; go_simp; exact hK _ H
            · clear ho; simp [know, dstAt, Region.binds] at hk; go_simp; exact hK _ H
            · clear ho; simp [know, dstAt, Region.binds] at hk
              first | (refine op_cellsT (vs := r) rfl hk a104 (by rw [hrl.out]; exact s104) (fun j u hj => (H.ext 2 rfl).cell (C1.out j u hj)) ?_; exact hK _ H) | (refine op_cellsT (vs := r) rfl hk a104 (by rw [hrl.out]; exact s104) (fun j u hj => (H.ext 2 rfl).cell (C2.out j u hj)) ?_; exact hK _ H)
            · have o3 := ho 3 (by kernel_rfl); clear ho; simp [know, dstAt, Region.binds] at hk o3; go_simp; exact hK _ H
            · clear ho; simp [know, dstAt, Region.binds] at hk
              first | (refine op_loadT rfl hk ?_ H 0 rfl rfl ?_; (kernel_rfl); exact hK _ H) | (refine op_loadT rfl hk ?_ H 1 rfl rfl ?_; (kernel_rfl); exact hK _ H)
            · have o6 := ho 6 (by kernel_rfl); clear ho; simp [know, dstAt, Region.binds] at hk o6; go_simp; exact hK _ H
            · clear ho; simp [know, dstAt, Region.binds] at hk; go_simp; exact hK _ H
            · clear ho; simp [know, dstAt, Region.binds] at hk
              first | (refine op_cellsT (vs := r) rfl hk a104 (by rw [hrl.out]; exact s104) (fun j u hj => (H.ext 2 rfl).cell (C1.out j u hj)) ?_; exact hK _ H) | (refine op_cellsT (vs := r) rfl hk a104 (by rw [hrl.out]; exact s104) (fun j u hj => (H.ext 2 rfl).cell (C2.out j u hj)) ?_; exact hK _ H)
            · clear ho; simp [know, dstAt, Region.binds] at hk; go_simp; exact hK _ H
          case ins =>
            iterate 11 (refine ⟨ins_pl rfl (fun _ _ _ => rfl), ?_⟩)
            exact trivial
          case jns =>
            iterate 11 (refine ⟨j_pl (fun _ _ _ => rfl), ?_⟩)
            exact trivial
          case fin =>
            intro E val w5 hE H
            clear HF hE
            have HF := H
            clear H
            simp [putAll, Act.put]
            go_wp2_with fail
            go_roundw
            case rel => exact ⟨k + 1, by omega, rfl, HF⟩
            case measure => simp [intOf]; omega
        · have hk2 : k = ls.length := by omega
          have g1 : ¬ (k : Int) < ls.length := by omega
          clear hk2
          go_wp2_with (first | ((with_reducible refine k_load ?_); (first | refine st_load rfl _ _ rfl _ _ rfl ?_ HF 0 rfl rfl ?_ | refine st_load rfl _ _ rfl _ _ rfl ?_ HF 1 rfl rfl ?_); (kernel_rfl); (intro K hK; go_simp)))
          go_ret
          exact ⟨rfl, (HF.sel 3 [2]).lift0 H0.out⟩
end
end Md
end Go.Proofs.Ytjobojgmadjmfaa
