/-
  The statements' own functions: a bucket as it was lent.
-/
import Derived.Test.YtjobojgmadjmfaaMdSame
namespace Go.Proofs.Ytjobojgmadjmfaa
open Go.Hp Go.RowKit
set_option linter.unusedVariables false
set_option linter.unusedSimpArgs false
set_option maxRecDepth 100000
set_option maxHeartbeats 2000000
namespace Md

theorem mkE_fits (i : Int) : Fits entK (mkE i) := ⟨⟨_, rfl⟩, ⟨_, rfl⟩, ⟨_, rfl⟩, ⟨_, rfl⟩, trivial⟩
theorem mkL_fits (i : Int) : Fits lastK (mkL i) := ⟨⟨_, rfl⟩, ⟨_, rfl⟩, ⟨_, rfl⟩, ⟨_, rfl⟩, ⟨_, rfl⟩, ⟨_, rfl⟩, ⟨_, rfl⟩, trivial⟩

/-- Records that are lent: they read so, and marks lie behind them. -/
def Lent (w : World) (g size : Nat) (mk : Int → List Value) (rs : List (List Value)) : Prop :=
  RecsAt w (.slice (some ⟨g, 0, none⟩) rs.length (rs.length + 67)) size rs ∧ ∀ k : Nat, k < 67 → ∀ (j : Nat) (u : Value), (mk ((rs.length : Int) + (k : Int)))[j]? = some u → w.cell? ((⟨g, (rs.length + k) * size, none⟩ : Addr).add j) = some u

theorem Lent.ext {w w' : World} {g size : Nat} {mk : Int → List Value} {rs : List (List Value)} (h : Lent w g size mk rs) (he : Ext w w') : Lent w' g size mk rs := ⟨h.1.ext he, fun k hk j u hj => he.cell (h.2 k hk j u hj)⟩

theorem fillR_get {A : List Value} {mk : Nat → List Value} {z : List Value} {n k m size j : Nat} (hA : A.length = n * size) (hmk : ∀ i, (mk i).length = size) (h : k < m) (hj : j < size) : (fillR A mk z m m)[(n + k) * size + j]? = (mk k)[j]? := by
  unfold fillR
  have e1 : (n + k) * size + j = A.length + (k * size + j) := by rw [hA, Nat.add_mul]; omega
  have e2 : (List.replicate (m - m) z).flatten = [] := by simp
  rw [e1, List.getElem?_append_right (by omega), Nat.add_sub_cancel_left, e2, List.append_nil]
  refine flatten_get (r := mk k) (fun r hr => ?_) ?_ hj
  · obtain ⟨i, _, rfl⟩ := List.mem_map.1 hr
    exact hmk i
  · rw [List.getElem?_map, List.getElem?_range h]
    rfl

section
variable {w0 w : World} {L : List HProp}

theorem lent_of {g size : Nat} {mk : Int → List Value} {z : List Value} {rs : List (List Value)} {t : TypeId} {fr : Nat × Nat} (hr : ∀ r ∈ rs, r.length = size) (hmk : ∀ i, (mk i).length = size) (hb : rs.length ≤ 140737488355328)
    (H : At w0 (Blk g (.cells (fillR rs.flatten (fun k => mk ((rs.length : Int) + (k : Int))) z 67 67).toArray t fr) :: L) w) : Lent w g size mk rs := by
  have hA : rs.flatten.length = rs.length * size := flat_len hr
  refine ⟨⟨⟨_, _, rfl, by omega, by simp only [maxLen]; omega, fun _ => ⟨_, rfl⟩, fun b hbb j u hj => ?_⟩, hr⟩, fun k hk j u hj => ?_⟩
  · cases hbb
    rw [Addr.add_lit, Nat.zero_add, cell_of_row w g j _ t fr H.get0, List.getElem?_toArray]
    unfold fillR
    rw [List.getElem?_append_left (List.getElem?_eq_some_iff.1 hj).1]
    exact hj
  · rw [Addr.add_lit, cell_of_row w g _ _ t fr H.get0, List.getElem?_toArray]
    have hjl : j < size := by
      have := (List.getElem?_eq_some_iff.1 hj).1
      rwa [hmk] at this
    rw [fillR_get (mk := fun k => mk ((rs.length : Int) + (k : Int))) hA (fun i => hmk _) hk hjl]
    exact hj

theorem backK {ve2 vl2 : Value} {u : Int} {es ls : List (List Value)} {ge gl : Nat} (he : Lent w ge 4 mkE es) (hl : Lent w gl 7 mkL ls) (he2 : RecsAt w ve2 4 es) (hl2 : RecsAt w vl2 7 ls) (fe : ∀ r ∈ es, Fits entK r) (fl : ∀ r ∈ ls, Fits lastK r) (be : es.length * 40 ≤ 140737488355328) (bl : ls.length * 56 ≤ 140737488355328) (H : At w0 L w) :
    Calls Try.prog 38 #[.agg #[.int .i64 u, .slice (some ⟨ge, 0, none⟩) es.length (es.length + 67), .slice (some ⟨gl, 0, none⟩) ls.length (ls.length + 67)], .agg #[.int .i64 u, ve2, vl2]] w (fun e w' => e = .returned (.bool true) ∧ At w0 L w') := by
  obtain ⟨W, rfl⟩ : ∃ W : World, W = w := ⟨_, rfl⟩
  have HF := At.of W
  have H0 := Lib.hid H
  obtain ⟨ae2, ce2, rfl, c12, c22, c32⟩ := he2.value
  obtain ⟨al2, cl2, rfl, d12, d22, d32⟩ := hl2.value
  have R2 := Lib.hid he2
  have Q2 := Lib.hid hl2
  have R1 := Lib.hid he.1
  have Q1 := Lib.hid hl.1
  have M1 := Lib.hid he.2
  have M2 := Lib.hid hl.2
  have Fe := Lib.hid fe
  have Fl := Lib.hid fl
  clear H he hl he2 hl2 fe fl c32 d32
  have hn : ((es.length : Int) + 67).toNat = es.length + 67 := by omega
  have hn2 : ((ls.length : Int) + 67).toNat = ls.length + 67 := by omega
  have tok : True := trivial
  go_enter Try.func38, Try.ntmps38
  go_wp2_with (first | ((with_reducible refine k_box (T := 36) ?_); (have _t := tok); refine st_box rfl _ _ rfl _ rfl HF ?_; (clear HF tok _t; intro g2 w HF K hK; simp only [Value.cells, Act.eval, Value.cells, Array.getD_eq_getD_getElem?, List.getElem?_toArray, List.getElem?_cons_succ, List.getElem?_cons_zero, Option.getD_some] at HF; go_simp)) | ((with_reducible refine k_box (T := 36) ?_); refine st_box rfl _ _ rfl _ rfl HF ?_; (clear HF; intro g3 w HF K hK; simp only [Value.cells, Act.eval, Value.cells, Array.getD_eq_getD_getElem?, List.getElem?_toArray, List.getElem?_cons_succ, List.getElem?_cons_zero, Option.getD_some] at HF; go_simp)) | ((with_reducible refine k_load (T := 36) ?_); (first | refine st_row rfl _ _ rfl _ rfl a36 3 s36 HF 0 rfl rfl ?_ | refine st_row rfl _ _ rfl _ rfl a36 3 s36 HF 1 rfl rfl ?_); (intro K hK; go_simp)) | ((with_reducible refine k_load (T := 36) ?_); (first | refine st_loads rfl _ _ rfl _ _ rfl a36 3 s36 HF 0 rfl ?_ ?_ | refine st_loads rfl _ _ rfl _ _ rfl a36 3 s36 HF 1 rfl ?_ ?_); (simp); (intro K hK; go_simp)))
  refine (sameK (R1.out.ext (HF.ext 2 rfl)) (Q1.out.ext (HF.ext 2 rfl)) (R2.out.ext (HF.ext 2 rfl)) (Q2.out.ext (HF.ext 2 rfl)) Fe.out Fl.out be bl HF).mono ?_
  rintro e w3 ⟨rfl, HX⟩
  replace HF := HX
  clear HX
  go_wp2_with (first | ((with_reducible refine k_load ?_); (first | refine st_load rfl _ _ rfl _ _ rfl ?_ HF 0 rfl rfl ?_ | refine st_load rfl _ _ rfl _ _ rfl ?_ HF 1 rfl rfl ?_); (kernel_rfl); (intro K hK; go_simp)))
  go_loopw [6] (fun i wr => ∃ k : Nat, k ≤ 67 ∧ i = .int .i64 (es.length + k) ∧ At W (Blk g3 (.cells #[.int .i64 u, .slice ae2 es.length ce2, .slice al2 ls.length cl2] 36 (0, 0)) :: Blk g2 (.cells #[.int .i64 u, .slice (some ⟨ge, 0, none⟩) es.length (es.length + 67), .slice (some ⟨gl, 0, none⟩) ls.length (ls.length + 67)] 36 (0, 0)) :: Arg W :: []) wr) (fun i _ => es.length + 67 - (intOf i).toNat)
  case atStart => exact ⟨0, Nat.zero_le _, by simp, HF⟩
  case round =>
    clear HF
    obtain ⟨k, hk, rfl, HF⟩ := hrel
    by_cases hlt : k < 67
    · have hoff : ((es.length : Int) + k).toNat = es.length + k := by omega
      have hlt2 : (k : Int) < 67 := by omega
      have hz2 : ∀ w, (Op.equalIn 10000 101 (.agg (mkE ((es.length : Int) + (k : Int))).toArray) (.agg (mkE ((es.length : Int) + (k : Int))).toArray)).run Try.prog w = .ok true w := fun w => run_eq_self 9 (by decide) fEntry a101 (mkE_fits _)
      have C := Lib.hid (M1.out k hlt)
      unfold mkE at hz2
      go_wp2_with (first | ((with_reducible refine k_load ?_); (first | refine st_load rfl _ _ rfl _ _ rfl ?_ HF 0 rfl rfl ?_ | refine st_load rfl _ _ rfl _ _ rfl ?_ HF 1 rfl rfl ?_); (kernel_rfl); (intro K hK; go_simp)) | ((with_reducible refine k_load (T := 101) ?_); refine st_loadCells rfl _ _ rfl _ rfl a101 (mkE ((es.length : Int) + (k : Int))) s101 (fun j u hj => (HF.ext 2 rfl).cell (C.out j u hj)) ?_; (intro K hK; unfold mkE at hK ⊢; go_simp)))
      go_roundw
      case rel => exact ⟨k + 1, by omega, by rw [Int.natCast_add, Int.add_assoc]; rfl, HF⟩
      case measure => simp [intOf]; omega
    · have hk2 : k = 67 := by omega
      subst hk2
      clear hlt hk
      go_wp2_with (first | ((with_reducible refine k_load ?_); (first | refine st_load rfl _ _ rfl _ _ rfl ?_ HF 0 rfl rfl ?_ | refine st_load rfl _ _ rfl _ _ rfl ?_ HF 1 rfl rfl ?_); (kernel_rfl); (intro K hK; go_simp)))
      go_loopw [8] (fun i wr => ∃ k : Nat, k ≤ 67 ∧ i = .int .i64 (ls.length + k) ∧ At W (Blk g3 (.cells #[.int .i64 u, .slice ae2 es.length ce2, .slice al2 ls.length cl2] 36 (0, 0)) :: Blk g2 (.cells #[.int .i64 u, .slice (some ⟨ge, 0, none⟩) es.length (es.length + 67), .slice (some ⟨gl, 0, none⟩) ls.length (ls.length + 67)] 36 (0, 0)) :: Arg W :: []) wr) (fun i _ => ls.length + 67 - (intOf i).toNat)
      case atStart => exact ⟨0, Nat.zero_le _, by simp, HF⟩
      case round =>
        clear HF
        obtain ⟨k, hk, rfl, HF⟩ := hrel
        by_cases hlt : k < 67
        · have hoff : ((ls.length : Int) + k).toNat = ls.length + k := by omega
          have hlt2 : (k : Int) < 67 := by omega
          have hz2 : ∀ w, (Op.equalIn 10000 104 (.agg (mkL ((ls.length : Int) + (k : Int))).toArray) (.agg (mkL ((ls.length : Int) + (k : Int))).toArray)).run Try.prog w = .ok true w := fun w => run_eq_self 9 (by decide) fLast a104 (mkL_fits _)
          have C := Lib.hid (M2.out k hlt)
          unfold mkL at hz2
          go_wp2_with (first | ((with_reducible refine k_load ?_); (first | refine st_load rfl _ _ rfl _ _ rfl ?_ HF 0 rfl rfl ?_ | refine st_load rfl _ _ rfl _ _ rfl ?_ HF 1 rfl rfl ?_); (kernel_rfl); (intro K hK; go_simp)) | ((with_reducible refine k_load (T := 104) ?_); refine st_loadCells rfl _ _ rfl _ rfl a104 (mkL ((ls.length : Int) + (k : Int))) s104 (fun j u hj => (HF.ext 2 rfl).cell (C.out j u hj)) ?_; (intro K hK; unfold mkL at hK ⊢; go_simp)))
          go_roundw
          case rel => exact ⟨k + 1, by omega, by rw [Int.natCast_add, Int.add_assoc]; rfl, HF⟩
          case measure => simp [intOf]; omega
        · have hk2 : k = 67 := by omega
          subst hk2
          clear hlt hk
          go_wp2_with (first | ((with_reducible refine k_load ?_); (first | refine st_load rfl _ _ rfl _ _ rfl ?_ HF 0 rfl rfl ?_ | refine st_load rfl _ _ rfl _ _ rfl ?_ HF 1 rfl rfl ?_); (kernel_rfl); (intro K hK; go_simp)))
          go_ret
          exact ⟨rfl, (HF.sel 3 [2]).lift0 H0.out⟩
end
end Md
end Go.Proofs.Ytjobojgmadjmfaa
