/-
  The statements' own functions: a bucket lent.
-/
import Derived.Test.YtjobojgmadjmfaaMdLend
import Derived.Test.YtjobojgmadjmfaaEng
namespace Go.Proofs.Ytjobojgmadjmfaa
open Go.Hp Go.RowKit
set_option linter.unusedVariables false
set_option linter.unusedSimpArgs false
set_option maxRecDepth 100000
set_option maxHeartbeats 2000000
namespace Md

def zE : List Value := [.string ⟨#[]⟩, .int .i64 0, .int .i64 0, .int .i64 0]
def zL : List Value := [.int .i64 0, .int .i64 0, .int .i64 0, .int .i64 0, .int .i64 0, .int .i64 0, .int .i64 0]
def mkE (i : Int) : List Value := [.string ⟨#[109, 97, 114, 107]⟩, .int .i64 0, .int .i64 0, .int .i64 (-i)]
def mkL (i : Int) : List Value := [.int .i64 (-i), .int .i64 (-7), .int .i64 0, .int .i64 0, .int .i64 0, .int .i64 0, .int .i64 0]
theorem z101 : zeroT Try.prog 101 = some (.agg zE.toArray) := by kernel_rfl
theorem z104 : zeroT Try.prog 104 = some (.agg zL.toArray) := by kernel_rfl
def lentE (es : List (List Value)) : Array Value := (fillR es.flatten (fun k => mkE ((es.length : Int) + (k : Int))) zE 67 67).toArray
def lentL (ls : List (List Value)) : Array Value := (fillR ls.flatten (fun k => mkL ((ls.length : Int) + (k : Int))) zL 67 67).toArray

theorem splice_fill {A : List Value} {mk : Nat → List Value} {z : List Value} {n size : Nat} (hA : A.length = n * size) (hz : z.length = size) : splice (List.replicate (n + 67) z).flatten 0 A = fillR A mk z 0 67 := by
  have e : (List.replicate (n + 67) z).flatten = (List.replicate n z).flatten ++ (List.replicate 67 z).flatten := by rw [← List.flatten_append, List.replicate_append_replicate]
  unfold splice fillR
  rw [List.take_zero, List.nil_append, Nat.zero_add, e, List.drop_left' (by rw [len_zeros hz, hA])]
  simp

section
variable {w0 w : World} {L : List HProp}

theorem lendK {ve vl : Value} {u : Int} {es ls : List (List Value)} (he : RecsAt w ve 4 es) (hl : RecsAt w vl 7 ls) (fe : ∀ r ∈ es, Fits entK r) (fl : ∀ r ∈ ls, Fits lastK r) (be : es.length * 40 ≤ 140737488355328) (bl : ls.length * 56 ≤ 140737488355328) (H : At w0 L w) :
    Calls Try.prog 33 #[.agg #[.int .i64 u, ve, vl]] w (fun e w' => ∃ ge gl, e = .returned (.agg #[.int .i64 u, .slice (some ⟨ge, 0, none⟩) es.length (es.length + 67), .slice (some ⟨gl, 0, none⟩) ls.length (ls.length + 67)]) ∧ At w0 (Blk ge (.cells (lentE es) 101 (0, 0)) :: Blk gl (.cells (lentL ls) 104 (0, 0)) :: L) w') := by
  obtain ⟨W, rfl⟩ : ∃ W : World, W = w := ⟨_, rfl⟩
  have HF := At.of W
  have H0 := Lib.hid H
  have Le := Lib.hid (recs_len he)
  have Ll := Lib.hid (recs_len hl)
  have Oe := Lib.hid (recs_one fe)
  have Ol := Lib.hid (recs_one fl)
  obtain ⟨⟨ade, cape, rfl, e1, e2, e3, e4⟩, e5⟩ := he
  obtain ⟨⟨adl, capl, rfl, l1, l2, l3, l4⟩, l5⟩ := hl
  have E3 := Lib.hid e3
  have E4 := Lib.hid e4
  have L3 := Lib.hid l3
  have L4 := Lib.hid l4
  clear H e3 e4 e5 l3 l4 l5 fe fl
  have hn : ((es.length : Int) + 67).toNat = es.length + 67 := by omega
  have hn2 : ((ls.length : Int) + 67).toNat = ls.length + 67 := by omega
  unfold lentE lentL
  go_enter Try.func33, Try.ntmps33
  go_wp2_with (first | ((with_reducible refine k_box ?_); refine st_box rfl _ _ rfl _ rfl HF ?_; (clear HF; intro g1 w HF K hK; simp only [Value.cells, Act.eval, Value.cells, Array.getD_eq_getD_getElem?, List.getElem?_toArray, List.getElem?_cons_succ, List.getElem?_cons_zero, Option.getD_some] at HF; go_simp)) | ((with_reducible refine k_alloc (T := 36) ?_); refine st_alloc rfl _ rfl _ z36 _ rfl HF ?_; (clear HF; intro g2 w HF K hK; simp only [Value.cells] at HF; go_simp)) | ((with_reducible refine k_load ?_); (first | refine st_load rfl _ _ rfl _ _ rfl ?_ HF 1 rfl rfl ?_ | refine st_load rfl _ _ rfl _ _ rfl ?_ HF 2 rfl rfl ?_); (kernel_rfl); (intro K hK; go_simp))      | ((with_reducible refine k_make ?_); refine st_make rfl _ _ _ rfl _ _ _ _ rfl rfl 101 Try.underlying33 40 ?_ 4 ?_ (.agg zE.toArray) ?_ ?_ ?_ ?_ ?_ HF ?_; (kernel_rfl); (kernel_rfl); (kernel_rfl); (omega); (omega); (omega); (omega);        (clear HF; intro ge w HF K hK; replace HF : At W (Blk ge (.cells (List.replicate (es.length + 67) zE).flatten.toArray 101 (0, 0)) :: Blk g2 (.cells #[.int .i64 0, .slice none 0 0, .slice none 0 0] 36 (0, 0)) :: Blk g1 (.cells #[.int .i64 u, .slice ade es.length cape, .slice adl ls.length capl] 36 (0, 0)) :: Arg W :: []) w := (by rw [← madeCells_recs zE (by decide)]; have e : ((es.length : Int) + 67).toNat * 4 = (es.length + 67) * zE.length := (by rw [hn]; rfl); rw [e] at HF; exact HF); go_simp))      | ((with_reducible refine k_builtin ?_); refine st_copyR rfl _ _ _ _ rfl 101 Try.underlying33 4 ?_ ge 0 (es.length + 67) (es.length + 67) es.length cape ade rfl rfl es.flatten es.length ?_ Le.out ?_ Oe.out HF 0 rfl ?_ ?_; (kernel_rfl); (show _ = min es.length (es.length + 67); omega);          (intro hp; obtain ⟨bb, hbb⟩ := E3.out (by have := Le.out; omega); exact ⟨bb, hbb, fun j u hj => (HF.ext 3 rfl).cell (E4.out bb hbb j u hj)⟩);          (rw [len_zeros (size := 4) rfl, Le.out]; omega); (clear HF; intro w HF K hK; simp only [List.set_cons_zero] at HF; rw [splice_fill (mk := fun k => mkE ((es.length : Int) + (k : Int))) (n := es.length) (size := 4) Le.out rfl] at HF; go_simp)))
  go_loopw [4] (fun i wr => ∃ k : Nat, k ≤ 67 ∧ i = .int .i64 (es.length + k) ∧ At W (Blk ge (.cells (fillR es.flatten (fun k => mkE ((es.length : Int) + (k : Int))) zE k 67).toArray 101 (0, 0)) :: Blk g2 (.cells #[.int .i64 0, .slice none 0 0, .slice none 0 0] 36 (0, 0)) :: Blk g1 (.cells #[.int .i64 u, .slice ade es.length cape, .slice adl ls.length capl] 36 (0, 0)) :: Arg W :: []) wr) (fun i _ => es.length + 67 - (intOf i).toNat)
  case atStart => exact ⟨0, Nat.zero_le _, by simp, HF⟩
  case round =>
    clear HF
    obtain ⟨k, hk, rfl, HF⟩ := hrel
    by_cases hlt : k < 67
    · have Hset := Lib.hid (fun off ho => fillR_set (off := off) (mk := fun k => mkE ((es.length : Int) + (k : Int))) (z := zE) Le.out (fun i => rfl) rfl hlt ho)
      have Hlen := Lib.hid (fillR_len (mk := fun k => mkE ((es.length : Int) + (k : Int))) (z := zE) Le.out (fun i => rfl) rfl hk)
      have hoff : ((es.length : Int) + k).toNat = es.length + k := by omega
      have hlt2 : (k : Int) < 67 := by omega
      go_wp2_with (first | ((with_reducible refine k_load ?_); refine st_load rfl _ _ rfl _ _ rfl ?_ HF 2 rfl rfl ?_; (kernel_rfl); (intro K hK; go_simp))          | ((with_reducible refine k_store (T := 101) ?_); refine st_stores rfl _ _ _ rfl _ _ rfl (mkE ((es.length : Int) + (k : Int))).toArray rfl ?_ s101 HF 0 rfl ?_ ?_; (simp [mkE, Value.oneCell']); (simp only [List.size_toArray]; rw [Hlen.out]; show _ + 4 ≤ _; omega); (clear HF; intro w HF K hK; simp only [List.set_cons_zero, List.size_toArray] at HF; rw [show (mkE ((es.length : Int) + (k : Int))).length = 4 from rfl, Hset.out _ rfl] at HF; go_simp)))
      go_roundw
      case rel => exact ⟨k + 1, by omega, by rw [Int.natCast_add, Int.add_assoc]; rfl, HF⟩
      case measure => simp [intOf]; omega
    · have hk2 : k = 67 := by omega
      subst hk2
      clear hlt hk
      go_wp2_with (first | ((with_reducible refine k_load ?_); refine st_load rfl _ _ rfl _ _ rfl ?_ HF 2 rfl rfl ?_; (kernel_rfl); (intro K hK; go_simp))          | ((with_reducible refine k_make ?_); refine st_make rfl _ _ _ rfl _ _ _ _ rfl rfl 104 Try.underlying34 56 ?_ 7 ?_ (.agg zL.toArray) ?_ ?_ ?_ ?_ ?_ HF ?_; (kernel_rfl); (kernel_rfl); (kernel_rfl); (omega); (omega); (omega); (omega);              (clear HF; intro gl w HF K hK; replace HF : At W (Blk gl (.cells (List.replicate (ls.length + 67) zL).flatten.toArray 104 (0, 0)) :: Blk ge (.cells (fillR es.flatten (fun k => mkE ((es.length : Int) + (k : Int))) zE 67 67).toArray 101 (0, 0)) :: Blk g2 (.cells #[.int .i64 0, .slice none 0 0, .slice none 0 0] 36 (0, 0)) :: Blk g1 (.cells #[.int .i64 u, .slice ade es.length cape, .slice adl ls.length capl] 36 (0, 0)) :: Arg W :: []) w := (by rw [← madeCells_recs zL (by decide)]; have e : ((ls.length : Int) + 67).toNat * 7 = (ls.length + 67) * zL.length := (by rw [hn2]; rfl); rw [e] at HF; exact HF); go_simp))          | ((with_reducible refine k_load ?_); refine st_load rfl _ _ rfl _ _ rfl ?_ HF 3 rfl rfl ?_; (kernel_rfl); (intro K hK; go_simp))          | ((with_reducible refine k_builtin ?_); refine st_copyR rfl _ _ _ _ rfl 104 Try.underlying34 7 ?_ gl 0 (ls.length + 67) (ls.length + 67) ls.length capl adl rfl rfl ls.flatten ls.length ?_ Ll.out ?_ Ol.out HF 0 rfl ?_ ?_; (kernel_rfl); (show _ = min ls.length (ls.length + 67); omega);                (intro hp; obtain ⟨bb, hbb⟩ := L3.out (by have := Ll.out; omega); exact ⟨bb, hbb, fun j u hj => (HF.ext 4 rfl).cell (L4.out bb hbb j u hj)⟩);                (rw [len_zeros (size := 7) rfl, Ll.out]; omega); (clear HF; intro w HF K hK; simp only [List.set_cons_zero] at HF; rw [splice_fill (mk := fun k => mkL ((ls.length : Int) + (k : Int))) (n := ls.length) (size := 7) Ll.out rfl] at HF; go_simp)))
      go_loopw [6] (fun i wr => ∃ k : Nat, k ≤ 67 ∧ i = .int .i64 (ls.length + k) ∧ At W (Blk gl (.cells (fillR ls.flatten (fun k => mkL ((ls.length : Int) + (k : Int))) zL k 67).toArray 104 (0, 0)) :: Blk ge (.cells (fillR es.flatten (fun k => mkE ((es.length : Int) + (k : Int))) zE 67 67).toArray 101 (0, 0)) :: Blk g2 (.cells #[.int .i64 0, .slice none 0 0, .slice none 0 0] 36 (0, 0)) :: Blk g1 (.cells #[.int .i64 u, .slice ade es.length cape, .slice adl ls.length capl] 36 (0, 0)) :: Arg W :: []) wr) (fun i _ => ls.length + 67 - (intOf i).toNat)
      case atStart => exact ⟨0, Nat.zero_le _, by simp, HF⟩
      case round =>
        clear HF
        obtain ⟨k, hk, rfl, HF⟩ := hrel
        by_cases hlt : k < 67
        · have Hset := Lib.hid (fun off ho => fillR_set (off := off) (mk := fun k => mkL ((ls.length : Int) + (k : Int))) (z := zL) Ll.out (fun i => rfl) rfl hlt ho)
          have Hlen := Lib.hid (fillR_len (mk := fun k => mkL ((ls.length : Int) + (k : Int))) (z := zL) Ll.out (fun i => rfl) rfl hk)
          have hoff : ((ls.length : Int) + k).toNat = ls.length + k := by omega
          have hlt2 : (k : Int) < 67 := by omega
          go_wp2_with (first | ((with_reducible refine k_load ?_); refine st_load rfl _ _ rfl _ _ rfl ?_ HF 3 rfl rfl ?_; (kernel_rfl); (intro K hK; go_simp))              | ((with_reducible refine k_store (T := 104) ?_); refine st_stores rfl _ _ _ rfl _ _ rfl (mkL ((ls.length : Int) + (k : Int))).toArray rfl ?_ s104 HF 0 rfl ?_ ?_; (simp [mkL, Value.oneCell']); (simp only [List.size_toArray]; rw [Hlen.out]; show _ + 7 ≤ _; omega); (clear HF; intro w HF K hK; simp only [List.set_cons_zero, List.size_toArray] at HF; rw [show (mkL ((ls.length : Int) + (k : Int))).length = 7 from rfl, Hset.out _ rfl] at HF; go_simp)))
          go_roundw
          case rel => exact ⟨k + 1, by omega, by rw [Int.natCast_add, Int.add_assoc]; rfl, HF⟩
          case measure => simp [intOf]; omega
        · have hk2 : k = 67 := by omega
          subst hk2
          clear hlt hk
          go_wp2_with fail
          apply wp_region_eff [13] (fun i => (#[[], [], [], [], [], [], [], [], [], [], [], [], [], []] : Array (List Nat)).getD i []) (fun val i => ((_ :: _ :: _ :: _ :: _ :: _ :: _ :: _ :: _ :: _ :: _ :: _ :: _ :: val 13 :: []) : List Value).toArray.getD i undef) (fun E val => At W (Blk gl (.cells (fillR ls.flatten (fun k => mkL ((ls.length : Int) + (k : Int))) zL 67 67).toArray 104 (0, 0)) :: Blk ge (.cells (fillR es.flatten (fun k => mkE ((es.length : Int) + (k : Int))) zE 67 67).toArray 101 (0, 0)) :: Blk g2 (.cells (if E 13 = true then #[.int .i64 u, .slice (some ⟨ge, 0, none⟩) es.length (es.length + 67), .slice (some ⟨gl, 0, none⟩) ls.length (ls.length + 67)] else #[.int .i64 0, .slice none 0 0, .slice none 0 0]) 36 (0, 0)) :: Blk g1 (.cells #[.int .i64 u, .slice ade es.length cape, .slice adl ls.length capl] 36 (0, 0)) :: Arg W :: [])) (by kernel_rfl) (by kernel_rfl) (by kernel_rfl) (by kernel_rfl) (HF)
          case step =>
            iterate 13 (refine ⟨eff_pl rfl (fun _ => by rfl) fun E val hn T ds w K H hk ho hK => ?_, ?_⟩; rotate_left)
            refine ⟨eff_mk rfl (fun _ => by rfl) fun E val hE0 hcl hn T ds w K H hk ho hK => ?_, ?_⟩; rotate_left
            exact trivial
            · have o1 := ho 1 (by kernel_rfl); clear ho; simp [know, dstAt, Region.binds] at hk o1; go_simp; exact hK _ H
            · clear ho; simp [know, dstAt, Region.binds] at hk
              (refine op_loadT rfl hk ?_ H 3 rfl rfl ?_; (kernel_rfl); exact hK _ H)
            · have o3 := ho 3 (by kernel_rfl); clear ho; simp [know, dstAt, Region.binds] at hk o3; go_simp; exact hK _ H
            · have o1 := ho 1 (by kernel_rfl); clear ho; simp [know, dstAt, Region.binds] at hk o1; go_simp; exact hK _ H
            · clear ho; simp [know, dstAt, Region.binds] at hk
              (refine op_loadT rfl hk ?_ H 3 rfl rfl ?_; (kernel_rfl); exact hK _ H)
            · clear ho; simp [know, dstAt, Region.binds] at hk; go_simp; exact hK _ H
            · clear ho; simp [know, dstAt, Region.binds] at hk
              first | (refine op_sliceT rfl hk.1 hk.2 Try.underlying33 s101 (by omega) ?_; exact hK _ H) | (refine op_sliceT rfl hk.1 hk.2 Try.underlying34 s104 (by omega) ?_; exact hK _ H) | (go_simp; exact hK _ H)
            · have o5 := ho 5 (by kernel_rfl); clear ho; simp [know, dstAt, Region.binds] at hk o5; go_simp; exact hK _ H
            · have o1 := ho 1 (by kernel_rfl); clear ho; simp [know, dstAt, Region.binds] at hk o1; go_simp; exact hK _ H
            · clear ho; simp [know, dstAt, Region.binds] at hk
              (refine op_loadT rfl hk ?_ H 3 rfl rfl ?_; (kernel_rfl); exact hK _ H)
            · clear ho; simp [know, dstAt, Region.binds] at hk; go_simp; exact hK _ H
            · clear ho; simp [know, dstAt, Region.binds] at hk
              first | (refine op_sliceT rfl hk.1 hk.2 Try.underlying33 s101 (by omega) ?_; exact hK _ H) | (refine op_sliceT rfl hk.1 hk.2 Try.underlying34 s104 (by omega) ?_; exact hK _ H) | (go_simp; exact hK _ H)
            · clear ho; simp [know, dstAt, Region.binds] at hk
              first | (refine op_sliceT rfl hk.1 hk.2 Try.underlying33 s101 (by omega) ?_; exact hK _ H) | (refine op_sliceT rfl hk.1 hk.2 Try.underlying34 s104 (by omega) ?_; exact hK _ H) | (go_simp; exact hK _ H)
            · have o2 := ho 2 (by kernel_rfl); clear ho; simp [know, dstAt, Region.binds] at hk o2
              (simp only [hE0, Bool.false_eq_true, if_false] at H); refine op_putT rfl o2 hk.1 ?_ s36 H 2 rfl rfl rfl ?_; (simp [Value.oneCell']); (intro w' H; refine hK _ _ ?_; exact H)
          case ins =>
            iterate 13 (refine ⟨ins_pl rfl (fun _ _ _ => rfl), ?_⟩)
            refine ⟨ins_mk rfl (fun _ => rfl), ?_⟩
            exact trivial
          case jns =>
            iterate 13 (refine ⟨j_pl (fun _ _ _ => rfl), ?_⟩)
            refine ⟨j_mk rfl, ?_⟩
            exact trivial
          case fin =>
            intro E val w5 hE H
            have e13 := hE 13 (by decide)
            simp only [e13, if_true] at H
            clear HF hE e13
            have HF := H
            clear H
            simp [putAll, Act.put]
            go_wp2_with fail
            refine bodyPost_ret (results_cell rfl rfl a36 s36 (HF.get 2 rfl) rfl) rfl ?_
            exact ⟨ge, gl, rfl, (show At W ([_, _] ++ [Arg W]) _ from HF.sel 5 [1, 0, 4]).lift H0.out⟩
end
end Md
end Go.Proofs.Ytjobojgmadjmfaa
