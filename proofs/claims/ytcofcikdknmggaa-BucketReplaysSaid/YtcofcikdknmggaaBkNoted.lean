/-
  The document's bucket: the Lasts behind a command.
-/
import Derived.Test.YtcofcikdknmggaaBkRefB
namespace Go.Proofs.Ytcofcikdknmggaa
open Go.Hp Go.RowKit
set_option linter.unusedVariables false
set_option linter.unusedSimpArgs false
set_option maxRecDepth 100000
set_option maxHeartbeats 2000000
namespace Bk

/-- What is appended from here on; the flag: the new one is there. -/
def notedG (x : La) : List La → Bool → List La
  | [], d => if d = true then [] else [x]
  | y :: l, d => (if d = false ∧ x.cl ≤ y.cl then [x] else []) ++ ((if y.cl = x.cl then [] else [y]) ++ notedG x l (d || decide (x.cl ≤ y.cl)))
def notedS (l : List La) (x : La) : List La := notedG x l false

theorem noted_step {x y : La} {l acc acc2 r : List La} {k : Nat} {d d2 : Bool} (hy : l[k]? = some y) (h : acc ++ notedG x (l.drop k) d = r)
    (h2 : acc2 = acc ++ ((if d = false ∧ x.cl ≤ y.cl then [x] else []) ++ (if y.cl = x.cl then [] else [y])) ∧ d2 = (d || decide (x.cl ≤ y.cl))) : acc2 ++ notedG x (l.drop (k + 1)) d2 = r := by
  have hk := (List.getElem?_eq_some_iff.1 hy)
  obtain ⟨hlt, he⟩ := hk
  rw [List.drop_eq_getElem_cons hlt, he] at h
  rw [← h, h2.1, h2.2]
  simp [notedG]

theorem lC_app (a b : List La) : lC (a ++ b) = lC a ++ lC b := by unfold lC; simp
section
variable {w0 w W : World} {L : List HProp}
theorem ol_snoc {v : Value} {l : List La} {x : La} (H : At w0 (OwnRow 53 7 v (l.length + 1) (lC l ++ x.cells) :: L) w) : At w0 (OL v (l ++ [x]) :: L) w := by
  unfold OL
  rw [lC_app, List.length_append]
  have e : lC [x] = x.cells := by unfold lC; simp
  rw [e]
  exact H

theorem noted {v : Value} {l : List La} {x : La} (hv : RecsAt w v 7 (l.map La.cells)) (hb : (l.length + 1) * 56 ≤ 140737488355328) (H : At w0 L w) :
    Calls Try.prog 41 #[v, .agg x.cells.toArray] w (fun e w' => ∃ v', e = .returned v' ∧ At w0 (OL v' (notedS l x) :: L) w') := by
  obtain ⟨W, rfl⟩ : ∃ W : World, W = w := ⟨_, rfl⟩
  have HF := At.of W
  have H0 := Lib.hid H
  obtain ⟨ad, cap, rfl, c1, c2, c3⟩ := hv.value
  rw [List.length_map] at c1 c3 hv ⊢
  have R := Lib.hid hv
  have C3 := Lib.hid c3
  clear H hv c3
  obtain ⟨cl, op, ins, er, fc, fo, sz⟩ := x
  simp only [La.cells]
  go_enter Try.func41, Try.ntmps41
  go_wp2_with ((with_reducible refine k_box ?_); refine st_box rfl _ _ rfl _ rfl HF ?_; (clear HF; intro g3 w HF K hK; simp only [Value.cells, Act.eval, Value.cells, Array.getD_eq_getD_getElem?, List.getElem?_toArray, List.getElem?_cons_succ, List.getElem?_cons_zero, Option.getD_some] at HF; go_simp))
  replace HF : At W (OL (.slice none 0 0) [] :: Blk g3 (.cells #[.int .i64 cl, .int .i64 op, .int .i64 ins, .int .i64 er, .int .i64 fc, .int .i64 fo, .int .i64 sz] 53 (0, 0)) :: Arg W :: []) _ := ol_nil HF
  go_loopw [5, 6, 7] (fun a b c wr => ∃ (k : Nat) (acc : List La) (d : Bool) (v5 : Value), k ≤ l.length ∧ a = v5 ∧ b = .bool d ∧ c = .int .i64 k ∧ Hid (acc ++ notedG (⟨cl, op, ins, er, fc, fo, sz⟩ : La) (l.drop k) d = notedS l (⟨cl, op, ins, er, fc, fo, sz⟩ : La)) ∧ acc.length ≤ k + 1 ∧ (d = false → acc.length ≤ k) ∧
    At W (OL v5 acc :: Blk g3 (.cells #[.int .i64 cl, .int .i64 op, .int .i64 ins, .int .i64 er, .int .i64 fc, .int .i64 fo, .int .i64 sz] 53 (0, 0)) :: Arg W :: []) wr) (fun _ _ i _ => l.length - (intOf i).toNat)
  case atStart => exact ⟨0, [], false, _, Nat.zero_le _, rfl, rfl, rfl, Lib.hid rfl, by simp, fun _ => by simp, HF⟩
  case round =>
    clear HF
    obtain ⟨k, acc, d, v5, hk, rfl, rfl, rfl, HI, ha1, ha2, HF⟩ := hrel
    obtain ⟨ad5, n5, cap5, rfl⟩ := own_form HF
    by_cases hlt : k < l.length
    · have g1 : (k : Int) < l.length := by omega
      obtain ⟨y, hx⟩ : ∃ y, l[k]? = some y := ⟨_, List.getElem?_eq_getElem hlt⟩
      obtain ⟨b, rfl⟩ := C3.out (by omega)
      have Hc := Lib.hid (recs_get R.out hx)
      have Hx := Lib.hid hx
      have Hc0 := Lib.hid (recs_get R.out hx 0 (.int .i64 y.cl) rfl)
      obtain ⟨ycl, yop, yin, yer, yfc, yfo, ysz⟩ := y
      dsimp only at Hc0
      clear hx
      cases d with
      | true =>
        by_cases hne : ycl = cl
        · have hne' := hne.symm
          subst hne'
          go_wp2_with fail
          apply wp_region_eff [] (fun i => (#[[], [], [], [], [], [], [], [], [], [], [], []] : Array (List Nat)).getD i []) (fun val i => ((_ :: _ :: .bool false :: undef :: undef :: undef :: undef :: undef :: undef :: undef :: undef :: _ :: []) : List Value).toArray.getD i undef) (fun E val => At W (OL (.slice ad5 n5 cap5) (acc) :: Blk g3 (.cells #[.int .i64 cl, .int .i64 op, .int .i64 ins, .int .i64 er, .int .i64 fc, .int .i64 fo, .int .i64 sz] 53 (0, 0)) :: Arg W :: [])) (by kernel_rfl) (by kernel_rfl) (by kernel_rfl) (by kernel_rfl) (HF)
          case step =>
            iterate 3 (refine ⟨eff_pl rfl (fun _ => by rfl) fun E val hn T ds w K H hk ho hK => ?_, ?_⟩; rotate_left)
            iterate 8 (refine ⟨eff_no rfl (fun _ => by rfl) (fun _ => rfl), ?_⟩)
            refine ⟨eff_pl rfl (fun _ => by rfl) fun E val hn T ds w K H hk ho hK => ?_, ?_⟩; rotate_left
            exact trivial
            · have o6 := ho 6 (by kernel_rfl); clear ho; simp [know, dstAt, Region.binds] at hk o6; go_simp; exact hK _ H
            · clear ho; simp [know, dstAt, Region.binds] at hk; go_simp; exact hK _ H
            · clear ho; simp [know, dstAt, Region.binds] at hk; go_simp; exact hK _ H
            · clear ho; simp [know, dstAt, Region.binds] at hk; go_simp; exact hK _ H
          case ins =>
            iterate 12 (refine ⟨ins_pl rfl (fun _ _ _ => rfl), ?_⟩)
            exact trivial
          case jns =>
            iterate 12 (refine ⟨j_pl (fun _ _ _ => rfl), ?_⟩)
            exact trivial
          case fin =>
            intro E val w5 hE H
            clear HF hE
            have HF := H
            clear H
            simp [putAll, Act.put]
            go_wp2_with fail
            apply wp_region_eff [] (fun i => (#[[], [], [], [], [], [], [], []] : Array (List Nat)).getD i []) (fun val i => ((_ :: _ :: _ :: _ :: _ :: _ :: _ :: _ :: []) : List Value).toArray.getD i undef) (fun E val => At W (OL (.slice ad5 n5 cap5) (acc) :: Blk g3 (.cells #[.int .i64 cl, .int .i64 op, .int .i64 ins, .int .i64 er, .int .i64 fc, .int .i64 fo, .int .i64 sz] 53 (0, 0)) :: Arg W :: [])) (by kernel_rfl) (by kernel_rfl) (by kernel_rfl) (by kernel_rfl) (HF)
            case step =>
              iterate 8 (refine ⟨eff_pl rfl (fun _ => by rfl) fun E val hn T ds w K H hk ho hK => ?_, ?_⟩; rotate_left)
              exact trivial
              · have o0 := ho 0 (by kernel_rfl); clear ho; simp [know, dstAt, Region.binds] at hk o0; go_simp; exact hK _ H
              · have o7 := ho 7 (by kernel_rfl); clear ho; simp [know, dstAt, Region.binds] at hk o7; go_simp; exact hK _ H
              · clear ho; simp [know, dstAt, Region.binds] at hk; go_simp; exact hK _ H
              · clear ho; simp [know, dstAt, Region.binds] at hk; go_simp; exact hK _ H
              · clear ho; simp [know, dstAt, Region.binds] at hk
                first | (refine op_loadT rfl hk ?_ H 1 rfl rfl ?_; (kernel_rfl); exact hK _ H) | (refine op_load1T rfl hk (by kernel_rfl) ((H.ext 2 rfl).cell (Hc0.out)) ?_; exact hK _ H)
              · have o3 := ho 3 (by kernel_rfl); clear ho; simp [know, dstAt, Region.binds] at hk o3; go_simp; exact hK _ H
              · clear ho; simp [know, dstAt, Region.binds] at hk
                first | (refine op_loadT rfl hk ?_ H 1 rfl rfl ?_; (kernel_rfl); exact hK _ H) | (refine op_load1T rfl hk (by kernel_rfl) ((H.ext 2 rfl).cell (Hc0.out)) ?_; exact hK _ H)
              · clear ho; simp [know, dstAt, Region.binds] at hk; go_simp; exact hK _ H
            case ins =>
              iterate 8 (refine ⟨ins_pl rfl (fun _ _ _ => rfl), ?_⟩)
              exact trivial
            case jns =>
              iterate 8 (refine ⟨j_pl (fun _ _ _ => rfl), ?_⟩)
              exact trivial
            case fin =>
              intro E val w5 hE H
              clear HF hE
              have HF := H
              clear H
              simp [putAll, Act.put]
              go_wp2_with fail
              go_roundw
              case rel => exact ⟨k + 1, acc, true, _, by omega, rfl, rfl, rfl, Lib.hid (noted_step Hx.out HI.out (by simp)), (by (try simp only [List.length_append, List.length_cons, List.length_nil]); first | omega | (intros; omega)), (by (try simp only [List.length_append, List.length_cons, List.length_nil]); first | omega | (intros; first | omega | contradiction)), HF⟩
              case measure => simp [intOf]; omega
        · go_wp2_with fail
          apply wp_region_eff [] (fun i => (#[[], [], [], [], [], [], [], [], [], [], [], []] : Array (List Nat)).getD i []) (fun val i => ((_ :: _ :: .bool false :: undef :: undef :: undef :: undef :: undef :: undef :: undef :: undef :: _ :: []) : List Value).toArray.getD i undef) (fun E val => At W (OL (.slice ad5 n5 cap5) (acc) :: Blk g3 (.cells #[.int .i64 cl, .int .i64 op, .int .i64 ins, .int .i64 er, .int .i64 fc, .int .i64 fo, .int .i64 sz] 53 (0, 0)) :: Arg W :: [])) (by kernel_rfl) (by kernel_rfl) (by kernel_rfl) (by kernel_rfl) (HF)
          case step =>
            iterate 3 (refine ⟨eff_pl rfl (fun _ => by rfl) fun E val hn T ds w K H hk ho hK => ?_, ?_⟩; rotate_left)
            iterate 8 (refine ⟨eff_no rfl (fun _ => by rfl) (fun _ => rfl), ?_⟩)
            refine ⟨eff_pl rfl (fun _ => by rfl) fun E val hn T ds w K H hk ho hK => ?_, ?_⟩; rotate_left
            exact trivial
            · have o6 := ho 6 (by kernel_rfl); clear ho; simp [know, dstAt, Region.binds] at hk o6; go_simp; exact hK _ H
            · clear ho; simp [know, dstAt, Region.binds] at hk; go_simp; exact hK _ H
            · clear ho; simp [know, dstAt, Region.binds] at hk; go_simp; exact hK _ H
            · clear ho; simp [know, dstAt, Region.binds] at hk; go_simp; exact hK _ H
          case ins =>
            iterate 12 (refine ⟨ins_pl rfl (fun _ _ _ => rfl), ?_⟩)
            exact trivial
          case jns =>
            iterate 12 (refine ⟨j_pl (fun _ _ _ => rfl), ?_⟩)
            exact trivial
          case fin =>
            intro E val w5 hE H
            clear HF hE
            have HF := H
            clear H
            simp [putAll, Act.put]
            go_wp2_with fail
            apply wp_region_eff [] (fun i => (#[[], [], [], [], [], [], [], []] : Array (List Nat)).getD i []) (fun val i => ((_ :: _ :: _ :: _ :: _ :: _ :: _ :: _ :: []) : List Value).toArray.getD i undef) (fun E val => At W (OL (.slice ad5 n5 cap5) (acc) :: Blk g3 (.cells #[.int .i64 cl, .int .i64 op, .int .i64 ins, .int .i64 er, .int .i64 fc, .int .i64 fo, .int .i64 sz] 53 (0, 0)) :: Arg W :: [])) (by kernel_rfl) (by kernel_rfl) (by kernel_rfl) (by kernel_rfl) (HF)
            case step =>
              iterate 8 (refine ⟨eff_pl rfl (fun _ => by rfl) fun E val hn T ds w K H hk ho hK => ?_, ?_⟩; rotate_left)
              exact trivial
              · have o0 := ho 0 (by kernel_rfl); clear ho; simp [know, dstAt, Region.binds] at hk o0; go_simp; exact hK _ H
              · have o7 := ho 7 (by kernel_rfl); clear ho; simp [know, dstAt, Region.binds] at hk o7; go_simp; exact hK _ H
              · clear ho; simp [know, dstAt, Region.binds] at hk; go_simp; exact hK _ H
              · clear ho; simp [know, dstAt, Region.binds] at hk; go_simp; exact hK _ H
              · clear ho; simp [know, dstAt, Region.binds] at hk
                first | (refine op_loadT rfl hk ?_ H 1 rfl rfl ?_; (kernel_rfl); exact hK _ H) | (refine op_load1T rfl hk (by kernel_rfl) ((H.ext 2 rfl).cell (Hc0.out)) ?_; exact hK _ H)
              · have o3 := ho 3 (by kernel_rfl); clear ho; simp [know, dstAt, Region.binds] at hk o3; go_simp; exact hK _ H
              · clear ho; simp [know, dstAt, Region.binds] at hk
                first | (refine op_loadT rfl hk ?_ H 1 rfl rfl ?_; (kernel_rfl); exact hK _ H) | (refine op_load1T rfl hk (by kernel_rfl) ((H.ext 2 rfl).cell (Hc0.out)) ?_; exact hK _ H)
              · clear ho; simp [know, dstAt, Region.binds] at hk; go_simp; exact hK _ H
            case ins =>
              iterate 8 (refine ⟨ins_pl rfl (fun _ _ _ => rfl), ?_⟩)
              exact trivial
            case jns =>
              iterate 8 (refine ⟨j_pl (fun _ _ _ => rfl), ?_⟩)
              exact trivial
            case fin =>
              intro E val w5 hE H
              clear HF hE
              have HF := H
              clear H
              simp [putAll, Act.put]
              go_wp2_with (first | ((with_reducible refine k_load (T := 53) ?_); refine st_loadCells rfl _ _ rfl _ rfl a53 [.int .i64 ycl, .int .i64 yop, .int .i64 yin, .int .i64 yer, .int .i64 yfc, .int .i64 yfo, .int .i64 ysz] s53 (fun j u hj => (HF.ext 2 rfl).cell (Hc.out j u hj)) ?_; (intro K hK; go_simp)) | ((with_reducible refine k_lit ?_); refine st_lit1 rfl _ _ rfl #[.int .i64 ycl, .int .i64 yop, .int .i64 yin, .int .i64 yer, .int .i64 yfc, .int .i64 yfo, .int .i64 ysz] rfl 53 Try.underlying23 7 s53 _ z53 rfl rfl (by decide) (by decide) HF ?_; (clear HF; intro gl w HF K hK; go_simp)) | ((with_reducible refine k_builtin ?_); refine st_append rfl _ _ _ rfl 53 Try.underlying23 7 s53 56 bytes53 _ z53 rfl _ (acc).length (lC (acc)) rfl (HF.sel 2 [1, 0]) (some ⟨gl, 0, none⟩) 1 1 [.int .i64 ycl, .int .i64 yop, .int .i64 yin, .int .i64 yer, .int .i64 yfc, .int .i64 yfo, .int .i64 ysz] rfl rfl (fun _ => ⟨_, rfl, cells_of (HF.get 0 rfl)⟩) (ll_one (⟨ycl, yop, yin, yer, yfc, yfo, ysz⟩ : La)) ?_ ?_ ?_; ((try simp only [List.length_append, List.length_cons, List.length_nil, maxLen]); omega); ((try simp only [List.length_append, List.length_cons, List.length_nil]); omega); (clear HF; intro v7 w HF K hK; replace HF := ol_snoc (l := acc) (x := (⟨ycl, yop, yin, yer, yfc, yfo, ysz⟩ : La)) (HF.sel 4 [0, 2, 3]); go_simp)))
              go_roundw
              case rel => exact ⟨k + 1, acc ++ [(⟨ycl, yop, yin, yer, yfc, yfo, ysz⟩ : La)], true, _, by omega, rfl, rfl, rfl, Lib.hid (noted_step Hx.out HI.out (by simp [hne])), (by (try simp only [List.length_append, List.length_cons, List.length_nil]); first | omega | (intros; omega)), (by (try simp only [List.length_append, List.length_cons, List.length_nil]); first | omega | (intros; first | omega | contradiction)), HF⟩
              case measure => simp [intOf]; omega
      | false =>
        have ha3 := ha2 rfl
        by_cases hge : cl ≤ ycl
        · by_cases hne : ycl = cl
          · have hne' := hne.symm
            subst hne'
            go_wp2_with fail
            apply wp_region_eff [] (fun i => (#[[], [], [], [], [], [], [], [], [], [], [], []] : Array (List Nat)).getD i []) (fun val i => ((_ :: _ :: .bool true :: _ :: _ :: _ :: _ :: _ :: _ :: _ :: _ :: _ :: []) : List Value).toArray.getD i undef) (fun E val => At W (OL (.slice ad5 n5 cap5) (acc) :: Blk g3 (.cells #[.int .i64 cl, .int .i64 op, .int .i64 ins, .int .i64 er, .int .i64 fc, .int .i64 fo, .int .i64 sz] 53 (0, 0)) :: Arg W :: [])) (by kernel_rfl) (by kernel_rfl) (by kernel_rfl) (by kernel_rfl) (HF)
            case step =>
              iterate 12 (refine ⟨eff_pl rfl (fun _ => by rfl) fun E val hn T ds w K H hk ho hK => ?_, ?_⟩; rotate_left)
              exact trivial
              · have o6 := ho 6 (by kernel_rfl); clear ho; simp [know, dstAt, Region.binds] at hk o6; go_simp; exact hK _ H
              · clear ho; simp [know, dstAt, Region.binds] at hk; go_simp; exact hK _ H
              · clear ho; simp [know, dstAt, Region.binds] at hk; go_simp; exact hK _ H
              · have o0 := ho 0 (by kernel_rfl); clear ho; simp [know, dstAt, Region.binds] at hk o0; go_simp; exact hK _ H
              · have o7 := ho 7 (by kernel_rfl); clear ho; simp [know, dstAt, Region.binds] at hk o7; go_simp; exact hK _ H
              · clear ho; simp [know, dstAt, Region.binds] at hk; go_simp; exact hK _ H
              · clear ho; simp [know, dstAt, Region.binds] at hk; go_simp; exact hK _ H
              · clear ho; simp [know, dstAt, Region.binds] at hk
                first | (refine op_loadT rfl hk.1 ?_ H 1 rfl rfl ?_; (kernel_rfl); exact hK _ H) | (refine op_load1T rfl hk.1 (by kernel_rfl) ((H.ext 2 rfl).cell (Hc0.out)) ?_; exact hK _ H)
              · have o3 := ho 3 (by kernel_rfl); clear ho; simp [know, dstAt, Region.binds] at hk o3; go_simp; exact hK _ H
              · clear ho; simp [know, dstAt, Region.binds] at hk
                first | (refine op_loadT rfl hk.1 ?_ H 1 rfl rfl ?_; (kernel_rfl); exact hK _ H) | (refine op_load1T rfl hk.1 (by kernel_rfl) ((H.ext 2 rfl).cell (Hc0.out)) ?_; exact hK _ H)
              · clear ho; simp [know, dstAt, Region.binds] at hk; go_simp; exact hK _ H
              · clear ho; simp [know, dstAt, Region.binds] at hk; go_simp; exact hK _ H
            case ins =>
              iterate 12 (refine ⟨ins_pl rfl (fun _ _ _ => rfl), ?_⟩)
              exact trivial
            case jns =>
              iterate 12 (refine ⟨j_pl (fun _ _ _ => rfl), ?_⟩)
              exact trivial
            case fin =>
              intro E val w5 hE H
              clear HF hE
              have HF := H
              clear H
              simp [putAll, Act.put]
              go_wp2_with (first | ((with_reducible refine k_load (T := 53) ?_); refine st_row rfl _ _ rfl _ rfl a53 7 s53 HF 1 rfl rfl ?_; (intro K hK; go_simp)) | ((with_reducible refine k_lit ?_); refine st_lit1 rfl _ _ rfl #[.int .i64 cl, .int .i64 op, .int .i64 ins, .int .i64 er, .int .i64 fc, .int .i64 fo, .int .i64 sz] rfl 53 Try.underlying23 7 s53 _ z53 rfl rfl (by decide) (by decide) HF ?_; (clear HF; intro gl w HF K hK; go_simp)) | ((with_reducible refine k_builtin ?_); refine st_append rfl _ _ _ rfl 53 Try.underlying23 7 s53 56 bytes53 _ z53 rfl _ (acc).length (lC (acc)) rfl (HF.sel 2 [1, 0]) (some ⟨gl, 0, none⟩) 1 1 [.int .i64 cl, .int .i64 op, .int .i64 ins, .int .i64 er, .int .i64 fc, .int .i64 fo, .int .i64 sz] rfl rfl (fun _ => ⟨_, rfl, cells_of (HF.get 0 rfl)⟩) (ll_one (⟨cl, op, ins, er, fc, fo, sz⟩ : La)) ?_ ?_ ?_; ((try simp only [List.length_append, List.length_cons, List.length_nil, maxLen]); omega); ((try simp only [List.length_append, List.length_cons, List.length_nil]); omega); (clear HF; intro v6 w HF K hK; replace HF := ol_snoc (l := acc) (x := (⟨cl, op, ins, er, fc, fo, sz⟩ : La)) (HF.sel 4 [0, 2, 3]); go_simp)))
              apply wp_region_eff [] (fun i => (#[[], [], [], [], [], [], [], []] : Array (List Nat)).getD i []) (fun val i => ((_ :: _ :: _ :: _ :: _ :: _ :: _ :: _ :: []) : List Value).toArray.getD i undef) (fun E val => At W (OL v6 (acc ++ [(⟨cl, op, ins, er, fc, fo, sz⟩ : La)]) :: Blk g3 (.cells #[.int .i64 cl, .int .i64 op, .int .i64 ins, .int .i64 er, .int .i64 fc, .int .i64 fo, .int .i64 sz] 53 (0, 0)) :: Arg W :: [])) (by kernel_rfl) (by kernel_rfl) (by kernel_rfl) (by kernel_rfl) (HF)
              case step =>
                iterate 8 (refine ⟨eff_pl rfl (fun _ => by rfl) fun E val hn T ds w K H hk ho hK => ?_, ?_⟩; rotate_left)
                exact trivial
                · have o0 := ho 0 (by kernel_rfl); clear ho; simp [know, dstAt, Region.binds] at hk o0; go_simp; exact hK _ H
                · have o7 := ho 7 (by kernel_rfl); clear ho; simp [know, dstAt, Region.binds] at hk o7; go_simp; exact hK _ H
                · clear ho; simp [know, dstAt, Region.binds] at hk; go_simp; exact hK _ H
                · clear ho; simp [know, dstAt, Region.binds] at hk; go_simp; exact hK _ H
                · clear ho; simp [know, dstAt, Region.binds] at hk
                  first | (refine op_loadT rfl hk ?_ H 1 rfl rfl ?_; (kernel_rfl); exact hK _ H) | (refine op_load1T rfl hk (by kernel_rfl) ((H.ext 2 rfl).cell (Hc0.out)) ?_; exact hK _ H)
                · have o3 := ho 3 (by kernel_rfl); clear ho; simp [know, dstAt, Region.binds] at hk o3; go_simp; exact hK _ H
                · clear ho; simp [know, dstAt, Region.binds] at hk
                  first | (refine op_loadT rfl hk ?_ H 1 rfl rfl ?_; (kernel_rfl); exact hK _ H) | (refine op_load1T rfl hk (by kernel_rfl) ((H.ext 2 rfl).cell (Hc0.out)) ?_; exact hK _ H)
                · clear ho; simp [know, dstAt, Region.binds] at hk; go_simp; exact hK _ H
              case ins =>
                iterate 8 (refine ⟨ins_pl rfl (fun _ _ _ => rfl), ?_⟩)
                exact trivial
              case jns =>
                iterate 8 (refine ⟨j_pl (fun _ _ _ => rfl), ?_⟩)
                exact trivial
              case fin =>
                intro E val w5 hE H
                clear HF hE
                have HF := H
                clear H
                simp [putAll, Act.put]
                go_wp2_with fail
                go_roundw
                case rel => exact ⟨k + 1, acc ++ [(⟨cl, op, ins, er, fc, fo, sz⟩ : La)], true, _, by omega, rfl, rfl, rfl, Lib.hid (noted_step Hx.out HI.out (by simp)), (by (try simp only [List.length_append, List.length_cons, List.length_nil]); first | omega | (intros; omega)), (by (try simp only [List.length_append, List.length_cons, List.length_nil]); first | omega | (intros; first | omega | contradiction)), HF⟩
                case measure => simp [intOf]; omega
          · go_wp2_with fail
            apply wp_region_eff [] (fun i => (#[[], [], [], [], [], [], [], [], [], [], [], []] : Array (List Nat)).getD i []) (fun val i => ((_ :: _ :: .bool true :: _ :: _ :: _ :: _ :: _ :: _ :: _ :: _ :: _ :: []) : List Value).toArray.getD i undef) (fun E val => At W (OL (.slice ad5 n5 cap5) (acc) :: Blk g3 (.cells #[.int .i64 cl, .int .i64 op, .int .i64 ins, .int .i64 er, .int .i64 fc, .int .i64 fo, .int .i64 sz] 53 (0, 0)) :: Arg W :: [])) (by kernel_rfl) (by kernel_rfl) (by kernel_rfl) (by kernel_rfl) (HF)
            case step =>
              iterate 12 (refine ⟨eff_pl rfl (fun _ => by rfl) fun E val hn T ds w K H hk ho hK => ?_, ?_⟩; rotate_left)
              exact trivial
              · have o6 := ho 6 (by kernel_rfl); clear ho; simp [know, dstAt, Region.binds] at hk o6; go_simp; exact hK _ H
              · clear ho; simp [know, dstAt, Region.binds] at hk; go_simp; exact hK _ H
              · clear ho; simp [know, dstAt, Region.binds] at hk; go_simp; exact hK _ H
              · have o0 := ho 0 (by kernel_rfl); clear ho; simp [know, dstAt, Region.binds] at hk o0; go_simp; exact hK _ H
              · have o7 := ho 7 (by kernel_rfl); clear ho; simp [know, dstAt, Region.binds] at hk o7; go_simp; exact hK _ H
              · clear ho; simp [know, dstAt, Region.binds] at hk; go_simp; exact hK _ H
              · clear ho; simp [know, dstAt, Region.binds] at hk; go_simp; exact hK _ H
              · clear ho; simp [know, dstAt, Region.binds] at hk
                first | (refine op_loadT rfl hk.1 ?_ H 1 rfl rfl ?_; (kernel_rfl); exact hK _ H) | (refine op_load1T rfl hk.1 (by kernel_rfl) ((H.ext 2 rfl).cell (Hc0.out)) ?_; exact hK _ H)
              · have o3 := ho 3 (by kernel_rfl); clear ho; simp [know, dstAt, Region.binds] at hk o3; go_simp; exact hK _ H
              · clear ho; simp [know, dstAt, Region.binds] at hk
                first | (refine op_loadT rfl hk.1 ?_ H 1 rfl rfl ?_; (kernel_rfl); exact hK _ H) | (refine op_load1T rfl hk.1 (by kernel_rfl) ((H.ext 2 rfl).cell (Hc0.out)) ?_; exact hK _ H)
              · clear ho; simp [know, dstAt, Region.binds] at hk; go_simp; exact hK _ H
              · clear ho; simp [know, dstAt, Region.binds] at hk; go_simp; exact hK _ H
            case ins =>
              iterate 12 (refine ⟨ins_pl rfl (fun _ _ _ => rfl), ?_⟩)
              exact trivial
            case jns =>
              iterate 12 (refine ⟨j_pl (fun _ _ _ => rfl), ?_⟩)
              exact trivial
            case fin =>
              intro E val w5 hE H
              clear HF hE
              have HF := H
              clear H
              simp [putAll, Act.put]
              go_wp2_with (first | ((with_reducible refine k_load (T := 53) ?_); refine st_row rfl _ _ rfl _ rfl a53 7 s53 HF 1 rfl rfl ?_; (intro K hK; go_simp)) | ((with_reducible refine k_lit ?_); refine st_lit1 rfl _ _ rfl #[.int .i64 cl, .int .i64 op, .int .i64 ins, .int .i64 er, .int .i64 fc, .int .i64 fo, .int .i64 sz] rfl 53 Try.underlying23 7 s53 _ z53 rfl rfl (by decide) (by decide) HF ?_; (clear HF; intro gl w HF K hK; go_simp)) | ((with_reducible refine k_builtin ?_); refine st_append rfl _ _ _ rfl 53 Try.underlying23 7 s53 56 bytes53 _ z53 rfl _ (acc).length (lC (acc)) rfl (HF.sel 2 [1, 0]) (some ⟨gl, 0, none⟩) 1 1 [.int .i64 cl, .int .i64 op, .int .i64 ins, .int .i64 er, .int .i64 fc, .int .i64 fo, .int .i64 sz] rfl rfl (fun _ => ⟨_, rfl, cells_of (HF.get 0 rfl)⟩) (ll_one (⟨cl, op, ins, er, fc, fo, sz⟩ : La)) ?_ ?_ ?_; ((try simp only [List.length_append, List.length_cons, List.length_nil, maxLen]); omega); ((try simp only [List.length_append, List.length_cons, List.length_nil]); omega); (clear HF; intro v6 w HF K hK; replace HF := ol_snoc (l := acc) (x := (⟨cl, op, ins, er, fc, fo, sz⟩ : La)) (HF.sel 4 [0, 2, 3]); go_simp)))
              apply wp_region_eff [] (fun i => (#[[], [], [], [], [], [], [], []] : Array (List Nat)).getD i []) (fun val i => ((_ :: _ :: _ :: _ :: _ :: _ :: _ :: _ :: []) : List Value).toArray.getD i undef) (fun E val => At W (OL v6 (acc ++ [(⟨cl, op, ins, er, fc, fo, sz⟩ : La)]) :: Blk g3 (.cells #[.int .i64 cl, .int .i64 op, .int .i64 ins, .int .i64 er, .int .i64 fc, .int .i64 fo, .int .i64 sz] 53 (0, 0)) :: Arg W :: [])) (by kernel_rfl) (by kernel_rfl) (by kernel_rfl) (by kernel_rfl) (HF)
              case step =>
                iterate 8 (refine ⟨eff_pl rfl (fun _ => by rfl) fun E val hn T ds w K H hk ho hK => ?_, ?_⟩; rotate_left)
                exact trivial
                · have o0 := ho 0 (by kernel_rfl); clear ho; simp [know, dstAt, Region.binds] at hk o0; go_simp; exact hK _ H
                · have o7 := ho 7 (by kernel_rfl); clear ho; simp [know, dstAt, Region.binds] at hk o7; go_simp; exact hK _ H
                · clear ho; simp [know, dstAt, Region.binds] at hk; go_simp; exact hK _ H
                · clear ho; simp [know, dstAt, Region.binds] at hk; go_simp; exact hK _ H
                · clear ho; simp [know, dstAt, Region.binds] at hk
                  first | (refine op_loadT rfl hk ?_ H 1 rfl rfl ?_; (kernel_rfl); exact hK _ H) | (refine op_load1T rfl hk (by kernel_rfl) ((H.ext 2 rfl).cell (Hc0.out)) ?_; exact hK _ H)
                · have o3 := ho 3 (by kernel_rfl); clear ho; simp [know, dstAt, Region.binds] at hk o3; go_simp; exact hK _ H
                · clear ho; simp [know, dstAt, Region.binds] at hk
                  first | (refine op_loadT rfl hk ?_ H 1 rfl rfl ?_; (kernel_rfl); exact hK _ H) | (refine op_load1T rfl hk (by kernel_rfl) ((H.ext 2 rfl).cell (Hc0.out)) ?_; exact hK _ H)
                · clear ho; simp [know, dstAt, Region.binds] at hk; go_simp; exact hK _ H
              case ins =>
                iterate 8 (refine ⟨ins_pl rfl (fun _ _ _ => rfl), ?_⟩)
                exact trivial
              case jns =>
                iterate 8 (refine ⟨j_pl (fun _ _ _ => rfl), ?_⟩)
                exact trivial
              case fin =>
                intro E val w5 hE H
                clear HF hE
                have HF := H
                clear H
                simp [putAll, Act.put]
                obtain ⟨acc2, ha⟩ : ∃ a2, acc ++ [(⟨cl, op, ins, er, fc, fo, sz⟩ : La)] = a2 := ⟨_, rfl⟩
                rw [ha] at HF
                have hal : acc2.length = acc.length + 1 := by rw [← ha]; simp
                have Ha := Lib.hid ha
                clear ha
                go_wp2_with (first | ((with_reducible refine k_load (T := 53) ?_); refine st_loadCells rfl _ _ rfl _ rfl a53 [.int .i64 ycl, .int .i64 yop, .int .i64 yin, .int .i64 yer, .int .i64 yfc, .int .i64 yfo, .int .i64 ysz] s53 (fun j u hj => (HF.ext 2 rfl).cell (Hc.out j u hj)) ?_; (intro K hK; go_simp)) | ((with_reducible refine k_lit ?_); refine st_lit1 rfl _ _ rfl #[.int .i64 ycl, .int .i64 yop, .int .i64 yin, .int .i64 yer, .int .i64 yfc, .int .i64 yfo, .int .i64 ysz] rfl 53 Try.underlying23 7 s53 _ z53 rfl rfl (by decide) (by decide) HF ?_; (clear HF; intro gl w HF K hK; go_simp)) | ((with_reducible refine k_builtin ?_); refine st_append rfl _ _ _ rfl 53 Try.underlying23 7 s53 56 bytes53 _ z53 rfl _ (acc2).length (lC (acc2)) rfl (HF.sel 2 [1, 0]) (some ⟨gl, 0, none⟩) 1 1 [.int .i64 ycl, .int .i64 yop, .int .i64 yin, .int .i64 yer, .int .i64 yfc, .int .i64 yfo, .int .i64 ysz] rfl rfl (fun _ => ⟨_, rfl, cells_of (HF.get 0 rfl)⟩) (ll_one (⟨ycl, yop, yin, yer, yfc, yfo, ysz⟩ : La)) ?_ ?_ ?_; ((try simp only [List.length_append, List.length_cons, List.length_nil, maxLen]); omega); ((try simp only [List.length_append, List.length_cons, List.length_nil]); omega); (clear HF; intro v7 w HF K hK; replace HF := ol_snoc (l := acc2) (x := (⟨ycl, yop, yin, yer, yfc, yfo, ysz⟩ : La)) (HF.sel 4 [0, 2, 3]); go_simp)))
                go_roundw
                case rel => exact ⟨k + 1, acc2 ++ [(⟨ycl, yop, yin, yer, yfc, yfo, ysz⟩ : La)], true, _, by omega, rfl, rfl, rfl, Lib.hid (noted_step Hx.out HI.out (by rw [← Ha.out]; simp [hge, hne])), (by (try simp only [List.length_append, List.length_cons, List.length_nil]); first | omega | (intros; omega)), (by (try simp only [List.length_append, List.length_cons, List.length_nil]); first | omega | (intros; first | omega | contradiction)), HF⟩
                case measure => simp [intOf]; omega
        · have hne : ¬ ycl = cl := by omega
          go_wp2_with fail
          apply wp_region_eff [] (fun i => (#[[], [], [], [], [], [], [], [], [], [], [], []] : Array (List Nat)).getD i []) (fun val i => ((_ :: _ :: .bool true :: _ :: _ :: _ :: _ :: _ :: _ :: _ :: _ :: _ :: []) : List Value).toArray.getD i undef) (fun E val => At W (OL (.slice ad5 n5 cap5) (acc) :: Blk g3 (.cells #[.int .i64 cl, .int .i64 op, .int .i64 ins, .int .i64 er, .int .i64 fc, .int .i64 fo, .int .i64 sz] 53 (0, 0)) :: Arg W :: [])) (by kernel_rfl) (by kernel_rfl) (by kernel_rfl) (by kernel_rfl) (HF)
          case step =>
            iterate 12 (refine ⟨eff_pl rfl (fun _ => by rfl) fun E val hn T ds w K H hk ho hK => ?_, ?_⟩; rotate_left)
            exact trivial
            · have o6 := ho 6 (by kernel_rfl); clear ho; simp [know, dstAt, Region.binds] at hk o6; go_simp; exact hK _ H
            · clear ho; simp [know, dstAt, Region.binds] at hk; go_simp; exact hK _ H
            · clear ho; simp [know, dstAt, Region.binds] at hk; go_simp; exact hK _ H
            · have o0 := ho 0 (by kernel_rfl); clear ho; simp [know, dstAt, Region.binds] at hk o0; go_simp; exact hK _ H
            · have o7 := ho 7 (by kernel_rfl); clear ho; simp [know, dstAt, Region.binds] at hk o7; go_simp; exact hK _ H
            · clear ho; simp [know, dstAt, Region.binds] at hk; go_simp; exact hK _ H
            · clear ho; simp [know, dstAt, Region.binds] at hk; go_simp; exact hK _ H
            · clear ho; simp [know, dstAt, Region.binds] at hk
              first | (refine op_loadT rfl hk.1 ?_ H 1 rfl rfl ?_; (kernel_rfl); exact hK _ H) | (refine op_load1T rfl hk.1 (by kernel_rfl) ((H.ext 2 rfl).cell (Hc0.out)) ?_; exact hK _ H)
            · have o3 := ho 3 (by kernel_rfl); clear ho; simp [know, dstAt, Region.binds] at hk o3; go_simp; exact hK _ H
            · clear ho; simp [know, dstAt, Region.binds] at hk
              first | (refine op_loadT rfl hk.1 ?_ H 1 rfl rfl ?_; (kernel_rfl); exact hK _ H) | (refine op_load1T rfl hk.1 (by kernel_rfl) ((H.ext 2 rfl).cell (Hc0.out)) ?_; exact hK _ H)
            · clear ho; simp [know, dstAt, Region.binds] at hk; go_simp; exact hK _ H
            · clear ho; simp [know, dstAt, Region.binds] at hk; go_simp; exact hK _ H
          case ins =>
            iterate 12 (refine ⟨ins_pl rfl (fun _ _ _ => rfl), ?_⟩)
            exact trivial
          case jns =>
            iterate 12 (refine ⟨j_pl (fun _ _ _ => rfl), ?_⟩)
            exact trivial
          case fin =>
            intro E val w5 hE H
            clear HF hE
            have HF := H
            clear H
            simp [putAll, Act.put]
            go_wp2_with fail
            apply wp_region_eff [] (fun i => (#[[], [], [], [], [], [], [], []] : Array (List Nat)).getD i []) (fun val i => ((_ :: _ :: _ :: _ :: _ :: _ :: _ :: _ :: []) : List Value).toArray.getD i undef) (fun E val => At W (OL (.slice ad5 n5 cap5) (acc) :: Blk g3 (.cells #[.int .i64 cl, .int .i64 op, .int .i64 ins, .int .i64 er, .int .i64 fc, .int .i64 fo, .int .i64 sz] 53 (0, 0)) :: Arg W :: [])) (by kernel_rfl) (by kernel_rfl) (by kernel_rfl) (by kernel_rfl) (HF)
            case step =>
              iterate 8 (refine ⟨eff_pl rfl (fun _ => by rfl) fun E val hn T ds w K H hk ho hK => ?_, ?_⟩; rotate_left)
              exact trivial
              · have o0 := ho 0 (by kernel_rfl); clear ho; simp [know, dstAt, Region.binds] at hk o0; go_simp; exact hK _ H
              · have o7 := ho 7 (by kernel_rfl); clear ho; simp [know, dstAt, Region.binds] at hk o7; go_simp; exact hK _ H
              · clear ho; simp [know, dstAt, Region.binds] at hk; go_simp; exact hK _ H
              · clear ho; simp [know, dstAt, Region.binds] at hk; go_simp; exact hK _ H
              · clear ho; simp [know, dstAt, Region.binds] at hk
                first | (refine op_loadT rfl hk ?_ H 1 rfl rfl ?_; (kernel_rfl); exact hK _ H) | (refine op_load1T rfl hk (by kernel_rfl) ((H.ext 2 rfl).cell (Hc0.out)) ?_; exact hK _ H)
              · have o3 := ho 3 (by kernel_rfl); clear ho; simp [know, dstAt, Region.binds] at hk o3; go_simp; exact hK _ H
              · clear ho; simp [know, dstAt, Region.binds] at hk
                first | (refine op_loadT rfl hk ?_ H 1 rfl rfl ?_; (kernel_rfl); exact hK _ H) | (refine op_load1T rfl hk (by kernel_rfl) ((H.ext 2 rfl).cell (Hc0.out)) ?_; exact hK _ H)
              · clear ho; simp [know, dstAt, Region.binds] at hk; go_simp; exact hK _ H
            case ins =>
              iterate 8 (refine ⟨ins_pl rfl (fun _ _ _ => rfl), ?_⟩)
              exact trivial
            case jns =>
              iterate 8 (refine ⟨j_pl (fun _ _ _ => rfl), ?_⟩)
              exact trivial
            case fin =>
              intro E val w5 hE H
              clear HF hE
              have HF := H
              clear H
              simp [putAll, Act.put]
              go_wp2_with (first | ((with_reducible refine k_load (T := 53) ?_); refine st_loadCells rfl _ _ rfl _ rfl a53 [.int .i64 ycl, .int .i64 yop, .int .i64 yin, .int .i64 yer, .int .i64 yfc, .int .i64 yfo, .int .i64 ysz] s53 (fun j u hj => (HF.ext 2 rfl).cell (Hc.out j u hj)) ?_; (intro K hK; go_simp)) | ((with_reducible refine k_lit ?_); refine st_lit1 rfl _ _ rfl #[.int .i64 ycl, .int .i64 yop, .int .i64 yin, .int .i64 yer, .int .i64 yfc, .int .i64 yfo, .int .i64 ysz] rfl 53 Try.underlying23 7 s53 _ z53 rfl rfl (by decide) (by decide) HF ?_; (clear HF; intro gl w HF K hK; go_simp)) | ((with_reducible refine k_builtin ?_); refine st_append rfl _ _ _ rfl 53 Try.underlying23 7 s53 56 bytes53 _ z53 rfl _ (acc).length (lC (acc)) rfl (HF.sel 2 [1, 0]) (some ⟨gl, 0, none⟩) 1 1 [.int .i64 ycl, .int .i64 yop, .int .i64 yin, .int .i64 yer, .int .i64 yfc, .int .i64 yfo, .int .i64 ysz] rfl rfl (fun _ => ⟨_, rfl, cells_of (HF.get 0 rfl)⟩) (ll_one (⟨ycl, yop, yin, yer, yfc, yfo, ysz⟩ : La)) ?_ ?_ ?_; ((try simp only [List.length_append, List.length_cons, List.length_nil, maxLen]); omega); ((try simp only [List.length_append, List.length_cons, List.length_nil]); omega); (clear HF; intro v7 w HF K hK; replace HF := ol_snoc (l := acc) (x := (⟨ycl, yop, yin, yer, yfc, yfo, ysz⟩ : La)) (HF.sel 4 [0, 2, 3]); go_simp)))
              go_roundw
              case rel => exact ⟨k + 1, acc ++ [(⟨ycl, yop, yin, yer, yfc, yfo, ysz⟩ : La)], false, _, by omega, rfl, rfl, rfl, Lib.hid (noted_step Hx.out HI.out (by simp [show ¬ cl ≤ ycl by omega, hne])), (by (try simp only [List.length_append, List.length_cons, List.length_nil]); first | omega | (intros; omega)), (by (try simp only [List.length_append, List.length_cons, List.length_nil]); first | omega | (intros; first | omega | contradiction)), HF⟩
              case measure => simp [intOf]; omega
    · have g1 : ¬ (k : Int) < l.length := by omega
      have Hd := Lib.hid (show l.drop k = [] from List.drop_of_length_le (by omega))
      cases d with
      | true =>
        go_wp2_with fail
        go_ret
        have hi := HI.out
        rw [Hd.out] at hi
        simp [notedG] at hi
        rw [← hi]
        exact ⟨_, rfl, (show At W ([_] ++ [Arg W]) _ from HF.sel 3 [0, 2]).lift H0.out⟩
      | false =>
        have ha3 := ha2 rfl
        go_wp2_with (first | ((with_reducible refine k_load (T := 53) ?_); refine st_row rfl _ _ rfl _ rfl a53 7 s53 HF 1 rfl rfl ?_; (intro K hK; go_simp)) | ((with_reducible refine k_lit ?_); refine st_lit1 rfl _ _ rfl #[.int .i64 cl, .int .i64 op, .int .i64 ins, .int .i64 er, .int .i64 fc, .int .i64 fo, .int .i64 sz] rfl 53 Try.underlying23 7 s53 _ z53 rfl rfl (by decide) (by decide) HF ?_; (clear HF; intro gl w HF K hK; go_simp)) | ((with_reducible refine k_builtin ?_); refine st_append rfl _ _ _ rfl 53 Try.underlying23 7 s53 56 bytes53 _ z53 rfl _ (acc).length (lC (acc)) rfl (HF.sel 2 [1, 0]) (some ⟨gl, 0, none⟩) 1 1 [.int .i64 cl, .int .i64 op, .int .i64 ins, .int .i64 er, .int .i64 fc, .int .i64 fo, .int .i64 sz] rfl rfl (fun _ => ⟨_, rfl, cells_of (HF.get 0 rfl)⟩) (ll_one (⟨cl, op, ins, er, fc, fo, sz⟩ : La)) ?_ ?_ ?_; ((try simp only [List.length_append, List.length_cons, List.length_nil, maxLen]); omega); ((try simp only [List.length_append, List.length_cons, List.length_nil]); omega); (clear HF; intro v6 w HF K hK; replace HF := ol_snoc (l := acc) (x := (⟨cl, op, ins, er, fc, fo, sz⟩ : La)) (HF.sel 4 [0, 2, 3]); go_simp)))
        go_ret
        have hi := HI.out
        rw [Hd.out] at hi
        simp [notedG] at hi
        rw [← hi]
        exact ⟨_, rfl, (show At W ([_] ++ [Arg W]) _ from HF.sel 3 [0, 2]).lift H0.out⟩
end
end Bk
end Go.Proofs.Ytcofcikdknmggaa
