/-
  One command, as the document says.
-/
import Derived.Test.YtcofcikdknmggaaBkPure2
import Derived.Test.YtcofcikdknmggaaBkCmd
namespace Go.Proofs.Ytcofcikdknmggaa
open Go.Hp Go.RowKit
set_option linter.unusedVariables false
set_option linter.unusedSimpArgs false
set_option maxRecDepth 100000
set_option maxHeartbeats 4000000
namespace Bk

theorem seatS_len (l : List La) (x : La) : (seatS l x).length ≤ l.length + 1 := by
  unfold seatS
  split
  · rw [List.length_set]; omega
  · rw [insAt_len (seI_le l x.cl)]; exact Nat.le_refl _
theorem namesS_len (l : List En) (s : ByteArray) : (namesS l s).length ≤ l.length := by
  unfold namesS
  have h1 := (List.takeWhile_sublist (hpE s) (l := l.drop (plI l s))).length_le
  rw [List.length_drop] at h1
  omega
theorem ApplyS_len (b : Bu) (c : Cm) (room : Int) : (ApplyS b c room).2.es.length ≤ b.es.length + 1 ∧ (ApplyS b c room).2.ls.length ≤ b.ls.length + 1 ∧ (ApplyS b c room).1.2.l.length ≤ b.es.length := by
  have h1 := changeS_len b.es c room
  have h2 := namesS_len b.es ⟨#[]⟩
  have h3 := seatS_len b.ls (lastS c (b.u + 1) (changeS b.es c room).1.1 (changeS b.es c room).1.2)
  unfold ApplyS applyS
  (repeat' split) <;> simp [an0] at * <;> omega

section
variable {w0 w : World} {L : List HProp}
theorem re_form2 {W : World} {v : Value} {es : List En} (H : At w0 (RE W v es :: L) w) : ∃ ad n cap, v = .slice ad n cap := by
  obtain ⟨ad, cap, hv, _⟩ := re_value H
  exact ⟨ad, _, cap, hv⟩
theorem rl_form2 {W : World} {v : Value} {es : List La} (H : At w0 (RL W v es :: L) w) : ∃ ad n cap, v = .slice ad n cap := by
  obtain ⟨ad, cap, hv, _⟩ := rl_value H
  exact ⟨ad, _, cap, hv⟩

theorem row_one1 {w : World} {v : Value} {n : Nat} {xs : List Value} (h : RowAt w v n xs) : v.oneCell' = true := by
  obtain ⟨ad, cap, rfl, _⟩ := h
  rfl
theorem row_cells1 {w : World} {v : Value} {n : Nat} {xs : List Value} (h : RowAt w v n xs) : v.cells = #[v] := by
  obtain ⟨ad, cap, rfl, _⟩ := h
  rfl

def ApdPost (w0 : World) (L : List HProp) (e : Ending) (w' : World) : Prop := ∃ u ad n cap ad2 n2 cap2, e = .returned (.tuple #[.agg #[.int .i64 u, .slice ad n cap, .slice ad2 n2 cap2], .bool true]) ∧ At w0 L w'

theorem applied {ve vl : Value} {b : Bu} {c : Cm} {room : Int} (he : RecsAt w ve 4 (b.es.map En.cells)) (hl : RecsAt w vl 7 (b.ls.map La.cells)) (hu0 : -9223372036854775808 ≤ b.u) (be : (b.es.length + 1) * 40 ≤ 140737488355328) (bl : (b.ls.length + 1) * 56 ≤ 140737488355328) (H : At w0 L w) :
    Calls Try.prog 8 #[.agg #[.int .i64 b.u, ve, vl], .agg c.cells.toArray, .int .i64 room] w (ApdPost w0 L) := by
  obtain ⟨W, rfl⟩ : ∃ W : World, W = w := ⟨_, rfl⟩
  have HF := At.of W
  have H0 := Lib.hid H
  have hlen := ApplyS_len b c room
  have hR2 := Lib.hid (show ∀ (w2 : World) (M : List HProp) (j : Nat), M[j]? = some (Arg W) → At W (RE W ve b.es :: RL W vl b.ls :: M) w2 → Calls Try.prog 24 #[.agg #[.int .i64 b.u, ve, vl], .agg c.cells.toArray, .int .i64 room] w2 (RrPost W W M (rApplyS b c room)) from fun w2 M j hM HM => by
    cases hc : wrongS c with
    | true => exact rApply_no (r := 105) (by unfold rApplyS; rw [if_pos hc]) (.inl ⟨hc, rfl⟩) HM
    | false =>
      by_cases hu : 1048576 ≤ b.u
      · exact rApply_no (r := 4) (by unfold rApplyS; rw [if_neg (by rw [hc]; decide), if_pos hu]) (.inr ⟨hc, hu, rfl⟩) HM
      · exact rApply_do hM hc (by omega) hu0 be bl HM)
  have hA := Lib.hid (fun (w2 : World) (M : List HProp) (v1 v2 : Value) (h1 : RecsAt w2 v1 4 (b.es.map En.cells)) (h2 : RecsAt w2 v2 7 (b.ls.map La.cells)) (HM : At W M w2) => Apply (room := room) (b := b) (c := c) h1 h2 hu0 be bl HM)
  have heq := Lib.hid (fun h => apply_eq (b := b) (c := c) (room := room) h)
  obtain ⟨R, hR⟩ : ∃ R, ApplyS b c room = R := ⟨_, rfl⟩
  obtain ⟨Q, hQ⟩ : ∃ Q, rApplyS b c room = Q := ⟨_, rfl⟩
  rw [hR] at hA heq hlen
  rw [hQ] at hR2 heq
  clear hR hQ
  obtain ⟨l1, l2, l3⟩ := hlen
  have be1 : b.es.length ≤ 140737488355328 := by omega
  have bl1 : b.ls.length ≤ 140737488355328 := by omega
  have R1 := Lib.hid (show R.2.es.length ≤ 140737488355328 by omega)
  have R2 := Lib.hid (show R.2.ls.length ≤ 140737488355328 by omega)
  have R3 := Lib.hid (show R.1.2.l.length ≤ 140737488355328 by omega)
  have be2 : b.es.length * 40 ≤ 140737488355328 := by omega
  have bl2 : b.ls.length * 56 ≤ 140737488355328 := by omega
  have ve1 := Lib.hid (row_one1 he.1)
  have vl1 := Lib.hid (row_one1 hl.1)
  have vec := row_cells1 he.1
  have vlc := row_cells1 hl.1
  have He := Lib.hid he
  have Hl := Lib.hid hl
  clear H he hl l1 l2 l3
  go_enter Try.func8, Try.ntmps8
  go_wp2_with (first | ((with_reducible refine k_box (T := 25) ?_); refine st_box rfl _ _ rfl _ rfl HF ?_; (clear HF; intro g3 w HF K hK; simp only [Value.cells, Act.eval, Value.cells, Array.getD_eq_getD_getElem?, List.getElem?_toArray, List.getElem?_cons_succ, List.getElem?_cons_zero, Option.getD_some] at HF; go_simp)) | ((with_reducible refine k_box (T := 29) ?_); refine st_box rfl _ _ rfl _ rfl HF ?_; (clear HF; intro g4 w HF K hK; simp only [Value.cells, Act.eval, Value.cells, Array.getD_eq_getD_getElem?, List.getElem?_toArray, List.getElem?_cons_succ, List.getElem?_cons_zero, Option.getD_some] at HF; go_simp)) | ((with_reducible refine k_alloc (T := 25) ?_); refine st_alloc rfl _ rfl _ z25 _ rfl HF ?_; (clear HF; intro g6 w HF K hK; simp only [Value.cells] at HF; go_simp)) | ((with_reducible refine k_load (T := 25) ?_); refine st_row rfl _ _ rfl _ rfl a25 3 s25 HF 2 rfl rfl ?_; (intro K hK; go_simp)) | ((with_reducible refine k_load (T := 25) ?_); refine st_loads rfl _ _ rfl _ _ rfl a25 3 s25 HF 2 rfl ?_ ?_; (simp); (intro K hK; go_simp)))
  replace HF : At W (Blk g6 (.cells #[.int .i64 0, .slice none 0 0, .slice none 0 0] 25 (0, 0)) :: Blk g4 (.cells c.cells.toArray 29 (0, 0)) :: Blk g3 (.cells #[.int .i64 b.u, ve, vl] 25 (0, 0)) :: Arg W :: []) _ := HF
  refine (Lend (He.out.ext (HF.ext 3 rfl)) (Hl.out.ext (HF.ext 3 rfl)) be bl HF).mono ?_
  rintro e w1 ⟨ge, gl, rfl, HX⟩
  clear HF
  have HF := HX
  clear HX
  go_wp2_with (first | ((with_reducible refine k_alloc (T := 25) ?_); refine st_alloc rfl _ rfl _ z25 _ rfl HF ?_; (clear HF; intro g8 w HF K hK; simp only [Value.cells] at HF; go_simp)) | ((with_reducible refine k_store (T := 25) ?_); refine st_put rfl _ _ _ rfl _ rfl _ rfl ?_ s25 HF 0 rfl rfl ?_; (simp [Value.oneCell']); (clear HF; intro w HF K hK; simp only [List.set_cons_zero, List.set_cons_succ, Act.eval, Value.cells, Array.getD_eq_getD_getElem?, List.getElem?_toArray, List.getElem?_cons_succ, List.getElem?_cons_zero, Option.getD_some] at HF; go_simp)) | ((with_reducible refine k_load (T := 25) ?_); (first | refine st_row rfl _ _ rfl _ rfl a25 3 s25 HF 0 rfl rfl ?_ | refine st_row rfl _ _ rfl _ rfl a25 3 s25 HF 4 rfl rfl ?_ | refine st_row rfl _ _ rfl _ rfl a25 3 s25 HF 5 rfl rfl ?_); (intro K hK; go_simp)) | ((with_reducible refine k_load (T := 25) ?_); (first | refine st_loads rfl _ _ rfl _ _ rfl a25 3 s25 HF 0 rfl ?_ ?_ | refine st_loads rfl _ _ rfl _ _ rfl a25 3 s25 HF 4 rfl ?_ ?_ | refine st_loads rfl _ _ rfl _ _ rfl a25 3 s25 HF 5 rfl ?_ ?_); (simp); (intro K hK; go_simp)) | ((with_reducible refine k_load (T := 29) ?_); (first | refine st_row rfl _ _ rfl _ rfl a29 9 s29 HF 0 rfl rfl ?_ | refine st_row rfl _ _ rfl _ rfl a29 9 s29 HF 4 rfl rfl ?_ | refine st_row rfl _ _ rfl _ rfl a29 9 s29 HF 5 rfl rfl ?_); (intro K hK; go_simp)) | ((with_reducible refine k_load (T := 29) ?_); (first | refine st_loads rfl _ _ rfl _ _ rfl a29 9 s29 HF 0 rfl ?_ ?_ | refine st_loads rfl _ _ rfl _ _ rfl a29 9 s29 HF 4 rfl ?_ ?_ | refine st_loads rfl _ _ rfl _ _ rfl a29 9 s29 HF 5 rfl ?_ ?_); (simp); (intro K hK; go_simp)))
  refine (hA.out _ _ _ _ (lent_e be2 (HF.pick 1 rfl)) (lent_l bl2 (HF.pick 2 rfl)) HF).mono ?_
  rintro e w2 ⟨v1, v2, v3, rfl, HX⟩
  clear HF hA
  have HF := HX
  clear HX
  obtain ⟨ad1, n1, cap1, rfl⟩ := own_form HF
  obtain ⟨ad2, n2, cap2, rfl⟩ := own_form (HF.pick 1 rfl)
  obtain ⟨ad3, n3, cap3, rfl⟩ := own_form (HF.pick 2 rfl)
  simp only [anV]
  go_wp2_with (first | ((with_reducible refine k_alloc (T := 25) ?_); refine st_alloc rfl _ rfl _ z25 _ rfl HF ?_; (clear HF; intro g9 w HF K hK; simp only [Value.cells] at HF; go_simp)) | ((with_reducible refine k_alloc (T := 41) ?_); refine st_alloc rfl _ rfl _ z41 _ rfl HF ?_; (clear HF; intro g10 w HF K hK; simp only [Value.cells] at HF; go_simp)) | ((with_reducible refine k_store (T := 41) ?_); refine st_put rfl _ _ _ rfl _ rfl _ rfl ?_ s41 HF 0 rfl rfl ?_; (simp [Value.oneCell']); (clear HF; intro w HF K hK; simp only [List.set_cons_zero, List.set_cons_succ, Act.eval, Value.cells, Array.getD_eq_getD_getElem?, List.getElem?_toArray, List.getElem?_cons_succ, List.getElem?_cons_zero, Option.getD_some] at HF; go_simp)) | ((with_reducible refine k_store (T := 25) ?_); refine st_put rfl _ _ _ rfl _ rfl _ rfl ?_ s25 HF 1 rfl rfl ?_; (simp [Value.oneCell']); (clear HF; intro w HF K hK; simp only [List.set_cons_zero, List.set_cons_succ, Act.eval, Value.cells, Array.getD_eq_getD_getElem?, List.getElem?_toArray, List.getElem?_cons_succ, List.getElem?_cons_zero, Option.getD_some] at HF; go_simp)) | ((with_reducible refine k_load (T := 25) ?_); (first | refine st_row rfl _ _ rfl _ rfl a25 3 s25 HF 5 rfl rfl ?_ | refine st_row rfl _ _ rfl _ rfl a25 3 s25 HF 10 rfl rfl ?_); (intro K hK; go_simp)) | ((with_reducible refine k_load (T := 25) ?_); (first | refine st_loads rfl _ _ rfl _ _ rfl a25 3 s25 HF 5 rfl ?_ ?_ | refine st_loads rfl _ _ rfl _ _ rfl a25 3 s25 HF 10 rfl ?_ ?_); (simp); (intro K hK; go_simp)))
  replace HF : At W (Blk g10 (.cells #[.int .i64 R.1.2.err, .string R.1.2.e.nm, .int .i64 R.1.2.e.fc, .int .i64 R.1.2.e.fo, .int .i64 R.1.2.e.sz, .slice ad3 n3 cap3] 41 (0, 0)) :: Blk g9 (.cells #[.int .i64 R.2.u, .slice ad1 n1 cap1, .slice ad2 n2 cap2] 25 (0, 0)) :: OE (.slice ad1 n1 cap1) R.2.es :: OL (.slice ad2 n2 cap2) R.2.ls :: OE (.slice ad3 n3 cap3) R.1.2.l :: Blk g8 (.cells #[.int .i64 b.u, .slice (some ⟨ge, 0, none⟩) b.es.length (b.es.length + 1), .slice (some ⟨gl, 0, none⟩) b.ls.length (b.ls.length + 1)] 25 (0, 0)) :: Blk ge (.cells (eC b.es ++ mkE).toArray 39 (0, 0)) :: Blk gl (.cells (lC b.ls ++ mkL).toArray 53 (0, 0)) ::
    Blk g6 (.cells #[.int .i64 0, .slice none 0 0, .slice none 0 0] 25 (0, 0)) :: Blk g4 (.cells c.cells.toArray 29 (0, 0)) :: Blk g3 (.cells #[.int .i64 b.u, ve, vl] 25 (0, 0)) :: Arg W :: []) _ := HF
  refine (Back (i := 9) (W := W) (b := b) (L := [_, _, _, _, _, _, _, _, _, _]) rfl He.out Hl.out be bl (HF.sel 12 [6, 7, 0, 1, 2, 3, 4, 5, 8, 9, 10, 11])).mono ?_
  rintro e w4 ⟨rfl, HX⟩
  clear HF
  have HF := HX
  clear HX
  replace HF : At W (Blk g10 (.cells #[.int .i64 R.1.2.err, .string R.1.2.e.nm, .int .i64 R.1.2.e.fc, .int .i64 R.1.2.e.fo, .int .i64 R.1.2.e.sz, .slice ad3 n3 cap3] 41 (0, 0)) :: Blk g9 (.cells #[.int .i64 R.2.u, .slice ad1 n1 cap1, .slice ad2 n2 cap2] 25 (0, 0)) :: OE (.slice ad1 n1 cap1) R.2.es :: OL (.slice ad2 n2 cap2) R.2.ls :: OE (.slice ad3 n3 cap3) R.1.2.l :: Blk g8 (.cells #[.int .i64 b.u, .slice (some ⟨ge, 0, none⟩) b.es.length (b.es.length + 1), .slice (some ⟨gl, 0, none⟩) b.ls.length (b.ls.length + 1)] 25 (0, 0)) ::
    Blk g6 (.cells #[.int .i64 0, .slice none 0 0, .slice none 0 0] 25 (0, 0)) :: Blk g4 (.cells c.cells.toArray 29 (0, 0)) :: Blk g3 (.cells #[.int .i64 b.u, ve, vl] 25 (0, 0)) :: Arg W :: []) w4 := HF
  go_wp2_with (first | ((with_reducible refine k_load (T := 25) ?_); (first | refine st_row rfl _ _ rfl _ rfl a25 3 s25 HF 7 rfl rfl ?_ | refine st_row rfl _ _ rfl _ rfl a25 3 s25 HF 8 rfl rfl ?_); (intro K hK; go_simp)) | ((with_reducible refine k_load (T := 25) ?_); (first | refine st_loads rfl _ _ rfl _ _ rfl a25 3 s25 HF 7 rfl ?_ ?_ | refine st_loads rfl _ _ rfl _ _ rfl a25 3 s25 HF 8 rfl ?_ ?_); (simp); (intro K hK; go_simp)) | ((with_reducible refine k_load (T := 29) ?_); (first | refine st_row rfl _ _ rfl _ rfl a29 9 s29 HF 7 rfl rfl ?_ | refine st_row rfl _ _ rfl _ rfl a29 9 s29 HF 8 rfl rfl ?_); (intro K hK; go_simp)) | ((with_reducible refine k_load (T := 29) ?_); (first | refine st_loads rfl _ _ rfl _ _ rfl a29 9 s29 HF 7 rfl ?_ ?_ | refine st_loads rfl _ _ rfl _ _ rfl a29 9 s29 HF 8 rfl ?_ ?_); (simp); (intro K hK; go_simp)))
  refine (hR2.out _ _ 9 rfl (re_arg He.out (rl_arg Hl.out HF))).mono ?_
  rintro e w5 ⟨v1, v2, v3, rfl, HX⟩
  clear HF hR2
  have HF := HX
  clear HX
  obtain ⟨ad4, n4, cap4, rfl⟩ := re_form2 HF
  obtain ⟨ad5, n5, cap5, rfl⟩ := rl_form2 (HF.pick 1 rfl)
  obtain ⟨ad6, n6, cap6, rfl⟩ := own_form (HF.pick 2 rfl)
  simp only [anV]
  go_wp2_with (first | ((with_reducible refine k_alloc (T := 25) ?_); refine st_alloc rfl _ rfl _ z25 _ rfl HF ?_; (clear HF; intro g12 w HF K hK; simp only [Value.cells] at HF; go_simp)) | ((with_reducible refine k_alloc (T := 41) ?_); refine st_alloc rfl _ rfl _ z41 _ rfl HF ?_; (clear HF; intro g13 w HF K hK; simp only [Value.cells] at HF; go_simp)) | ((with_reducible refine k_store (T := 41) ?_); refine st_put rfl _ _ _ rfl _ rfl _ rfl ?_ s41 HF 0 rfl rfl ?_; (simp [Value.oneCell']); (clear HF; intro w HF K hK; simp only [List.set_cons_zero, List.set_cons_succ, Act.eval, Value.cells, Array.getD_eq_getD_getElem?, List.getElem?_toArray, List.getElem?_cons_succ, List.getElem?_cons_zero, Option.getD_some] at HF; go_simp)) | ((with_reducible refine k_store (T := 25) ?_); refine st_put rfl _ _ _ rfl _ rfl _ rfl ?_ s25 HF 1 rfl rfl ?_; (simp [Value.oneCell']); (clear HF; intro w HF K hK; simp only [List.set_cons_zero, List.set_cons_succ, Act.eval, Value.cells, Array.getD_eq_getD_getElem?, List.getElem?_toArray, List.getElem?_cons_succ, List.getElem?_cons_zero, Option.getD_some] at HF; go_simp)) | ((with_reducible refine k_load (T := 29) ?_); refine st_row rfl _ _ rfl _ rfl a29 9 s29 HF 12 rfl rfl ?_; (intro K hK; go_simp)) | ((with_reducible refine k_load (T := 29) ?_); refine st_loads rfl _ _ rfl _ _ rfl a29 9 s29 HF 12 rfl ?_ ?_; (simp); (intro K hK; go_simp)))
  replace HF : At W (Blk g13 (.cells #[.int .i64 Q.1.2.err, .string Q.1.2.e.nm, .int .i64 Q.1.2.e.fc, .int .i64 Q.1.2.e.fo, .int .i64 Q.1.2.e.sz, .slice ad6 n6 cap6] 41 (0, 0)) :: Blk g12 (.cells #[.int .i64 Q.2.u, .slice ad4 n4 cap4, .slice ad5 n5 cap5] 25 (0, 0)) :: RE W (.slice ad4 n4 cap4) Q.2.es :: RL W (.slice ad5 n5 cap5) Q.2.ls :: OE (.slice ad6 n6 cap6) Q.1.2.l :: Blk g10 (.cells #[.int .i64 R.1.2.err, .string R.1.2.e.nm, .int .i64 R.1.2.e.fc, .int .i64 R.1.2.e.fo, .int .i64 R.1.2.e.sz, .slice ad3 n3 cap3] 41 (0, 0)) :: Blk g9 (.cells #[.int .i64 R.2.u, .slice ad1 n1 cap1, .slice ad2 n2 cap2] 25 (0, 0)) :: OE (.slice ad1 n1 cap1) R.2.es :: OL (.slice ad2 n2 cap2) R.2.ls :: OE (.slice ad3 n3 cap3) R.1.2.l :: Blk g8 (.cells #[.int .i64 b.u, .slice (some ⟨ge, 0, none⟩) b.es.length (b.es.length + 1), .slice (some ⟨gl, 0, none⟩) b.ls.length (b.ls.length + 1)] 25 (0, 0)) :: Blk g6 (.cells #[.int .i64 0, .slice none 0 0, .slice none 0 0] 25 (0, 0)) :: Blk g4 (.cells c.cells.toArray 29 (0, 0)) :: Blk g3 (.cells #[.int .i64 b.u, ve, vl] 25 (0, 0)) :: Arg W :: []) _ := HF
  refine (wrong HF c).mono ?_
  rintro e w6 ⟨rfl, HX⟩
  clear HF
  have HF := HX
  clear HX
  cases hwr : wrongS c with
  | true =>
    have hQR := heq.out (.inl hwr)
    clear heq hwr
    subst hQR
    go_wp2_with fail
    apply wp_region_eff [14] (fun i => (#[[], [], [], [], [], [], [], [], [], [], [], [], [], [], [], []] : Array (List Nat)).getD i []) (fun val i => ((_ :: _ :: _ :: _ :: .bool true :: _ :: _ :: .bool true :: _ :: .bool true :: _ :: _ :: .bool true :: _ :: val 14 :: _ :: []) : List Value).toArray.getD i undef) (fun E val => At W (Blk g13 (.cells #[.int .i64 Q.1.2.err, .string Q.1.2.e.nm, .int .i64 Q.1.2.e.fc, .int .i64 Q.1.2.e.fo, .int .i64 Q.1.2.e.sz, .slice ad6 n6 cap6] 41 (0, 0)) :: Blk g12 (.cells #[.int .i64 Q.2.u, .slice ad4 n4 cap4, .slice ad5 n5 cap5] 25 (0, 0)) :: RE W (.slice ad4 n4 cap4) Q.2.es :: RL W (.slice ad5 n5 cap5) Q.2.ls :: OE (.slice ad6 n6 cap6) Q.1.2.l :: Blk g10 (.cells #[.int .i64 Q.1.2.err, .string Q.1.2.e.nm, .int .i64 Q.1.2.e.fc, .int .i64 Q.1.2.e.fo, .int .i64 Q.1.2.e.sz, .slice ad3 n3 cap3] 41 (0, 0)) :: Blk g9 (.cells #[.int .i64 Q.2.u, .slice ad1 n1 cap1, .slice ad2 n2 cap2] 25 (0, 0)) :: OE (.slice ad1 n1 cap1) Q.2.es :: OL (.slice ad2 n2 cap2) Q.2.ls :: OE (.slice ad3 n3 cap3) Q.1.2.l :: Blk g8 (.cells #[.int .i64 b.u, .slice (some ⟨ge, 0, none⟩) b.es.length (b.es.length + 1), .slice (some ⟨gl, 0, none⟩) b.ls.length (b.ls.length + 1)] 25 (0, 0)) :: Blk g6 (.cells (if E 14 = true then #[.int .i64 Q.2.u, .slice ad1 n1 cap1, .slice ad2 n2 cap2] else #[.int .i64 0, .slice none 0 0, .slice none 0 0]) 25 (0, 0)) :: Blk g4 (.cells c.cells.toArray 29 (0, 0)) :: Blk g3 (.cells #[.int .i64 b.u, ve, vl] 25 (0, 0)) :: Arg W :: [])) (by kernel_rfl) (by kernel_rfl) (by kernel_rfl) (by kernel_rfl) (HF)
    case step =>
      iterate 14 (refine ⟨eff_pl rfl (fun _ => by rfl) fun E val hn T ds w K H hk ho hK => ?_, ?_⟩; rotate_left)
      refine ⟨eff_mk rfl (fun _ => by rfl) fun E val hE0 hcl hn T ds w K H hk ho hK => ?_, ?_⟩; rotate_left
      refine ⟨eff_pl rfl (fun _ => by rfl) fun E val hn T ds w K H hk ho hK => ?_, ?_⟩; rotate_left
      exact trivial
      · have o9 := ho 9 (by kernel_rfl); clear ho; simp [know, dstAt, Region.binds] at hk o9
        first | (refine op_rowT (T := 25) rfl o9 a25 s25 H 6 rfl rfl ?_; exact hK _ H) | (refine op_rowT (T := 25) rfl o9 a25 s25 H 1 rfl rfl ?_; exact hK _ H)
      · have o11 := ho 11 (by kernel_rfl); clear ho; simp [know, dstAt, Region.binds] at hk o11; go_simp; exact hK _ H
      · have o14 := ho 14 (by kernel_rfl); clear ho; simp [know, dstAt, Region.binds] at hk o14; go_simp; exact hK _ H
      · clear ho; simp [know, dstAt, Region.binds] at hk; go_simp; exact hK _ H
      · clear ho; simp [know, dstAt, Region.binds] at hk; go_simp; exact hK _ H
      · have o9 := ho 9 (by kernel_rfl); clear ho; simp [know, dstAt, Region.binds] at hk o9
        first | (refine op_rowT (T := 25) rfl o9 a25 s25 H 6 rfl rfl ?_; exact hK _ H) | (refine op_rowT (T := 25) rfl o9 a25 s25 H 1 rfl rfl ?_; exact hK _ H)
      · have o12 := ho 12 (by kernel_rfl); clear ho; simp [know, dstAt, Region.binds] at hk o12
        first | (refine op_rowT (T := 25) rfl o12 a25 s25 H 6 rfl rfl ?_; exact hK _ H) | (refine op_rowT (T := 25) rfl o12 a25 s25 H 1 rfl rfl ?_; exact hK _ H)
      · clear ho; simp [know, dstAt, Region.binds] at hk
        (go_simp; refine (sameBu (b := Q.2) (oe_recs (H.pick 7 rfl)) (ol_recs (H.pick 8 rfl)) (re_recs (i := 13) rfl (H.pick 2 rfl)) (rl_recs (i := 13) rfl (H.pick 3 rfl)) R1.out R2.out H).mono ?_; rintro e w' ⟨rfl, H⟩; exact hK _ H)
      · clear ho; simp [know, dstAt, Region.binds] at hk; go_simp; exact hK _ H
      · clear ho; simp [know, dstAt, Region.binds] at hk; go_simp; exact hK _ H
      · have o10 := ho 10 (by kernel_rfl); clear ho; simp [know, dstAt, Region.binds] at hk o10
        first | (refine op_rowT (T := 41) rfl o10 a41 s41 H 5 rfl rfl ?_; exact hK _ H) | (refine op_rowT (T := 41) rfl o10 a41 s41 H 0 rfl rfl ?_; exact hK _ H)
      · have o13 := ho 13 (by kernel_rfl); clear ho; simp [know, dstAt, Region.binds] at hk o13
        first | (refine op_rowT (T := 41) rfl o13 a41 s41 H 5 rfl rfl ?_; exact hK _ H) | (refine op_rowT (T := 41) rfl o13 a41 s41 H 0 rfl rfl ?_; exact hK _ H)
      · clear ho; simp [know, dstAt, Region.binds] at hk
        (go_simp; refine (sameA (a := Q.1.2) (oe_recs (H.pick 9 rfl)) (oe_recs (H.pick 4 rfl)) R3.out H).mono ?_; rintro e w' ⟨rfl, H⟩; exact hK _ H)
      · clear ho; simp [know, dstAt, Region.binds] at hk; go_simp; exact hK _ H
      · have o6 := ho 6 (by kernel_rfl); clear ho; simp [know, dstAt, Region.binds] at hk o6
        (simp only [hE0, Bool.false_eq_true, if_false] at H); refine op_putT rfl o6 hk.1 ?_ s25 H 11 rfl rfl rfl ?_; (simp [Value.oneCell']); (intro w' H; refine hK _ _ ?_; have t14 : updE E 14 14 = true := rfl; simp only [t14, if_true]; exact H)
      · clear ho; simp [know, dstAt, Region.binds] at hk; go_simp; exact hK _ H
    case ins =>
      iterate 14 (refine ⟨ins_pl rfl (fun _ _ _ => rfl), ?_⟩)
      refine ⟨ins_mk rfl (fun _ => rfl), ?_⟩
      refine ⟨ins_pl rfl (fun _ _ _ => rfl), ?_⟩
      exact trivial
    case jns =>
      iterate 14 (refine ⟨j_pl (fun _ _ _ => rfl), ?_⟩)
      refine ⟨j_mk rfl, ?_⟩
      refine ⟨j_pl (fun _ _ _ => rfl), ?_⟩
      exact trivial
    case fin =>
      intro E val w9 hE H
      have e14 := hE 14 (by decide)
      simp only [e14, if_true] at H
      clear hE e14 HF
      simp [putAll, Act.put]
      go_wp2_with fail
      refine bodyPost_ret (results_cell_tmp rfl rfl a25 s25 (H.get 11 rfl) rfl) rfl ?_
      exact ⟨_, _, _, _, _, _, _, rfl, (H.sel 15 [14]).lift0 H0.out⟩
  | false =>
    by_cases hum : 1048576 ≤ b.u
    · have hQR := heq.out (.inr (.inl hum))
      clear heq
      subst hQR
      go_wp2_with ((with_reducible refine k_load ?_); refine st_load rfl _ _ rfl _ _ rfl ?_ HF 13 rfl rfl ?_; (kernel_rfl); (intro K hK; go_simp))
      apply wp_region_eff [14] (fun i => (#[[], [], [], [], [], [], [], [], [], [], [], [], [], [], [], []] : Array (List Nat)).getD i []) (fun val i => ((_ :: _ :: _ :: _ :: .bool true :: _ :: _ :: .bool true :: _ :: .bool true :: _ :: _ :: .bool true :: _ :: val 14 :: _ :: []) : List Value).toArray.getD i undef) (fun E val => At W (Blk g13 (.cells #[.int .i64 Q.1.2.err, .string Q.1.2.e.nm, .int .i64 Q.1.2.e.fc, .int .i64 Q.1.2.e.fo, .int .i64 Q.1.2.e.sz, .slice ad6 n6 cap6] 41 (0, 0)) :: Blk g12 (.cells #[.int .i64 Q.2.u, .slice ad4 n4 cap4, .slice ad5 n5 cap5] 25 (0, 0)) :: RE W (.slice ad4 n4 cap4) Q.2.es :: RL W (.slice ad5 n5 cap5) Q.2.ls :: OE (.slice ad6 n6 cap6) Q.1.2.l :: Blk g10 (.cells #[.int .i64 Q.1.2.err, .string Q.1.2.e.nm, .int .i64 Q.1.2.e.fc, .int .i64 Q.1.2.e.fo, .int .i64 Q.1.2.e.sz, .slice ad3 n3 cap3] 41 (0, 0)) :: Blk g9 (.cells #[.int .i64 Q.2.u, .slice ad1 n1 cap1, .slice ad2 n2 cap2] 25 (0, 0)) :: OE (.slice ad1 n1 cap1) Q.2.es :: OL (.slice ad2 n2 cap2) Q.2.ls :: OE (.slice ad3 n3 cap3) Q.1.2.l :: Blk g8 (.cells #[.int .i64 b.u, .slice (some ⟨ge, 0, none⟩) b.es.length (b.es.length + 1), .slice (some ⟨gl, 0, none⟩) b.ls.length (b.ls.length + 1)] 25 (0, 0)) :: Blk g6 (.cells (if E 14 = true then #[.int .i64 Q.2.u, .slice ad1 n1 cap1, .slice ad2 n2 cap2] else #[.int .i64 0, .slice none 0 0, .slice none 0 0]) 25 (0, 0)) :: Blk g4 (.cells c.cells.toArray 29 (0, 0)) :: Blk g3 (.cells #[.int .i64 b.u, ve, vl] 25 (0, 0)) :: Arg W :: [])) (by kernel_rfl) (by kernel_rfl) (by kernel_rfl) (by kernel_rfl) (HF)
      case step =>
        iterate 14 (refine ⟨eff_pl rfl (fun _ => by rfl) fun E val hn T ds w K H hk ho hK => ?_, ?_⟩; rotate_left)
        refine ⟨eff_mk rfl (fun _ => by rfl) fun E val hE0 hcl hn T ds w K H hk ho hK => ?_, ?_⟩; rotate_left
        refine ⟨eff_pl rfl (fun _ => by rfl) fun E val hn T ds w K H hk ho hK => ?_, ?_⟩; rotate_left
        exact trivial
        · have o9 := ho 9 (by kernel_rfl); clear ho; simp [know, dstAt, Region.binds] at hk o9
          first | (refine op_rowT (T := 25) rfl o9 a25 s25 H 6 rfl rfl ?_; exact hK _ H) | (refine op_rowT (T := 25) rfl o9 a25 s25 H 1 rfl rfl ?_; exact hK _ H)
        · have o11 := ho 11 (by kernel_rfl); clear ho; simp [know, dstAt, Region.binds] at hk o11; go_simp; exact hK _ H
        · have o14 := ho 14 (by kernel_rfl); clear ho; simp [know, dstAt, Region.binds] at hk o14; go_simp; exact hK _ H
        · clear ho; simp [know, dstAt, Region.binds] at hk; go_simp; exact hK _ H
        · clear ho; simp [know, dstAt, Region.binds] at hk; go_simp; exact hK _ H
        · have o9 := ho 9 (by kernel_rfl); clear ho; simp [know, dstAt, Region.binds] at hk o9
          first | (refine op_rowT (T := 25) rfl o9 a25 s25 H 6 rfl rfl ?_; exact hK _ H) | (refine op_rowT (T := 25) rfl o9 a25 s25 H 1 rfl rfl ?_; exact hK _ H)
        · have o12 := ho 12 (by kernel_rfl); clear ho; simp [know, dstAt, Region.binds] at hk o12
          first | (refine op_rowT (T := 25) rfl o12 a25 s25 H 6 rfl rfl ?_; exact hK _ H) | (refine op_rowT (T := 25) rfl o12 a25 s25 H 1 rfl rfl ?_; exact hK _ H)
        · clear ho; simp [know, dstAt, Region.binds] at hk
          (go_simp; refine (sameBu (b := Q.2) (oe_recs (H.pick 7 rfl)) (ol_recs (H.pick 8 rfl)) (re_recs (i := 13) rfl (H.pick 2 rfl)) (rl_recs (i := 13) rfl (H.pick 3 rfl)) R1.out R2.out H).mono ?_; rintro e w' ⟨rfl, H⟩; exact hK _ H)
        · clear ho; simp [know, dstAt, Region.binds] at hk; go_simp; exact hK _ H
        · clear ho; simp [know, dstAt, Region.binds] at hk; go_simp; exact hK _ H
        · have o10 := ho 10 (by kernel_rfl); clear ho; simp [know, dstAt, Region.binds] at hk o10
          first | (refine op_rowT (T := 41) rfl o10 a41 s41 H 5 rfl rfl ?_; exact hK _ H) | (refine op_rowT (T := 41) rfl o10 a41 s41 H 0 rfl rfl ?_; exact hK _ H)
        · have o13 := ho 13 (by kernel_rfl); clear ho; simp [know, dstAt, Region.binds] at hk o13
          first | (refine op_rowT (T := 41) rfl o13 a41 s41 H 5 rfl rfl ?_; exact hK _ H) | (refine op_rowT (T := 41) rfl o13 a41 s41 H 0 rfl rfl ?_; exact hK _ H)
        · clear ho; simp [know, dstAt, Region.binds] at hk
          (go_simp; refine (sameA (a := Q.1.2) (oe_recs (H.pick 9 rfl)) (oe_recs (H.pick 4 rfl)) R3.out H).mono ?_; rintro e w' ⟨rfl, H⟩; exact hK _ H)
        · clear ho; simp [know, dstAt, Region.binds] at hk; go_simp; exact hK _ H
        · have o6 := ho 6 (by kernel_rfl); clear ho; simp [know, dstAt, Region.binds] at hk o6
          (simp only [hE0, Bool.false_eq_true, if_false] at H); refine op_putT rfl o6 hk.1 ?_ s25 H 11 rfl rfl rfl ?_; (simp [Value.oneCell']); (intro w' H; refine hK _ _ ?_; have t14 : updE E 14 14 = true := rfl; simp only [t14, if_true]; exact H)
        · clear ho; simp [know, dstAt, Region.binds] at hk; go_simp; exact hK _ H
      case ins =>
        iterate 14 (refine ⟨ins_pl rfl (fun _ _ _ => rfl), ?_⟩)
        refine ⟨ins_mk rfl (fun _ => rfl), ?_⟩
        refine ⟨ins_pl rfl (fun _ _ _ => rfl), ?_⟩
        exact trivial
      case jns =>
        iterate 14 (refine ⟨j_pl (fun _ _ _ => rfl), ?_⟩)
        refine ⟨j_mk rfl, ?_⟩
        refine ⟨j_pl (fun _ _ _ => rfl), ?_⟩
        exact trivial
      case fin =>
        intro E val w9 hE H
        have e14 := hE 14 (by decide)
        simp only [e14, if_true] at H
        clear hE e14 HF
        simp [putAll, Act.put]
        go_wp2_with fail
        refine bodyPost_ret (results_cell_tmp rfl rfl a25 s25 (H.get 11 rfl) rfl) rfl ?_
        exact ⟨_, _, _, _, _, _, _, rfl, (H.sel 15 [14]).lift0 H0.out⟩
    · go_wp2_with (first | ((with_reducible refine k_load (T := 25) ?_); refine st_row rfl _ _ rfl _ rfl a25 3 s25 HF 13 rfl rfl ?_; (intro K hK; go_simp)) | ((with_reducible refine k_load (T := 25) ?_); refine st_loads rfl _ _ rfl _ _ rfl a25 3 s25 HF 13 rfl ?_ ?_; (simp); (intro K hK; go_simp)) | ((with_reducible refine k_load ?_); refine st_load rfl _ _ rfl _ _ rfl ?_ HF 13 rfl rfl ?_; (kernel_rfl); (intro K hK; go_simp)))
      refine (bucket (He.out.ext (HF.ext 14 rfl)) (Hl.out.ext (HF.ext 14 rfl)) be1 bl1 HF).mono ?_
      rintro e w7 ⟨r1, rfl, hr1, HX⟩
      clear HF
      have HF := HX
      clear HX
      have Hr1 := Lib.hid hr1
      clear hr1
      cases r1 with
      | false =>
        clear heq
        go_wp2_with (first | ((with_reducible refine k_load (T := 25) ?_); refine st_row rfl _ _ rfl _ rfl a25 3 s25 HF 1 rfl rfl ?_; (intro K hK; go_simp)) | ((with_reducible refine k_load (T := 25) ?_); refine st_loads rfl _ _ rfl _ _ rfl a25 3 s25 HF 1 rfl ?_ ?_; (simp); (intro K hK; go_simp)) | ((with_reducible refine k_store (T := 25) ?_); refine st_put rfl _ _ _ rfl _ rfl _ rfl ?_ s25 HF 11 rfl rfl ?_; (simp [Value.oneCell']); (clear HF; intro w HF K hK; simp only [List.set_cons_zero, List.set_cons_succ, Act.eval, Value.cells, Array.getD_eq_getD_getElem?, List.getElem?_toArray, List.getElem?_cons_succ, List.getElem?_cons_zero, Option.getD_some] at HF; go_simp)))
        refine bodyPost_ret (results_cell_tmp rfl rfl a25 s25 (HF.get 11 rfl) rfl) rfl ?_
        exact ⟨_, _, _, _, _, _, _, rfl, (HF.sel 15 [14]).lift0 H0.out⟩
      | true =>
        have hQR := heq.out (.inr (.inr (Hr1.out.1 rfl)))
        clear heq Hr1
        go_wp2_with (first | ((with_reducible refine k_load (T := 29) ?_); refine st_row rfl _ _ rfl _ rfl a29 9 s29 HF 12 rfl rfl ?_; (intro K hK; go_simp)) | ((with_reducible refine k_load (T := 29) ?_); refine st_loads rfl _ _ rfl _ _ rfl a29 9 s29 HF 12 rfl ?_ ?_; (simp); (intro K hK; go_simp)))
        refine (command HF c).mono ?_
        rintro e w8 ⟨r2, rfl, _, HX⟩
        clear HF
        have HF := HX
        clear HX
        cases r2 with
        | false =>
          clear hQR
          go_wp2_with (first | ((with_reducible refine k_load (T := 25) ?_); refine st_row rfl _ _ rfl _ rfl a25 3 s25 HF 1 rfl rfl ?_; (intro K hK; go_simp)) | ((with_reducible refine k_load (T := 25) ?_); refine st_loads rfl _ _ rfl _ _ rfl a25 3 s25 HF 1 rfl ?_ ?_; (simp); (intro K hK; go_simp)) | ((with_reducible refine k_store (T := 25) ?_); refine st_put rfl _ _ _ rfl _ rfl _ rfl ?_ s25 HF 11 rfl rfl ?_; (simp [Value.oneCell']); (clear HF; intro w HF K hK; simp only [List.set_cons_zero, List.set_cons_succ, Act.eval, Value.cells, Array.getD_eq_getD_getElem?, List.getElem?_toArray, List.getElem?_cons_succ, List.getElem?_cons_zero, Option.getD_some] at HF; go_simp)))
          refine bodyPost_ret (results_cell_tmp rfl rfl a25 s25 (HF.get 11 rfl) rfl) rfl ?_
          exact ⟨_, _, _, _, _, _, _, rfl, (HF.sel 15 [14]).lift0 H0.out⟩
        | true =>
          subst hQR
          go_wp2_with fail
          apply wp_region_eff [14] (fun i => (#[[], [], [], [], [], [], [], [], [], [], [], [], [], [], [], []] : Array (List Nat)).getD i []) (fun val i => ((_ :: _ :: _ :: _ :: .bool true :: _ :: _ :: .bool true :: _ :: .bool true :: _ :: _ :: .bool true :: _ :: val 14 :: _ :: []) : List Value).toArray.getD i undef) (fun E val => At W (Blk g13 (.cells #[.int .i64 Q.1.2.err, .string Q.1.2.e.nm, .int .i64 Q.1.2.e.fc, .int .i64 Q.1.2.e.fo, .int .i64 Q.1.2.e.sz, .slice ad6 n6 cap6] 41 (0, 0)) :: Blk g12 (.cells #[.int .i64 Q.2.u, .slice ad4 n4 cap4, .slice ad5 n5 cap5] 25 (0, 0)) :: RE W (.slice ad4 n4 cap4) Q.2.es :: RL W (.slice ad5 n5 cap5) Q.2.ls :: OE (.slice ad6 n6 cap6) Q.1.2.l :: Blk g10 (.cells #[.int .i64 Q.1.2.err, .string Q.1.2.e.nm, .int .i64 Q.1.2.e.fc, .int .i64 Q.1.2.e.fo, .int .i64 Q.1.2.e.sz, .slice ad3 n3 cap3] 41 (0, 0)) :: Blk g9 (.cells #[.int .i64 Q.2.u, .slice ad1 n1 cap1, .slice ad2 n2 cap2] 25 (0, 0)) :: OE (.slice ad1 n1 cap1) Q.2.es :: OL (.slice ad2 n2 cap2) Q.2.ls :: OE (.slice ad3 n3 cap3) Q.1.2.l :: Blk g8 (.cells #[.int .i64 b.u, .slice (some ⟨ge, 0, none⟩) b.es.length (b.es.length + 1), .slice (some ⟨gl, 0, none⟩) b.ls.length (b.ls.length + 1)] 25 (0, 0)) :: Blk g6 (.cells (if E 14 = true then #[.int .i64 Q.2.u, .slice ad1 n1 cap1, .slice ad2 n2 cap2] else #[.int .i64 0, .slice none 0 0, .slice none 0 0]) 25 (0, 0)) :: Blk g4 (.cells c.cells.toArray 29 (0, 0)) :: Blk g3 (.cells #[.int .i64 b.u, ve, vl] 25 (0, 0)) :: Arg W :: [])) (by kernel_rfl) (by kernel_rfl) (by kernel_rfl) (by kernel_rfl) (HF)
          case step =>
            iterate 14 (refine ⟨eff_pl rfl (fun _ => by rfl) fun E val hn T ds w K H hk ho hK => ?_, ?_⟩; rotate_left)
            refine ⟨eff_mk rfl (fun _ => by rfl) fun E val hE0 hcl hn T ds w K H hk ho hK => ?_, ?_⟩; rotate_left
            refine ⟨eff_pl rfl (fun _ => by rfl) fun E val hn T ds w K H hk ho hK => ?_, ?_⟩; rotate_left
            exact trivial
            · have o9 := ho 9 (by kernel_rfl); clear ho; simp [know, dstAt, Region.binds] at hk o9
              first | (refine op_rowT (T := 25) rfl o9 a25 s25 H 6 rfl rfl ?_; exact hK _ H) | (refine op_rowT (T := 25) rfl o9 a25 s25 H 1 rfl rfl ?_; exact hK _ H)
            · have o11 := ho 11 (by kernel_rfl); clear ho; simp [know, dstAt, Region.binds] at hk o11; go_simp; exact hK _ H
            · have o14 := ho 14 (by kernel_rfl); clear ho; simp [know, dstAt, Region.binds] at hk o14; go_simp; exact hK _ H
            · clear ho; simp [know, dstAt, Region.binds] at hk; go_simp; exact hK _ H
            · clear ho; simp [know, dstAt, Region.binds] at hk; go_simp; exact hK _ H
            · have o9 := ho 9 (by kernel_rfl); clear ho; simp [know, dstAt, Region.binds] at hk o9
              first | (refine op_rowT (T := 25) rfl o9 a25 s25 H 6 rfl rfl ?_; exact hK _ H) | (refine op_rowT (T := 25) rfl o9 a25 s25 H 1 rfl rfl ?_; exact hK _ H)
            · have o12 := ho 12 (by kernel_rfl); clear ho; simp [know, dstAt, Region.binds] at hk o12
              first | (refine op_rowT (T := 25) rfl o12 a25 s25 H 6 rfl rfl ?_; exact hK _ H) | (refine op_rowT (T := 25) rfl o12 a25 s25 H 1 rfl rfl ?_; exact hK _ H)
            · clear ho; simp [know, dstAt, Region.binds] at hk
              (go_simp; refine (sameBu (b := Q.2) (oe_recs (H.pick 7 rfl)) (ol_recs (H.pick 8 rfl)) (re_recs (i := 13) rfl (H.pick 2 rfl)) (rl_recs (i := 13) rfl (H.pick 3 rfl)) R1.out R2.out H).mono ?_; rintro e w' ⟨rfl, H⟩; exact hK _ H)
            · clear ho; simp [know, dstAt, Region.binds] at hk; go_simp; exact hK _ H
            · clear ho; simp [know, dstAt, Region.binds] at hk; go_simp; exact hK _ H
            · have o10 := ho 10 (by kernel_rfl); clear ho; simp [know, dstAt, Region.binds] at hk o10
              first | (refine op_rowT (T := 41) rfl o10 a41 s41 H 5 rfl rfl ?_; exact hK _ H) | (refine op_rowT (T := 41) rfl o10 a41 s41 H 0 rfl rfl ?_; exact hK _ H)
            · have o13 := ho 13 (by kernel_rfl); clear ho; simp [know, dstAt, Region.binds] at hk o13
              first | (refine op_rowT (T := 41) rfl o13 a41 s41 H 5 rfl rfl ?_; exact hK _ H) | (refine op_rowT (T := 41) rfl o13 a41 s41 H 0 rfl rfl ?_; exact hK _ H)
            · clear ho; simp [know, dstAt, Region.binds] at hk
              (go_simp; refine (sameA (a := Q.1.2) (oe_recs (H.pick 9 rfl)) (oe_recs (H.pick 4 rfl)) R3.out H).mono ?_; rintro e w' ⟨rfl, H⟩; exact hK _ H)
            · clear ho; simp [know, dstAt, Region.binds] at hk; go_simp; exact hK _ H
            · have o6 := ho 6 (by kernel_rfl); clear ho; simp [know, dstAt, Region.binds] at hk o6
              (simp only [hE0, Bool.false_eq_true, if_false] at H); refine op_putT rfl o6 hk.1 ?_ s25 H 11 rfl rfl rfl ?_; (simp [Value.oneCell']); (intro w' H; refine hK _ _ ?_; have t14 : updE E 14 14 = true := rfl; simp only [t14, if_true]; exact H)
            · clear ho; simp [know, dstAt, Region.binds] at hk; go_simp; exact hK _ H
          case ins =>
            iterate 14 (refine ⟨ins_pl rfl (fun _ _ _ => rfl), ?_⟩)
            refine ⟨ins_mk rfl (fun _ => rfl), ?_⟩
            refine ⟨ins_pl rfl (fun _ _ _ => rfl), ?_⟩
            exact trivial
          case jns =>
            iterate 14 (refine ⟨j_pl (fun _ _ _ => rfl), ?_⟩)
            refine ⟨j_mk rfl, ?_⟩
            refine ⟨j_pl (fun _ _ _ => rfl), ?_⟩
            exact trivial
          case fin =>
            intro E val w9 hE H
            have e14 := hE 14 (by decide)
            simp only [e14, if_true] at H
            clear hE e14 HF
            simp [putAll, Act.put]
            go_wp2_with fail
            refine bodyPost_ret (results_cell_tmp rfl rfl a25 s25 (H.get 11 rfl) rfl) rfl ?_
            exact ⟨_, _, _, _, _, _, _, rfl, (H.sel 15 [14]).lift0 H0.out⟩
end
end Bk
end Go.Proofs.Ytcofcikdknmggaa
