/-
  The order of keys; the document's buckets.
-/
import Derived.Test.YtohfboolicheeaaRgBoth
namespace Go.Proofs.Ytohfboolicheeaa
open Go.Hp Go.RowKit
set_option linter.unusedVariables false
set_option linter.unusedSimpArgs false
set_option maxRecDepth 100000
set_option maxHeartbeats 2000000
namespace Rg

def lessS (a b : Ky) : Bool := if a.k ≠ b.k then decide (a.k < b.k) else if a.a ≠ b.a then decide (a.a < b.a) else if a.b ≠ b.b then decide (a.b < b.b) else decide (a.c < b.c)
theorem less_eq (a b : Ky) : decide (orS [Lib.compareInt a.k b.k, Lib.compareInt a.a b.a, Lib.compareInt a.b b.b, Lib.compareInt a.c b.c] < 0) = lessS a b := by
  unfold lessS Lib.compareInt
  simp only [orS]
  (repeat' split) <;> simp <;> omega

/-- A slice of four numbers. -/
def Sl4 (v : Value) (a b c d : Int) : HProp := fun hp => ∃ g : Nat, v = .slice (some ⟨g, 0, none⟩) 4 4 ∧ Blk g (.cells #[.int .i64 a, .int .i64 b, .int .i64 c, .int .i64 d] 3 (0, 0)) hp
section
variable {w0 w : World} {L : List HProp}
theorem less (H : At w0 L w) (a b : Ky) : Calls Try.prog 34 #[.agg #[.int .i64 a.k, .int .i64 a.a, .int .i64 a.b, .int .i64 a.c], .agg #[.int .i64 b.k, .int .i64 b.a, .int .i64 b.b, .int .i64 b.c]] w (Ret w0 (.bool (lessS a b)) L) := by
  rw [← less_eq]
  obtain ⟨ak, aa, ab, ac⟩ := a
  obtain ⟨bk, ba, bb, bc⟩ := b
  dsimp only
  obtain ⟨r1, e1⟩ : ∃ r, Lib.compareInt ak bk = r := ⟨_, rfl⟩
  obtain ⟨r2, e2⟩ : ∃ r, Lib.compareInt aa ba = r := ⟨_, rfl⟩
  obtain ⟨r3, e3⟩ : ∃ r, Lib.compareInt ab bb = r := ⟨_, rfl⟩
  obtain ⟨r4, e4⟩ : ∃ r, Lib.compareInt ac bc = r := ⟨_, rfl⟩
  have Q1 := Lib.hid (fun (w2 : World) (M : List HProp) (HM : At w0 M w2) => cmp (p := At w0 M) HM ak bk)
  have Q2 := Lib.hid (fun (w2 : World) (M : List HProp) (HM : At w0 M w2) => cmp (p := At w0 M) HM aa ba)
  have Q3 := Lib.hid (fun (w2 : World) (M : List HProp) (HM : At w0 M w2) => cmp (p := At w0 M) HM ab bb)
  have Q4 := Lib.hid (fun (w2 : World) (M : List HProp) (HM : At w0 M w2) => cmp (p := At w0 M) HM ac bc)
  rw [e1] at Q1
  rw [e2] at Q2
  rw [e3] at Q3
  rw [e4] at Q4
  rw [e1, e2, e3, e4]
  obtain ⟨R, hR⟩ : ∃ R, orS [r1, r2, r3, r4] = R := ⟨_, rfl⟩
  have QO := Lib.hid (fun (w2 : World) (b : Addr) (hc : ∀ k n, ([r1, r2, r3, r4] : List Int)[k]? = some n → w2.cell? (b.add k) = some (.int .i64 n)) => or (W := w2) (b := b) (l := [r1, r2, r3, r4]) (cap := 4) (n := 4) rfl (by simp) hc)
  rw [hR] at QO
  rw [hR]
  clear e1 e2 e3 e4 hR
  have tok : True := trivial
  go_enter Try.func34, Try.ntmps34
  go_wp2_with (first | ((with_reducible refine k_box (T := 38) ?_); (have _t := tok); refine st_box rfl _ _ rfl _ rfl H ?_; (clear H tok _t; intro g2 w H K hK; simp only [Value.cells] at H; go_simp)) | ((with_reducible refine k_box (T := 38) ?_); refine st_box rfl _ _ rfl _ rfl H ?_; (clear H; intro g3 w H K hK; simp only [Value.cells] at H; go_simp)))
  apply wp_region_eff [20] (fun i => (#[[], [], [], [], [], [], [], [], [], [], [], [], [], [], [], [], [], [], [], [], [], [20], [20], [20]] : Array (List Nat)).getD i []) (fun val i => ((_ :: .int .i64 ak :: _ :: .int .i64 bk :: .int .i64 r1 :: _ :: .int .i64 aa :: _ :: .int .i64 ba :: .int .i64 r2 :: _ :: .int .i64 ab :: _ :: .int .i64 bb :: .int .i64 r3 :: _ :: .int .i64 ac :: _ :: .int .i64 bc :: .int .i64 r4 :: val 20 :: .int .i64 R :: .bool (decide (R < 0)) :: .bool (decide (R < 0)) :: []) : List Value).toArray.getD i undef) (fun E val => At w0 ((if E 20 = true then Sl4 (val 20) r1 r2 r3 r4 else emp) :: Blk g3 (.cells #[.int .i64 bk, .int .i64 ba, .int .i64 bb, .int .i64 bc] 38 (0, 0)) :: Blk g2 (.cells #[.int .i64 ak, .int .i64 aa, .int .i64 ab, .int .i64 ac] 38 (0, 0)) :: L)) (by kernel_rfl) (by kernel_rfl) (by kernel_rfl) (by kernel_rfl) (H.addEmp)
  case step =>
    iterate 20 (refine ⟨eff_pl rfl (fun _ => by rfl) fun E val hn T ds w K H hk ho hK => ?_, ?_⟩; rotate_left)
    refine ⟨eff_mk rfl (fun _ => by rfl) fun E val hE0 hcl hn T ds w K H hk ho hK => ?_, ?_⟩; rotate_left
    iterate 3 (refine ⟨eff_pl rfl (fun _ => by rfl) fun E val hn T ds w K H hk ho hK => ?_, ?_⟩; rotate_left)
    exact trivial
    · have o2 := ho 2 (by kernel_rfl); clear ho; simp [know, dstAt, Region.binds] at hk o2; go_simp; exact hK _ H
    · clear ho; simp [know, dstAt, Region.binds] at hk
      (refine op_loadT rfl hk ?_ H 2 rfl rfl ?_; (kernel_rfl); exact hK _ H)
    · have o3 := ho 3 (by kernel_rfl); clear ho; simp [know, dstAt, Region.binds] at hk o3; go_simp; exact hK _ H
    · clear ho; simp [know, dstAt, Region.binds] at hk
      (refine op_loadT rfl hk ?_ H 1 rfl rfl ?_; (kernel_rfl); exact hK _ H)
    · clear ho; simp [know, dstAt, Region.binds] at hk
      (go_simp; refine (Q1.out _ _ H).mono ?_; rintro e w' ⟨rfl, H⟩; exact hK _ H)
    · have o2 := ho 2 (by kernel_rfl); clear ho; simp [know, dstAt, Region.binds] at hk o2; go_simp; exact hK _ H
    · clear ho; simp [know, dstAt, Region.binds] at hk
      (refine op_loadT rfl hk ?_ H 2 rfl rfl ?_; (kernel_rfl); exact hK _ H)
    · have o3 := ho 3 (by kernel_rfl); clear ho; simp [know, dstAt, Region.binds] at hk o3; go_simp; exact hK _ H
    · clear ho; simp [know, dstAt, Region.binds] at hk
      (refine op_loadT rfl hk ?_ H 1 rfl rfl ?_; (kernel_rfl); exact hK _ H)
    · clear ho; simp [know, dstAt, Region.binds] at hk
      (go_simp; refine (Q2.out _ _ H).mono ?_; rintro e w' ⟨rfl, H⟩; exact hK _ H)
    · have o2 := ho 2 (by kernel_rfl); clear ho; simp [know, dstAt, Region.binds] at hk o2; go_simp; exact hK _ H
    · clear ho; simp [know, dstAt, Region.binds] at hk
      (refine op_loadT rfl hk ?_ H 2 rfl rfl ?_; (kernel_rfl); exact hK _ H)
    · have o3 := ho 3 (by kernel_rfl); clear ho; simp [know, dstAt, Region.binds] at hk o3; go_simp; exact hK _ H
    · clear ho; simp [know, dstAt, Region.binds] at hk
      (refine op_loadT rfl hk ?_ H 1 rfl rfl ?_; (kernel_rfl); exact hK _ H)
    · clear ho; simp [know, dstAt, Region.binds] at hk
      (go_simp; refine (Q3.out _ _ H).mono ?_; rintro e w' ⟨rfl, H⟩; exact hK _ H)
    · have o2 := ho 2 (by kernel_rfl); clear ho; simp [know, dstAt, Region.binds] at hk o2; go_simp; exact hK _ H
    · clear ho; simp [know, dstAt, Region.binds] at hk
      (refine op_loadT rfl hk ?_ H 2 rfl rfl ?_; (kernel_rfl); exact hK _ H)
    · have o3 := ho 3 (by kernel_rfl); clear ho; simp [know, dstAt, Region.binds] at hk o3; go_simp; exact hK _ H
    · clear ho; simp [know, dstAt, Region.binds] at hk
      (refine op_loadT rfl hk ?_ H 1 rfl rfl ?_; (kernel_rfl); exact hK _ H)
    · clear ho; simp [know, dstAt, Region.binds] at hk
      (go_simp; refine (Q4.out _ _ H).mono ?_; rintro e w' ⟨rfl, H⟩; exact hK _ H)
    · clear ho; simp [know, dstAt, Region.binds] at hk
      (simp only [hE0, Bool.false_eq_true, if_false] at H); go_simp; refine hK _ _ ?_; have t20 : updE E 20 20 = true := rfl; simp only [t20, if_true]; exact ((At.imp (H.alloc _) fun _ hh => (⟨_, rfl, hh⟩ : Sl4 (.slice (some ⟨_, 0, none⟩) 4 4) r1 r2 r3 r4 _)).sel 4 [0, 2, 3])
    · clear ho; simp [know, dstAt, Region.binds] at hk
      (have e20 := hn 20 (by decide); (simp only [e20, if_true] at H); (obtain ⟨gs, HS0⟩ := At.ex H); (obtain ⟨hv, HS⟩ := At.and HS0); have hk2 := hk; rw [hv] at hk2; clear hk; go_simp; refine (QO.out _ ⟨gs, 0, none⟩ (fun k n hkn => cells_of (c := [.int .i64 r1, .int .i64 r2, .int .i64 r3, .int .i64 r4]) HS.get0 k (.int .i64 n) (by have := congrArg (Option.map (Value.int .i64)) hkn; rw [← List.getElem?_map] at this; exact this))).mono ?_; rintro e w' ⟨rfl, rfl⟩; exact hK _ (by simp only [e20, if_true]; exact H))
    · clear ho; simp [know, dstAt, Region.binds] at hk; go_simp; exact hK _ H
    · clear ho; simp [know, dstAt, Region.binds] at hk; go_simp; exact hK _ H
  case ins =>
    iterate 20 (refine ⟨ins_pl rfl (fun _ _ _ => rfl), ?_⟩)
    refine ⟨ins_mk rfl (fun _ => rfl), ?_⟩
    iterate 3 (refine ⟨ins_pl rfl (fun val val' h => by first | rfl | ((have h20 := h 20 (by decide)); first | (simp only [h20]; done) | (simp only [h20]; rfl))), ?_⟩)
    exact trivial
  case jns =>
    iterate 20 (refine ⟨j_pl (fun _ _ _ => rfl), ?_⟩)
    refine ⟨j_mk rfl, ?_⟩
    iterate 3 (refine ⟨j_pl (fun _ _ _ => rfl), ?_⟩)
    exact trivial
  case fin =>
    intro E val w5 hE H
    clear hE
    simp [putAll, Act.put]
    go_wp2_with fail
    go_ret
    exact ⟨rfl, H.sel 3 []⟩

theorem rless (H : At w0 L w) (a b : Ky) : Calls Try.prog 35 #[.agg #[.int .i64 a.k, .int .i64 a.a, .int .i64 a.b, .int .i64 a.c], .agg #[.int .i64 b.k, .int .i64 b.a, .int .i64 b.b, .int .i64 b.c]] w (Ret w0 (.bool (lessS a b)) L) := by
  obtain ⟨ak, aa, ab, ac⟩ := a
  obtain ⟨bk, ba, bb, bc⟩ := b
  unfold lessS
  dsimp only
  have tok : True := trivial
  go_enter Try.func35, Try.ntmps35
  go_wp2_with (first | ((with_reducible refine k_box (T := 38) ?_); (have _t := tok); refine st_box rfl _ _ rfl _ rfl H ?_; (clear H tok _t; intro g2 w H K hK; simp only [Value.cells] at H; go_simp)) | ((with_reducible refine k_box (T := 38) ?_); refine st_box rfl _ _ rfl _ rfl H ?_; (clear H; intro g3 w H K hK; simp only [Value.cells] at H; go_simp)) | ((with_reducible refine k_load ?_); (first | refine st_load rfl _ _ rfl _ _ rfl ?_ H 0 rfl rfl ?_ | refine st_load rfl _ _ rfl _ _ rfl ?_ H 1 rfl rfl ?_); (kernel_rfl); (intro K hK; go_simp)))
  all_goals
    go_ret
    refine ⟨?_, H.sel 2 []⟩
    (try simp only [beq_iff_eq, beq_eq_false_iff_ne, bne_iff_ne, ne_eq] at *)
    simp_all
end
end Rg
end Go.Proofs.Ytohfboolicheeaa
