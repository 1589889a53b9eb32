/-
  Keys: which are right, their hashes.
-/
import Derived.Test.YtohfboolicheeaaRgFirst
namespace Go.Proofs.Ytohfboolicheeaa
open Go.Hp Go.RowKit
set_option linter.unusedVariables false
set_option linter.unusedSimpArgs false
set_option maxRecDepth 100000
set_option maxHeartbeats 2000000
namespace Rg

def KeyR (k : Ky) (B : Int) : Prop :=
  (k.k = 1 ∧ (1 ≤ k.a ∧ k.a ≤ 255) ∧ (1 ≤ k.b ∧ k.b ≤ 1099511627776) ∧ (0 ≤ k.c ∧ k.c < 1048576)) ∨
  (k.k = 2 ∧ (0 ≤ k.a ∧ k.a < B) ∧ k.b = 0 ∧ k.c = 0) ∨
  (k.k = 3 ∧ (0 ≤ k.a ∧ k.a < B) ∧ (1 ≤ k.b ∧ k.b ≤ 1048576) ∧ k.c = 0)
def KeyPost (w0 : World) (L : List HProp) (k : Ky) (B : Int) (e : Ending) (w' : World) : Prop := ∃ r : Bool, e = .returned (.bool r) ∧ (r = true ↔ KeyR k B) ∧ At w0 L w'

section
variable {w0 w : World} {L : List HProp}
theorem keyRight (H : At w0 L w) (k : Ky) (c : Cf) (s1 : Option Addr) (s2 s3 : Nat) :
    Calls Try.prog 25 #[.agg #[.int .i64 k.k, .int .i64 k.a, .int .i64 k.b, .int .i64 k.c], .agg #[.slice s1 s2 s3, .int .i64 c.F, .int .i64 c.P, .int .i64 c.B, .int .i64 c.K, .int .i64 c.R]] w (KeyPost w0 L k c.B) := by
  obtain ⟨kk, ka, kb, kc⟩ := k
  obtain ⟨cF, cP, cB, cK, cR⟩ := c
  dsimp only
  go_enter Try.func25, Try.ntmps25
  go_wp2_with (first | ((with_reducible refine k_box (T := 38) ?_); refine st_box rfl _ _ rfl _ rfl H ?_; (clear H; intro g2 w H K hK; simp only [Value.cells, Act.eval, Value.cells, Array.getD_eq_getD_getElem?, List.getElem?_toArray, List.getElem?_cons_succ, List.getElem?_cons_zero, Option.getD_some] at H; go_simp)) | ((with_reducible refine k_box (T := 29) ?_); refine st_box rfl _ _ rfl _ rfl H ?_; (clear H; intro g3 w H K hK; simp only [Value.cells, Act.eval, Value.cells, Array.getD_eq_getD_getElem?, List.getElem?_toArray, List.getElem?_cons_succ, List.getElem?_cons_zero, Option.getD_some] at H; go_simp)) | ((with_reducible refine k_load ?_); (first | refine st_load rfl _ _ rfl _ _ rfl ?_ H 0 rfl rfl ?_ | refine st_load rfl _ _ rfl _ _ rfl ?_ H 1 rfl rfl ?_); (kernel_rfl); (intro K hK; go_simp)))
  all_goals
    go_ret
    refine ⟨_, rfl, ?_, H.sel 2 []⟩
    unfold KeyR
    dsimp only
    (try simp only [beq_iff_eq, beq_eq_false_iff_ne, ne_eq, decide_eq_true_eq, Bool.false_eq_true, false_iff, true_iff] at *)
    omega

theorem hash4_eq (k : Ky) : hashB hash0 ([k.k, k.a, k.b, k.c].flatMap bytes8) = hashK k := by
  unfold hashK numS
  simp only [List.flatMap_cons, List.flatMap_nil, List.append_nil, hashB_app]

theorem hashP (H : At w0 L w) (k : Ky) : Calls Try.prog 32 #[.agg #[.int .i64 k.k, .int .i64 k.a, .int .i64 k.b, .int .i64 k.c]] w (Ret w0 (.int .i64 (hashK k : Nat)) L) := by
  obtain ⟨R, hR⟩ : ∃ R, hashK k = R := ⟨_, rfl⟩
  have HN := Lib.hid (fun (w2 : World) (M : List HProp) (v : Value) (hv : RecsAt w2 v 1 ([k.k, k.a, k.b, k.c].map iC)) (HM : At w0 M w2) => numbers (l := [k.k, k.a, k.b, k.c]) hv (by simp) HM)
  rw [hash4_eq, hR] at HN
  rw [hR]
  obtain ⟨kk, ka, kb, kc⟩ := k
  dsimp only at HN ⊢
  clear hR
  go_enter Try.func32, Try.ntmps32
  go_wp2_with (first | ((with_reducible refine k_box ?_); refine st_box rfl _ _ rfl _ rfl H ?_; (clear H; intro g1 w H K hK; simp only [Value.cells, Act.eval, Value.cells, Array.getD_eq_getD_getElem?, List.getElem?_toArray, List.getElem?_cons_succ, List.getElem?_cons_zero, Option.getD_some] at H; go_simp)) | ((with_reducible refine k_load ?_); refine st_load rfl _ _ rfl _ _ rfl ?_ H 0 rfl rfl ?_; (kernel_rfl); (intro K hK; go_simp)))
  have HA := H.alloc (Obj.cells #[.int .i64 kk, .int .i64 ka, .int .i64 kb, .int .i64 kc] 3)
  have hrec : RecsAt (w.alloc (Obj.cells #[.int .i64 kk, .int .i64 ka, .int .i64 kb, .int .i64 kc] 3)) (.slice (some ⟨w.heap.size, 0, none⟩) 4 4) 1 ([kk, ka, kb, kc].map iC) := by
    refine ⟨⟨some ⟨w.heap.size, 0, none⟩, 4, rfl, Nat.le_refl _, by simp [maxLen], fun _ => ⟨_, rfl⟩, fun b0 hb j u hj => ?_⟩, by intro r hr; obtain ⟨e, _, rfl⟩ := List.mem_map.1 hr; rfl⟩
    cases hb
    exact cells_of (c := [.int .i64 kk, .int .i64 ka, .int .i64 kb, .int .i64 kc]) HA.get0 j u hj
  refine (HN.out _ _ _ hrec HA).mono ?_
  rintro e w2 ⟨rfl, HX⟩
  go_wp2_with fail
  go_ret
  exact ⟨rfl, HX.sel 2 []⟩

theorem rhashP (H : At w0 L w) (k : Ky) : Calls Try.prog 33 #[.agg #[.int .i64 k.k, .int .i64 k.a, .int .i64 k.b, .int .i64 k.c]] w (Ret w0 (.int .i64 (hashK k : Nat)) L) := by
  obtain ⟨kk, ka, kb, kc⟩ := k
  unfold hashK
  dsimp only
  obtain ⟨h1, e1⟩ : ∃ h, numS hash0 kk = h := ⟨_, rfl⟩
  have l1 : h1 < 4294967296 := by rw [← e1]; exact numS_lt _ (by decide)
  obtain ⟨h2, e2⟩ : ∃ h, numS h1 ka = h := ⟨_, rfl⟩
  have l2 : h2 < 4294967296 := by rw [← e2]; exact numS_lt _ l1
  obtain ⟨h3, e3⟩ : ∃ h, numS h2 kb = h := ⟨_, rfl⟩
  have l3 : h3 < 4294967296 := by rw [← e3]; exact numS_lt _ l2
  obtain ⟨h4, e4⟩ : ∃ h, numS h3 kc = h := ⟨_, rfl⟩
  rw [e1, e2, e3, e4]
  have N1 := Lib.hid (show ∀ (w2 : World) (M : List HProp) (HM : At w0 M w2), Calls Try.prog 50 #[.int .i64 2166136261, .int .i64 kk] w2 (Ret w0 (.int .i64 (h1 : Nat)) M) from fun w2 M HM => by have := number (h := 2166136261) HM (by decide) kk; rw [show numS 2166136261 kk = h1 from e1] at this; exact this)
  have N2 := Lib.hid (fun (w2 : World) (M : List HProp) (HM : At w0 M w2) => number HM l1 ka)
  rw [e2] at N2
  have N3 := Lib.hid (fun (w2 : World) (M : List HProp) (HM : At w0 M w2) => number HM l2 kb)
  rw [e3] at N3
  have N4 := Lib.hid (fun (w2 : World) (M : List HProp) (HM : At w0 M w2) => number HM l3 kc)
  rw [e4] at N4
  clear e1 e2 e3 e4 l1 l2 l3
  go_enter Try.func33, Try.ntmps33
  go_wp2_with (first | ((with_reducible refine k_box ?_); refine st_box rfl _ _ rfl _ rfl H ?_; (clear H; intro g1 w H K hK; simp only [Value.cells, Act.eval, Value.cells, Array.getD_eq_getD_getElem?, List.getElem?_toArray, List.getElem?_cons_succ, List.getElem?_cons_zero, Option.getD_some] at H; go_simp)))
  apply wp_region_eff [] (fun i => (#[[], [], [], [], [], [], [], [], [], [], [], [], []] : Array (List Nat)).getD i []) (fun val i => ((_ :: .int .i64 kk :: .int .i64 h1 :: _ :: .int .i64 ka :: .int .i64 h2 :: _ :: .int .i64 kb :: .int .i64 h3 :: _ :: .int .i64 kc :: .int .i64 h4 :: _ :: []) : List Value).toArray.getD i undef) (fun E val => At w0 (Blk g1 (.cells #[.int .i64 kk, .int .i64 ka, .int .i64 kb, .int .i64 kc] 38 (0, 0)) :: L)) (by kernel_rfl) (by kernel_rfl) (by kernel_rfl) (by kernel_rfl) (H)
  case step =>
    iterate 13 (refine ⟨eff_pl rfl (fun _ => by rfl) fun E val hn T ds w K H hk ho hK => ?_, ?_⟩; rotate_left)
    exact trivial
    · have o1 := ho 1 (by kernel_rfl); clear ho; simp [know, dstAt, Region.binds] at hk o1; go_simp; exact hK _ H
    · clear ho; simp [know, dstAt, Region.binds] at hk
      (refine op_loadT rfl hk ?_ H 0 rfl rfl ?_; (kernel_rfl); exact hK _ H)
    · clear ho; simp [know, dstAt, Region.binds] at hk
      (go_simp; refine (N1.out _ _ H).mono ?_; rintro e w' ⟨rfl, H⟩; exact hK _ H)
    · have o1 := ho 1 (by kernel_rfl); clear ho; simp [know, dstAt, Region.binds] at hk o1; go_simp; exact hK _ H
    · clear ho; simp [know, dstAt, Region.binds] at hk
      (refine op_loadT rfl hk ?_ H 0 rfl rfl ?_; (kernel_rfl); exact hK _ H)
    · clear ho; simp [know, dstAt, Region.binds] at hk
      (go_simp; refine (N2.out _ _ H).mono ?_; rintro e w' ⟨rfl, H⟩; exact hK _ H)
    · have o1 := ho 1 (by kernel_rfl); clear ho; simp [know, dstAt, Region.binds] at hk o1; go_simp; exact hK _ H
    · clear ho; simp [know, dstAt, Region.binds] at hk
      (refine op_loadT rfl hk ?_ H 0 rfl rfl ?_; (kernel_rfl); exact hK _ H)
    · clear ho; simp [know, dstAt, Region.binds] at hk
      (go_simp; refine (N3.out _ _ H).mono ?_; rintro e w' ⟨rfl, H⟩; exact hK _ H)
    · have o1 := ho 1 (by kernel_rfl); clear ho; simp [know, dstAt, Region.binds] at hk o1; go_simp; exact hK _ H
    · clear ho; simp [know, dstAt, Region.binds] at hk
      (refine op_loadT rfl hk ?_ H 0 rfl rfl ?_; (kernel_rfl); exact hK _ H)
    · clear ho; simp [know, dstAt, Region.binds] at hk
      (go_simp; refine (N4.out _ _ H).mono ?_; rintro e w' ⟨rfl, H⟩; exact hK _ H)
    · clear ho; simp [know, dstAt, Region.binds] at hk; go_simp; exact hK _ H
  case ins =>
    iterate 13 (refine ⟨ins_pl rfl (fun _ _ _ => rfl), ?_⟩)
    exact trivial
  case jns =>
    iterate 13 (refine ⟨j_pl (fun _ _ _ => rfl), ?_⟩)
    exact trivial
  case fin =>
    intro E val w5 hE HX
    simp [putAll, Act.put]
    go_wp2_with fail
    go_ret
    exact ⟨rfl, HX.drop⟩
end
end Rg
end Go.Proofs.Ytohfboolicheeaa
