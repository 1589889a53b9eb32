/-
  A configuration with one server more; what it does to shares and groups.
-/
import Derived.Test.YtohfboolicheeaaRgUnl
namespace Go.Proofs.Ytohfboolicheeaa
open Go.Hp Go.RowKit
set_option linter.unusedVariables false
set_option linter.unusedSimpArgs false
set_option maxRecDepth 100000
set_option maxHeartbeats 2000000
namespace Rg
theorem one_more {S T : List Int} {id : Int} (hp : T.Perm (id :: S)) (hd : T.Nodup) : id ∉ S ∧ (T.filter fun s => decide (s ≠ id)).Perm S := by
  have h1 := hp.nodup_iff.1 hd
  obtain ⟨h2, h3⟩ := List.nodup_cons.1 h1
  refine ⟨h2, ?_⟩
  have h4 := hp.filter fun s => decide (s ≠ id)
  rw [List.filter_cons_of_neg (by simp)] at h4
  have h5 : (S.filter fun s => decide (s ≠ id)) = S := by
    rw [List.filter_eq_self]
    intro x hx
    have : x ≠ id := by rintro rfl; exact h2 hx
    simpa using this
  rw [h5] at h4
  exact h4
section
variable {w0 w : World} {L : List HProp}
def WithPost (w0 : World) (L : List HProp) (c : Cf) (S : List Int) (id : Int) (e : Ending) (w' : World) : Prop :=
  ∃ (ad : Option Addr) (n m : Nat) (T : List Int), e = .returned (.agg #[.slice ad n m, .int .i64 c.F, .int .i64 c.P, .int .i64 c.B, .int .i64 c.K, .int .i64 c.R]) ∧ T.Perm (id :: S) ∧ At w0 (OI (.slice ad n m) T :: L) w'
theorem withP {v : Value} {c : Cf} {S : List Int} {id place : Int} (hv : RecsAt w v 1 (S.map iC)) (hsz : S.length ≤ 17592186043904) (H : At w0 L w) :
    Calls Try.prog 21 #[.agg #[v, .int .i64 c.F, .int .i64 c.P, .int .i64 c.B, .int .i64 c.K, .int .i64 c.R], .int .i64 id, .int .i64 place] w (WithPost w0 L c S id) := by
  obtain ⟨W, rfl⟩ : ∃ W : World, W = w := ⟨_, rfl⟩
  have HF := At.of W
  have H0 := Lib.hid H
  obtain ⟨ad, cap, rfl, c1, c2, c3⟩ := hv.value
  rw [List.length_map] at c1 c3 hv ⊢
  have HV := Lib.hid hv
  have C3 := Lib.hid c3
  obtain ⟨cF, cP, cB, cK, cR⟩ := c
  dsimp only
  clear H hv c3 c1 c2
  go_enter Try.func21, Try.ntmps21
  go_wp2_with (first | ((with_reducible refine k_box ?_); refine st_box rfl _ _ rfl _ rfl HF ?_; (clear HF; intro g3 w HF K hK; simp only [Value.cells, Act.eval, Value.cells, Array.getD_eq_getD_getElem?, List.getElem?_toArray, List.getElem?_cons_succ, List.getElem?_cons_zero, Option.getD_some] at HF; go_simp)) | ((with_reducible refine k_alloc (T := 29) ?_); refine st_alloc rfl _ rfl _ z29 _ rfl HF ?_; (clear HF; intro g6 w HF K hK; simp only [Value.cells] at HF; go_simp)))
  replace HF := oi_nil HF
  go_loopw [7, 8] (fun a i wr => ∃ (k : Nat) (X : List Int) (b3 : Option Addr) (m3 p3 : Nat), k ≤ S.length ∧ i = .int .i64 k ∧ a = .slice b3 m3 p3 ∧ X.length ≤ k + 1 ∧ Hid ((X.Perm (S.take k) ∧ X.length = k ∧ ¬ (0 ≤ place ∧ place < k)) ∨ (X.Perm (id :: S.take k) ∧ X.length = k + 1 ∧ (0 ≤ place ∧ place < k))) ∧ At W (OI (.slice b3 m3 p3) X :: Blk g6 (.cells #[.slice none 0 0, .int .i64 0, .int .i64 0, .int .i64 0, .int .i64 0, .int .i64 0] 29 (0, 0)) :: Blk g3 (.cells #[.slice ad S.length cap, .int .i64 cF, .int .i64 cP, .int .i64 cB, .int .i64 cK, .int .i64 cR] 29 (0, 0)) :: Arg W :: []) wr) (fun _ i _ => S.length - (intOf i).toNat)
  case atStart => exact ⟨0, [], _, _, _, Nat.zero_le _, rfl, rfl, by simp, Lib.hid (.inl ⟨by simp, rfl, by omega⟩), HF⟩
  case round =>
    clear HF
    obtain ⟨k, X, b3, m3, p3, hk, rfl, rfl, hX, HI, HF⟩ := hrel
    by_cases hlt : k < S.length
    · have gk : (k : Int) < S.length := by omega
      obtain ⟨x, hx⟩ : ∃ x, S[k]? = some x := ⟨_, List.getElem?_eq_getElem hlt⟩
      obtain ⟨ba, rfl⟩ := C3.out (by omega)
      have Hx := Lib.hid (fun (w4 : World) (hx4 : Ext W w4) => hx4.cell (recs_int HV.out hx))
      have HT := Lib.hid (show S.take (k + 1) = S.take k ++ [x] by rw [List.take_add_one, hx, Option.toList_some])
      clear hx
      by_cases hp : (k : Int) = place
      · subst hp
        have HI2 := Lib.hid (show (X ++ [id] ++ [x]).Perm (id :: S.take (k + 1)) ∧ (X ++ [id] ++ [x]).length = k + 1 + 1 ∧ (0 ≤ (k : Int) ∧ (k : Int) < (k + 1 : Nat)) from by
          rcases HI.out with ⟨p1, p2, p3⟩ | ⟨p1, p2, p3⟩
          · refine ⟨?_, by simp [p2], by omega⟩
            rw [HT.out]
            refine (List.Perm.append_right [x] (List.perm_append_comm (l₁ := X) (l₂ := [id]))).trans ?_
            rw [List.singleton_append, List.cons_append]
            exact (p1.append_right [x]).cons id
          · omega)
        have hXk : X.length ≤ k := by
          rcases HI.out with ⟨p1, p2, p3⟩ | ⟨p1, p2, p3⟩ <;> omega
        have hX1 : (X ++ [id]).length = X.length + 1 := by simp
        have hX2 : (X ++ [id] ++ [x]).length = X.length + 1 + 1 := by simp
        clear HI
        have tok : True := trivial
        go_wp2_with (first | ((with_reducible refine k_load ?_); (first | refine st_load rfl _ _ rfl _ _ rfl ?_ HF 1 rfl rfl ?_ | refine st_load rfl _ _ rfl _ _ rfl ?_ HF 2 rfl rfl ?_); (kernel_rfl); (intro K hK; go_simp))            | ((with_reducible refine k_builtin ?_); (have _t := tok); refine st_append rfl _ _ _ rfl 3 Try.underlying27 1 st3 8 bt3 _ zt3 rfl (.slice b3 m3 p3) X.length (iCs X) rfl ((HF.alloc _).sel 5 [1, 0, 2, 3, 4]) (some ⟨_, 0, none⟩) 1 1 [.int .i64 id] rfl rfl (fun _ => ⟨_, rfl, cells_of ((HF.alloc _).get 0 rfl)⟩) (by simp [Value.oneCell']) ?_ ?_ ?_; ((try simp only [maxLen]); omega); (omega); (clear HF tok _t; intro v7 w HF K hK; obtain ⟨s4, t4, u4, rfl⟩ := own_form HF; replace HF := oi_snoc (HF.sel 5 [0, 2, 3, 4]); go_simp))            | ((with_reducible refine k_builtin ?_); refine st_append rfl _ _ _ rfl 3 Try.underlying27 1 st3 8 bt3 _ zt3 rfl (.slice s4 t4 u4) (X ++ [id]).length (iCs (X ++ [id])) rfl ((HF.alloc _).sel 5 [1, 0, 2, 3, 4]) (some ⟨_, 0, none⟩) 1 1 [.int .i64 x] rfl rfl (fun _ => ⟨_, rfl, cells_of ((HF.alloc _).get 0 rfl)⟩) (by simp [Value.oneCell']) ?_ ?_ ?_; ((try simp only [maxLen]); omega); (omega); (clear HF; intro v8 w HF K hK; obtain ⟨s5, t5, u5, rfl⟩ := own_form HF; replace HF := oi_snoc (HF.sel 5 [0, 2, 3, 4]); go_simp))            | ((with_reducible refine k_load ?_); refine st_load1 rfl _ _ rfl _ rfl rfl (Hx.out _ (HF.ext 3 rfl)) ?_; (intro K hK; go_simp)))
        go_roundw
        case rel => exact ⟨k + 1, X ++ [id] ++ [x], s5, t5, u5, by omega, rfl, rfl, by omega, Lib.hid (.inr HI2.out), HF⟩
        case measure => simp [intOf]; omega
      · have hpb : ((k : Int) == place) = false := by rw [beq_eq_false_iff_ne]; exact hp
        have HI2 := Lib.hid (show ((X ++ [x]).Perm (S.take (k + 1)) ∧ (X ++ [x]).length = k + 1 ∧ ¬ (0 ≤ place ∧ place < (k + 1 : Nat))) ∨ ((X ++ [x]).Perm (id :: S.take (k + 1)) ∧ (X ++ [x]).length = k + 1 + 1 ∧ (0 ≤ place ∧ place < (k + 1 : Nat))) from by
          rw [HT.out]
          rcases HI.out with ⟨p1, p2, p3⟩ | ⟨p1, p2, p3⟩
          · exact .inl ⟨p1.append_right [x], by simp [p2], by omega⟩
          · exact .inr ⟨p1.append_right [x], by simp [p2], by omega⟩)
        have hX1 : (X ++ [x]).length = X.length + 1 := by simp
        clear HI
        go_wp2_with (first | ((with_reducible refine k_load ?_); (first | refine st_load rfl _ _ rfl _ _ rfl ?_ HF 1 rfl rfl ?_ | refine st_load rfl _ _ rfl _ _ rfl ?_ HF 2 rfl rfl ?_); (kernel_rfl); (intro K hK; go_simp))            | ((with_reducible refine k_builtin ?_); refine st_append rfl _ _ _ rfl 3 Try.underlying27 1 st3 8 bt3 _ zt3 rfl (.slice b3 m3 p3) X.length (iCs X) rfl ((HF.alloc _).sel 5 [1, 0, 2, 3, 4]) (some ⟨_, 0, none⟩) 1 1 [.int .i64 x] rfl rfl (fun _ => ⟨_, rfl, cells_of ((HF.alloc _).get 0 rfl)⟩) (by simp [Value.oneCell']) ?_ ?_ ?_; ((try simp only [maxLen]); omega); (omega); (clear HF; intro v7 w HF K hK; obtain ⟨s4, t4, u4, rfl⟩ := own_form HF; replace HF := oi_snoc (HF.sel 5 [0, 2, 3, 4]); go_simp))            | ((with_reducible refine k_load ?_); refine st_load1 rfl _ _ rfl _ rfl rfl (Hx.out _ (HF.ext 3 rfl)) ?_; (intro K hK; go_simp)))
        go_roundw
        case rel => exact ⟨k + 1, X ++ [x], s4, t4, u4, by omega, rfl, rfl, by omega, Lib.hid HI2.out, HF⟩
        case measure => simp [intOf]; omega
    · have hk8 : k = S.length := by omega
      have gk : ¬ (k : Int) < S.length := by omega
      have htk : S.take k = S := List.take_of_length_le (by omega)
      have hI := HI.out
      rw [htk] at hI
      clear HI htk
      obtain ⟨ad2, cap2, hv2, d1, d2, d3⟩ := (oi_recs HF).value
      rw [List.length_map] at hv2 d1 d3
      cases hv2
      rcases hI with ⟨p1, p2, p3⟩ | ⟨p1, p2, p3⟩
      · have HI2 := Lib.hid (show (X ++ [id]).Perm (id :: S) from (List.perm_append_comm (l₁ := X) (l₂ := [id])).trans (p1.cons id))
        have heq : ((X.length : Int) == (S.length : Int)) = true := by rw [beq_iff_eq]; omega
        have heq2 : (X.length == S.length) = true := by rw [beq_iff_eq]; omega
        have hX1 : (X ++ [id]).length = X.length + 1 := by simp
        clear p1 p2 p3 d1 d2 d3 hk8
        go_wp2_with (first | ((with_reducible refine k_load (T := 29) ?_); refine st_row rfl _ _ rfl _ rfl a29 6 s29 HF 2 rfl rfl ?_; (intro K hK; go_simp)) | ((with_reducible refine k_load (T := 29) ?_); refine st_loads rfl _ _ rfl _ _ rfl a29 6 s29 HF 2 rfl ?_ ?_; (simp); (intro K hK; go_simp)) | ((with_reducible refine k_load ?_); (first | refine st_load rfl _ _ rfl _ _ rfl ?_ HF 1 rfl rfl ?_ | refine st_load rfl _ _ rfl _ _ rfl ?_ HF 2 rfl rfl ?_); (kernel_rfl); (intro K hK; go_simp)) | ((with_reducible refine k_store ?_); refine st_store rfl _ _ _ rfl _ _ rfl _ rfl rfl ?_ HF 2 rfl ?_ ?_; (kernel_rfl); (simp); (clear HF; intro w HF K hK; simp only [List.set_cons_zero, List.set_cons_succ, List.setIfInBounds_toArray, Act.eval, Value.cells, Array.getD_eq_getD_getElem?, List.getElem?_toArray, List.getElem?_cons_succ, List.getElem?_cons_zero, Option.getD_some] at HF; go_simp)) | ((with_reducible refine k_store (T := 29) ?_); refine st_put rfl _ _ _ rfl _ rfl _ rfl ?_ s29 HF 1 rfl rfl ?_; (simp [Value.oneCell']); (clear HF; intro w HF K hK; simp only [List.set_cons_zero, List.set_cons_succ, Act.eval, Value.cells, Array.getD_eq_getD_getElem?, List.getElem?_toArray, List.getElem?_cons_succ, List.getElem?_cons_zero, Option.getD_some] at HF; go_simp))            | ((with_reducible refine k_builtin ?_); refine st_append rfl _ _ _ rfl 3 Try.underlying27 1 st3 8 bt3 _ zt3 rfl (.slice b3 X.length p3) X.length (iCs X) rfl ((HF.alloc _).sel 5 [1, 0, 2, 3, 4]) (some ⟨_, 0, none⟩) 1 1 [.int .i64 id] rfl rfl (fun _ => ⟨_, rfl, cells_of ((HF.alloc _).get 0 rfl)⟩) (by simp [Value.oneCell']) ?_ ?_ ?_; ((try simp only [maxLen]); omega); (omega); (clear HF; intro v7 w HF K hK; obtain ⟨s4, t4, u4, rfl⟩ := own_form HF; replace HF := oi_snoc (HF.sel 5 [0, 2, 3, 4]); go_simp)))

        refine bodyPost_ret (results_cell rfl rfl a29 s29 (HF.get 1 rfl) rfl) rfl ?_
        exact ⟨_, _, _, X ++ [id], rfl, HI2.out, (HF.sel 4 [0, 3]).lift1 H0.out⟩
      · have HI2 := Lib.hid p1
        have heq : ((X.length : Int) == (S.length : Int)) = false := by rw [beq_eq_false_iff_ne]; omega
        have heq2 : (X.length == S.length) = false := by rw [beq_eq_false_iff_ne]; omega
        clear p1 p2 p3 d1 d2 d3 hk8
        go_wp2_with (first | ((with_reducible refine k_load (T := 29) ?_); refine st_row rfl _ _ rfl _ rfl a29 6 s29 HF 2 rfl rfl ?_; (intro K hK; go_simp)) | ((with_reducible refine k_load (T := 29) ?_); refine st_loads rfl _ _ rfl _ _ rfl a29 6 s29 HF 2 rfl ?_ ?_; (simp); (intro K hK; go_simp)) | ((with_reducible refine k_load ?_); (first | refine st_load rfl _ _ rfl _ _ rfl ?_ HF 1 rfl rfl ?_ | refine st_load rfl _ _ rfl _ _ rfl ?_ HF 2 rfl rfl ?_); (kernel_rfl); (intro K hK; go_simp)) | ((with_reducible refine k_store ?_); refine st_store rfl _ _ _ rfl _ _ rfl _ rfl rfl ?_ HF 2 rfl ?_ ?_; (kernel_rfl); (simp); (clear HF; intro w HF K hK; simp only [List.set_cons_zero, List.set_cons_succ, List.setIfInBounds_toArray, Act.eval, Value.cells, Array.getD_eq_getD_getElem?, List.getElem?_toArray, List.getElem?_cons_succ, List.getElem?_cons_zero, Option.getD_some] at HF; go_simp)) | ((with_reducible refine k_store (T := 29) ?_); refine st_put rfl _ _ _ rfl _ rfl _ rfl ?_ s29 HF 1 rfl rfl ?_; (simp [Value.oneCell']); (clear HF; intro w HF K hK; simp only [List.set_cons_zero, List.set_cons_succ, Act.eval, Value.cells, Array.getD_eq_getD_getElem?, List.getElem?_toArray, List.getElem?_cons_succ, List.getElem?_cons_zero, Option.getD_some] at HF; go_simp)))

        refine bodyPost_ret (results_cell rfl rfl a29 s29 (HF.get 1 rfl) rfl) rfl ?_
        exact ⟨_, _, _, X, rfl, HI2.out, (HF.sel 4 [0, 3]).lift1 H0.out⟩
end
end Rg
end Go.Proofs.Ytohfboolicheeaa
