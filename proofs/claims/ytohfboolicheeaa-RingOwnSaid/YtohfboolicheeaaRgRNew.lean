/-
  The document's New.
-/
import Derived.Test.YtohfboolicheeaaRgRPut
namespace Go.Proofs.Ytohfboolicheeaa
open Go.Hp Go.RowKit
set_option linter.unusedVariables false
set_option linter.unusedSimpArgs false
set_option maxRecDepth 100000
set_option maxHeartbeats 2000000
namespace Rg

def insAll (l : List Pt) : List Pt := l.foldl (fun a p => insP p a) []
theorem insAll_snoc (l : List Pt) (p : Pt) : insAll (l ++ [p]) = insP p (insAll l) := by unfold insAll; rw [List.foldl_append]; rfl
theorem insP_len (p : Pt) (l : List Pt) : (insP p l).length = l.length + 1 := by have := (insP_perm p l).length_eq; simpa using this
theorem insAll_len : ∀ l : List Pt, (insAll l).length = l.length := by
  intro l
  have := (foldl_ins l [] List.Pairwise.nil).2.length_eq
  simpa [insAll] using this

section
variable {w0 w : World} {L : List HProp}
theorem rp_cell {b : Bool} {g : Nat} {sv : Value} {c : Cf} {A B : List Pt} (H : At w0 ((if b = true then RP g sv c A else RP g sv c B) :: L) w) : w.cell? ⟨g, 0, none⟩ = some sv := by
  have key : ∀ X, At w0 (RP g sv c X :: L) w → w.cell? ⟨g, 0, none⟩ = some sv := by
    intro X HX
    obtain ⟨a1, n1, q1, H1⟩ := rp_open HX
    have := cells_of (c := [sv, .int .i64 c.F, .int .i64 c.P, .int .i64 c.B, .int .i64 c.K, .int .i64 c.R, .slice a1 n1 q1]) H1.get0 0 sv rfl
    rwa [Addr.add_lit] at this
  cases b with
  | false => exact key _ H
  | true => exact key _ H

theorem rnew {v : Value} {c : Cf} {S : List Int} (hv : RecsAt w v 1 (S.map iC)) (H : At w0 L w) :
    Calls Try.prog 44 #[.agg #[v, .int .i64 c.F, .int .i64 c.P, .int .i64 c.B, .int .i64 c.K, .int .i64 c.R]] w (NewPost 45 81 w0 L c S) := by
  obtain ⟨W, rfl⟩ : ∃ W : World, W = w := ⟨_, rfl⟩
  have HF := At.of W
  have H0 := Lib.hid H
  obtain ⟨ad, cap, rfl, c1, c2, c3⟩ := hv.value
  rw [List.length_map] at c1 c3 hv ⊢
  have HV := Lib.hid hv
  obtain ⟨cF, cP, cB, cK, cR⟩ := c
  dsimp only
  clear H hv c3 c1 c2
  go_enter Try.func44, Try.ntmps44
  go_wp2_with (first | ((with_reducible refine k_box (T := 29) ?_); refine st_box rfl _ _ rfl _ rfl HF ?_; (clear HF; intro g1 w HF K hK; simp only [Value.cells, Act.eval, Value.cells, Array.getD_eq_getD_getElem?, List.getElem?_toArray, List.getElem?_cons_succ, List.getElem?_cons_zero, Option.getD_some] at HF; go_simp)) | ((with_reducible refine k_load (T := 29) ?_); refine st_row rfl _ _ rfl _ rfl a29 6 s29 HF 0 rfl rfl ?_; (intro K hK; go_simp)) | ((with_reducible refine k_load (T := 29) ?_); refine st_loads rfl _ _ rfl _ _ rfl a29 6 s29 HF 0 rfl ?_ ?_; (simp); (intro K hK; go_simp)))
  refine (isC (c := ⟨cF, cP, cB, cK, cR⟩) (HV.out.ext (HF.ext 1 rfl)) HF).mono ?_
  rintro e w2 ⟨r, rfl, hr, HX⟩
  clear HF
  have HF := HX
  clear HX
  have HR := Lib.hid hr
  clear hr
  cases r with
  | false =>
    go_wp2_with fail
    go_ret2
    exact .inr ⟨rfl, (fun h => absurd (HR.out.2 h) (by simp)), (HF.sel 2 [1]).lift0 H0.out⟩
  | true =>
    have hRC := HR.out.1 rfl
    have HC := Lib.hid hRC
    have hP := hRC.p
    have hlS : S.length ≤ 64 := by have := hRC.n.2; omega
    have hSS0 := rising_sort hRC.s
    dsimp only at hP
    obtain ⟨P, rfl⟩ : ∃ P : Nat, cP = P := ⟨cP.toNat, by omega⟩
    clear HR hRC
    have hlen : (sortI S).length = S.length := (sortI_perm S).length_eq
    go_wp2_with (first | ((with_reducible refine k_load (T := 29) ?_); refine st_row rfl _ _ rfl _ rfl a29 6 s29 HF 0 rfl rfl ?_; (intro K hK; go_simp)) | ((with_reducible refine k_load (T := 29) ?_); refine st_loads rfl _ _ rfl _ _ rfl a29 6 s29 HF 0 rfl ?_ ?_; (simp); (intro K hK; go_simp)) | ((with_reducible refine k_box (T := 45) ?_); refine st_box rfl _ _ rfl _ rfl HF ?_; (clear HF; intro gr w HF K hK; simp only [Value.cells, Act.eval, Value.cells, Array.getD_eq_getD_getElem?, List.getElem?_toArray, List.getElem?_cons_succ, List.getElem?_cons_zero, Option.getD_some] at HF; go_simp)) | ((with_reducible refine k_load ?_); (first | refine st_load rfl _ _ rfl _ _ rfl ?_ HF 0 rfl rfl ?_ | refine st_load rfl _ _ rfl _ _ rfl ?_ HF 1 rfl rfl ?_); (kernel_rfl); (intro K hK; go_simp)))
    obtain ⟨SS, hSS⟩ : ∃ SS, sortI S = SS := ⟨_, rfl⟩
    have hso := rising (HV.out.ext (HF.ext 2 rfl)) (by omega) HF
    rw [hSS0] at hso
    rw [hSS] at hso hlen
    have HSS := Lib.hid hSS
    clear hSS hSS0
    refine hso.mono ?_
    rintro e w3 ⟨v3, rfl, HX⟩
    obtain ⟨sa, sc, hv3, _, _, _, hsa, _⟩ := own_value HX
    subst hv3
    clear HF hso
    have HF := HX
    clear HX
    have HSA := Lib.hid hsa
    clear hsa
    rw [← hlen] at hlS
    clear hlen
    -- (from here on printed by gen/mkrnew.py)
    go_wp2_with (first | ((with_reducible refine k_load ?_); (first | refine st_load rfl _ _ rfl _ _ rfl ?_ HF 1 rfl rfl ?_ | refine st_load rfl _ _ rfl _ _ rfl ?_ HF 2 rfl rfl ?_); (kernel_rfl); (intro K hK; go_simp)) | ((with_reducible refine k_store ?_); refine st_store rfl _ _ _ rfl _ _ rfl _ rfl rfl ?_ HF 1 rfl ?_ ?_; (kernel_rfl); (simp); (clear HF; intro w HF K hK; simp only [List.set_cons_zero, List.set_cons_succ, List.setIfInBounds_toArray, Act.eval, Value.cells, Array.getD_eq_getD_getElem?, List.getElem?_toArray, List.getElem?_cons_succ, List.getElem?_cons_zero, Option.getD_some] at HF; go_simp)))
    replace HF := op_nil 81 HF
    replace HF : At W (Blk gr (.cells #[.slice sa SS.length sc, .int .i64 cF, .int .i64 P, .int .i64 cB, .int .i64 cK, .int .i64 cR, .slice none 0 0] 45 (0, 0)) :: OP 81 (.slice none 0 0) [] :: OI (.slice sa SS.length sc) SS :: Blk g1 (.cells #[.slice ad S.length cap, .int .i64 cF, .int .i64 P, .int .i64 cB, .int .i64 cK, .int .i64 cR] 29 (0, 0)) :: Arg W :: []) _ := HF.sel 5 [2, 0, 1, 3, 4]
    go_loopw [5] (fun i wr => ∃ (k : Nat) (acc : List Pt) (b3 : Option Addr) (m3 p3 : Nat), k ≤ SS.length ∧ i = .int .i64 k ∧ Hid (acc = ptsOf (SS.take k) P) ∧ acc.length ≤ k * 64 ∧
      At W (Blk gr (.cells #[.slice sa SS.length sc, .int .i64 cF, .int .i64 P, .int .i64 cB, .int .i64 cK, .int .i64 cR, .slice b3 m3 p3] 45 (0, 0)) :: OP 81 (.slice b3 m3 p3) (insAll acc) :: OI (.slice sa SS.length sc) SS :: Blk g1 (.cells #[.slice ad S.length cap, .int .i64 cF, .int .i64 P, .int .i64 cB, .int .i64 cK, .int .i64 cR] 29 (0, 0)) :: Arg W :: []) wr) (fun i _ => SS.length - (intOf i).toNat)
    case atStart => exact ⟨0, [], _, _, _, Nat.zero_le _, rfl, Lib.hid (by simp [ptsOf]), by simp, HF⟩
    case round =>
      clear HF
      obtain ⟨k, acc, b3, m3, p3, hk, rfl, HA, hacc, HF⟩ := hrel
      by_cases hlt : k < SS.length
      · have gk : (k : Int) < SS.length := by omega
        obtain ⟨s, hs⟩ : ∃ s, SS[k]? = some s := ⟨_, List.getElem?_eq_getElem hlt⟩
        obtain ⟨ba, rfl⟩ := HSA.out (by omega)
        have Hc := Lib.hid (fun (w2 : World) (M : List HProp) (HM : At W (OI (.slice (some ba) SS.length sc) SS :: M) w2) => recs_int (oi_recs HM) hs)
        have HA2 := Lib.hid (show acc ++ (List.range P).map (fun n : Nat => (⟨hash2 s n, s, n⟩ : Pt)) = ptsOf (SS.take (k + 1)) P from by rw [pts_step hs, HA.out])
        clear hs HA
        go_wp2_with (first | ((with_reducible refine k_load ?_); refine st_load rfl _ _ rfl _ _ rfl ?_ HF 0 rfl rfl ?_; (kernel_rfl); (intro K hK; go_simp)))
        go_loopw [6] (fun j wr => ∃ (m : Nat) (b3 : Option Addr) (m3 p3 : Nat), m ≤ P ∧ j = .int .i64 m ∧
          At W (Blk gr (.cells #[.slice (some ba) SS.length sc, .int .i64 cF, .int .i64 P, .int .i64 cB, .int .i64 cK, .int .i64 cR, .slice b3 m3 p3] 45 (0, 0)) :: OP 81 (.slice b3 m3 p3) (insAll (acc ++ (List.range m).map (fun n : Nat => (⟨hash2 s n, s, n⟩ : Pt)))) :: OI (.slice (some ba) SS.length sc) SS :: Blk g1 (.cells #[.slice ad S.length cap, .int .i64 cF, .int .i64 P, .int .i64 cB, .int .i64 cK, .int .i64 cR] 29 (0, 0)) :: Arg W :: []) wr) (fun j _ => P - (intOf j).toNat)
        case atStart => exact ⟨0, _, _, _, Nat.zero_le _, rfl, by rw [List.range_zero, List.map_nil, List.append_nil]; exact HF⟩
        case round =>
          clear HF
          obtain ⟨m, b4, m4, p4, hm, rfl, HF⟩ := hrel
          by_cases hlt2 : m < P
          · have gm : (m : Int) < P := by omega
            obtain ⟨X, hX⟩ : ∃ X, acc ++ (List.range m).map (fun n : Nat => (⟨hash2 s n, s, n⟩ : Pt)) = X := ⟨_, rfl⟩
            have hXl : (insAll X).length ≤ 10000 := by rw [insAll_len, ← hX, List.length_append, List.length_map, List.length_range]; omega
            rw [hX] at HF
            have HX2 := Lib.hid (show insP (⟨hash2 s m, s, m⟩ : Pt) (insAll X) = insAll (acc ++ (List.range (m + 1)).map (fun n : Nat => (⟨hash2 s n, s, n⟩ : Pt))) from by rw [range_snoc, ← List.append_assoc, hX, insAll_snoc])
            clear hX
            obtain ⟨Y, hY⟩ : ∃ Y, insAll X = Y := ⟨_, rfl⟩
            rw [hY] at HF HX2 hXl
            clear hY
            obtain ⟨h1, hh1⟩ : ∃ h, numS hash0 s = h := ⟨_, rfl⟩
            have hl1 : h1 < 4294967296 := by rw [← hh1]; exact numS_lt _ (by decide)
            obtain ⟨h, hh⟩ : ∃ h, numS h1 m = h := ⟨_, rfl⟩
            have HN1 := Lib.hid (show ∀ (w2 : World) (M : List HProp) (HM : At W M w2), Calls Try.prog 50 #[.int .i64 2166136261, .int .i64 s] w2 (Ret W (.int .i64 (h1 : Nat)) M) from fun w2 M HM => by have := number (h := 2166136261) HM (by decide) s; rw [show numS 2166136261 s = h1 from hh1] at this; exact this)
            have HN2 := Lib.hid (fun (w2 : World) (M : List HProp) (HM : At W M w2) => number HM hl1 (m : Int))
            rw [hh] at HN2
            have HP := Lib.hid (fun (w2 : World) (M : List HProp) (HM : At W (RP gr (.slice (some ba) SS.length sc) ⟨cF, P, cB, cK, cR⟩ Y :: M) w2) => put (p := (⟨h, s, m⟩ : Pt)) hXl HM)
            have hhh : hash2 s m = h := by unfold hash2; rw [hh1, hh]
            rw [hhh] at HX2
            clear hh hh1 hl1 hhh
            go_wp2_with (first | ((with_reducible refine k_load ?_); refine st_load rfl _ _ rfl _ _ rfl ?_ HF 3 rfl rfl ?_; (kernel_rfl); (intro K hK; go_simp)))
            apply wp_region_eff [22] (fun i => (#[[], [], [], [], [], [], [], [], [], [], [], [], [], [], [], [], [], [], [], [], [], [], []] : Array (List Nat)).getD i []) (fun val i => (([_, _, _, _, _, .slice (some ba) SS.length sc, _, _, .int .i64 s, .int .i64 h1, _, .int .i64 h, _, _, _, _, .slice (some ba) SS.length sc, _, _, .int .i64 s, _, .agg #[.int .i64 h, .int .i64 s, .int .i64 m], val 22]) : List Value).toArray.getD i undef) (fun E val => At W ((if E 22 = true then RP gr (.slice (some ba) SS.length sc) ⟨cF, P, cB, cK, cR⟩ (insP (⟨h, s, m⟩ : Pt) Y) else RP gr (.slice (some ba) SS.length sc) ⟨cF, P, cB, cK, cR⟩ Y) :: OI (.slice (some ba) SS.length sc) SS :: Blk g1 (.cells #[.slice ad S.length cap, .int .i64 cF, .int .i64 P, .int .i64 cB, .int .i64 cK, .int .i64 cR] 29 (0, 0)) :: Arg W :: [])) (by kernel_rfl) (by kernel_rfl) (by kernel_rfl) (by kernel_rfl) (rp_mk (c := ⟨cF, P, cB, cK, cR⟩) HF)
            case step =>
              iterate 22 (refine ⟨eff_pl rfl (fun _ => by rfl) fun E val hn T ds w K H hk ho hK => ?_, ?_⟩; rotate_left)
              refine ⟨eff_mk rfl (fun _ => by rfl) fun E val hE0 hcl hn T ds w K H hk ho hK => ?_, ?_⟩; rotate_left
              exact trivial
              · have o4 := ho 4 (by kernel_rfl); clear ho; simp [know, dstAt, Region.binds] at hk o4; go_simp; exact hK _ H
              · have o4 := ho 4 (by kernel_rfl); clear ho; simp [know, dstAt, Region.binds] at hk o4; go_simp; exact hK _ H
              · clear ho; simp [know, dstAt, Region.binds] at hk; go_simp; exact hK _ H
              · clear ho; simp [know, dstAt, Region.binds] at hk; go_simp; exact hK _ H
              · clear ho; simp [know, dstAt, Region.binds] at hk; go_simp; exact hK _ H
              · clear ho; simp [know, dstAt, Region.binds] at hk
                (refine op_load1T rfl hk (by kernel_rfl) (rp_cell H) ?_; exact hK _ H)
              · have o5 := ho 5 (by kernel_rfl); clear ho; simp [know, dstAt, Region.binds] at hk o5; go_simp; exact hK _ H
              · clear ho; simp [know, dstAt, Region.binds] at hk; go_simp; exact hK _ H
              · clear ho; simp [know, dstAt, Region.binds] at hk
                (refine op_load1T rfl hk (by kernel_rfl) (Hc.out _ _ (H.pick 1 rfl)) ?_; exact hK _ H)
              · clear ho; simp [know, dstAt, Region.binds] at hk
                (go_simp; refine (HN1.out _ _ H).mono ?_; rintro e w' ⟨rfl, H⟩; exact hK _ H)
              · have o6 := ho 6 (by kernel_rfl); clear ho; simp [know, dstAt, Region.binds] at hk o6; go_simp; exact hK _ H
              · clear ho; simp [know, dstAt, Region.binds] at hk
                (go_simp; refine (HN2.out _ _ H).mono ?_; rintro e w' ⟨rfl, H⟩; exact hK _ H)
              · have o4 := ho 4 (by kernel_rfl); clear ho; simp [know, dstAt, Region.binds] at hk o4; go_simp; exact hK _ H
              · clear ho; simp [know, dstAt, Region.binds] at hk; go_simp; exact hK _ H
              · clear ho; simp [know, dstAt, Region.binds] at hk; go_simp; exact hK _ H
              · clear ho; simp [know, dstAt, Region.binds] at hk; go_simp; exact hK _ H
              · clear ho; simp [know, dstAt, Region.binds] at hk
                (refine op_load1T rfl hk (by kernel_rfl) (rp_cell H) ?_; exact hK _ H)
              · have o5 := ho 5 (by kernel_rfl); clear ho; simp [know, dstAt, Region.binds] at hk o5; go_simp; exact hK _ H
              · clear ho; simp [know, dstAt, Region.binds] at hk; go_simp; exact hK _ H
              · clear ho; simp [know, dstAt, Region.binds] at hk
                (refine op_load1T rfl hk (by kernel_rfl) (Hc.out _ _ (H.pick 1 rfl)) ?_; exact hK _ H)
              · have o6 := ho 6 (by kernel_rfl); clear ho; simp [know, dstAt, Region.binds] at hk o6; go_simp; exact hK _ H
              · clear ho; simp [know, dstAt, Region.binds] at hk; go_simp; exact hK _ H
              · clear ho; simp [know, dstAt, Region.binds] at hk
                (simp only [hE0, Bool.false_eq_true, if_false] at H); go_simp; refine (HP.out _ _ H).mono ?_; rintro e w' ⟨rfl, H⟩; refine hK _ _ ?_; have t22 : updE E 22 22 = true := rfl; simp only [t22, if_true]; exact H
            case ins =>
              iterate 22 (refine ⟨ins_pl rfl (fun _ _ _ => rfl), ?_⟩)
              refine ⟨ins_mk rfl (fun _ => rfl), ?_⟩
              exact trivial
            case jns =>
              iterate 22 (refine ⟨j_pl (fun _ _ _ => rfl), ?_⟩)
              refine ⟨j_mk rfl, ?_⟩
              exact trivial
            case fin =>
              intro E val w5 hE H
              have e22 := hE 22 (by decide)
              simp only [e22, if_true] at H
              clear hE e22 HF
              obtain ⟨a5, n5, c5, HF⟩ := rp_open H
              clear H
              dsimp only at HF
              simp [putAll, Act.put]
              go_wp2_with fail
              go_roundw
              case rel => exact ⟨m + 1, a5, n5, c5, by omega, rfl, by rw [← HX2.out]; exact HF⟩
              case measure => simp [intOf]; omega
          · have hm8 : m = P := by omega
            subst hm8
            have gm : ¬ (m : Int) < m := by omega
            go_wp2_with (first | ((with_reducible refine k_load ?_); refine st_load rfl _ _ rfl _ _ rfl ?_ HF 3 rfl rfl ?_; (kernel_rfl); (intro K hK; go_simp)))
            go_roundw
            case rel => exact ⟨k + 1, _, b4, m4, p4, by omega, rfl, Lib.hid HA2.out, by rw [List.length_append, List.length_map, List.length_range]; omega, HF⟩
            case measure => simp [intOf]; omega
      · have hk8 : k = SS.length := by omega
        subst hk8
        rw [List.take_of_length_le (Nat.le_refl _)] at HA
        go_wp2_with (first | ((with_reducible refine k_load ?_); refine st_load rfl _ _ rfl _ _ rfl ?_ HF 0 rfl rfl ?_; (kernel_rfl); (intro K hK; go_simp)))
        go_ret2
        refine .inl ⟨gr, rfl, HC.out, ?_⟩
        have HG := rgr_mk (c := ⟨cF, P, cB, cK, cR⟩) (HF.sel 5 [0, 2, 1, 4])
        dsimp only
        rw [HSS.out, show ((P : Int).toNat) = P from rfl, ← HA.out, ← sortP_ins]
        exact HG.lift1 H0.out
end
end Rg
end Go.Proofs.Ytohfboolicheeaa
