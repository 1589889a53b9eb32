/-
  The program's New.
-/
import Derived.Test.YtohfboolicheeaaRgRight
import Derived.Test.YtohfboolicheeaaRgSorted
namespace Go.Proofs.Ytohfboolicheeaa
open Go.Hp Go.RowKit
set_option linter.unusedVariables false
set_option linter.unusedSimpArgs false
set_option maxRecDepth 100000
set_option maxHeartbeats 2000000
namespace Rg

/-- A ring: its block, its servers, its points. -/
def RgR (t tp : TypeId) (g : Nat) (c : Cf) (S : List Int) (pts : List Pt) : HProp := fun hp => ∃ (s1 : Option Addr) (s2 s3 : Nat) (p1 : Option Addr) (p2 p3 : Nat),
  Stars [Blk g (.cells #[.slice s1 s2 s3, .int .i64 c.F, .int .i64 c.P, .int .i64 c.B, .int .i64 c.K, .int .i64 c.R, .slice p1 p2 p3] t (0, 0)), OI (.slice s1 s2 s3) S, OP tp (.slice p1 p2 p3) pts] hp
def NewPost (t tp : TypeId) (w0 : World) (L : List HProp) (c : Cf) (S : List Int) (e : Ending) (w' : World) : Prop :=
  (∃ g, e = .returned (.tuple #[.pointer (some ⟨g, 0, none⟩), .int .i64 0]) ∧ RightC c S ∧ At w0 (RgR t tp g c (sortI S) (sortP (ptsOf (sortI S) c.P.toNat)) :: L) w') ∨
  (e = .returned (.tuple #[.pointer none, .int .i64 20]) ∧ ¬ RightC c S ∧ At w0 L w')
section
variable {w0 w : World} {L : List HProp}
theorem rgr_mk {t tp : TypeId} {g : Nat} {c : Cf} {S : List Int} {pts : List Pt} {v1 v2 : Value} (H : At w0 (Blk g (.cells #[v1, .int .i64 c.F, .int .i64 c.P, .int .i64 c.B, .int .i64 c.K, .int .i64 c.R, v2] t (0, 0)) :: OI v1 S :: OP tp v2 pts :: L) w) : At w0 (RgR t tp g c S pts :: L) w := by
  obtain ⟨a1, n1, c1, rfl⟩ := own_form (H.pick 1 rfl)
  obtain ⟨a2, n2, c2, rfl⟩ := own_form (H.pick 2 rfl)
  exact At.imp (At.fold (M := [_, _, _]) H) fun _ hh => ⟨a1, n1, c1, a2, n2, c2, hh⟩
theorem rgr_open {t tp : TypeId} {g : Nat} {c : Cf} {S : List Int} {pts : List Pt} (H : At w0 (RgR t tp g c S pts :: L) w) : ∃ (s1 : Option Addr) (s2 s3 : Nat) (p1 : Option Addr) (p2 p3 : Nat),
    At w0 (Blk g (.cells #[.slice s1 s2 s3, .int .i64 c.F, .int .i64 c.P, .int .i64 c.B, .int .i64 c.K, .int .i64 c.R, .slice p1 p2 p3] t (0, 0)) :: OI (.slice s1 s2 s3) S :: OP tp (.slice p1 p2 p3) pts :: L) w := by
  obtain ⟨a1, H⟩ := At.ex H
  obtain ⟨n1, H⟩ := At.ex H
  obtain ⟨c1, H⟩ := At.ex H
  obtain ⟨a2, H⟩ := At.ex H
  obtain ⟨n2, H⟩ := At.ex H
  obtain ⟨c2, H⟩ := At.ex H
  exact ⟨a1, n1, c1, a2, n2, c2, At.flat H⟩

/-- A slice of two numbers. -/
def Sl2 (v : Value) (a b : Int) : HProp := fun hp => ∃ g : Nat, v = .slice (some ⟨g, 0, none⟩) 2 2 ∧ Blk g (.cells #[.int .i64 a, .int .i64 b] 3 (0, 0)) hp
theorem sl2_recs {v : Value} {a b : Int} (H : At w0 (Sl2 v a b :: L) w) : RecsAt w v 1 ([a, b].map iC) := by
  obtain ⟨g, H1⟩ := At.ex H
  obtain ⟨hv, H2⟩ := At.and H1
  subst hv
  refine ⟨⟨some ⟨g, 0, none⟩, 2, rfl, Nat.le_refl _, by simp [maxLen], fun _ => ⟨_, rfl⟩, fun b0 hb j u hj => ?_⟩, by intro r hr; obtain ⟨e, _, rfl⟩ := List.mem_map.1 hr; rfl⟩
  cases hb
  exact cells_of (c := [.int .i64 a, .int .i64 b]) H2.get0 j u hj
theorem hash2_eq (s n : Int) : hashB hash0 ([s, n].flatMap bytes8) = hash2 s n := by
  unfold hash2 numS
  rw [List.flatMap_cons, List.flatMap_cons, List.flatMap_nil, List.append_nil, hashB_app]
theorem op_snoc {tp : TypeId} {v : Value} {l : List Pt} {p : Pt} (H : At w0 (OwnRow tp 3 v (l.length + 1) (pCs l ++ p.cells) :: L) w) : At w0 (OP tp v (l ++ [p]) :: L) w := by
  unfold OP
  rw [pCs_app, List.length_append]
  have e : pCs [p] = p.cells := by unfold pCs; simp
  rw [e]
  exact H
theorem pt_len (p : Pt) : p.cells.length = 1 * 3 := rfl
theorem pt_one (p : Pt) : ∀ u ∈ p.cells, u.oneCell' = true := by
  intro u hu
  simp only [Pt.cells, List.mem_cons, List.not_mem_nil, or_false] at hu
  rcases hu with rfl | rfl | rfl <;> rfl
theorem pts_step {S : List Int} {k : Nat} {s : Int} (h : S[k]? = some s) (p : Nat) : ptsOf (S.take (k + 1)) p = ptsOf (S.take k) p ++ (List.range p).map fun n : Nat => (⟨hash2 s n, s, n⟩ : Pt) := by
  unfold ptsOf
  rw [List.take_add_one, h, Option.toList_some, List.flatMap_append, List.flatMap_cons, List.flatMap_nil, List.append_nil]
theorem range_snoc (s : Int) (m : Nat) : (List.range (m + 1)).map (fun n : Nat => (⟨hash2 s n, s, n⟩ : Pt)) = (List.range m).map (fun n : Nat => (⟨hash2 s n, s, n⟩ : Pt)) ++ [⟨hash2 s m, s, m⟩] := by
  rw [List.range_succ, List.map_append]
  rfl

theorem new {v : Value} {c : Cf} {S : List Int} (hv : RecsAt w v 1 (S.map iC)) (H : At w0 L w) :
    Calls Try.prog 41 #[.agg #[v, .int .i64 c.F, .int .i64 c.P, .int .i64 c.B, .int .i64 c.K, .int .i64 c.R]] w (NewPost 84 87 w0 L c S) := by
  obtain ⟨W, rfl⟩ : ∃ W : World, W = w := ⟨_, rfl⟩
  have HF := At.of W
  have H0 := Lib.hid H
  obtain ⟨ad, cap, rfl, c1, c2, c3⟩ := hv.value
  rw [List.length_map] at c1 c3 hv ⊢
  have HV := Lib.hid hv
  obtain ⟨cF, cP, cB, cK, cR⟩ := c
  dsimp only
  clear H hv c3 c1 c2
  have tok : True := trivial
  go_enter Try.func41, Try.ntmps41
  go_wp2_with (first | ((with_reducible refine k_box (T := 29) ?_); refine st_box rfl _ _ rfl _ rfl HF ?_; (clear HF; intro g1 w HF K hK; simp only [Value.cells, Act.eval, Value.cells, Array.getD_eq_getD_getElem?, List.getElem?_toArray, List.getElem?_cons_succ, List.getElem?_cons_zero, Option.getD_some] at HF; go_simp)) | ((with_reducible refine k_load (T := 29) ?_); refine st_row rfl _ _ rfl _ rfl a29 6 s29 HF 0 rfl rfl ?_; (intro K hK; go_simp)) | ((with_reducible refine k_load (T := 29) ?_); refine st_loads rfl _ _ rfl _ _ rfl a29 6 s29 HF 0 rfl ?_ ?_; (simp); (intro K hK; go_simp)))
  refine (right (c := ⟨cF, cP, cB, cK, cR⟩) (HV.out.ext (HF.ext 1 rfl)) HF).mono ?_
  rintro e w2 ⟨r, rfl, hr, HX⟩
  clear HF
  have HF := HX
  clear HX
  have HR := Lib.hid hr
  clear hr
  cases r with
  | false =>
    go_wp2_with fail
    go_ret2
    exact .inr ⟨rfl, (fun h => absurd (HR.out.2 h) (by simp)), (HF.sel 2 [1]).lift0 H0.out⟩
  | true =>
    have hRC := HR.out.1 rfl
    have HC := Lib.hid hRC
    have hP := hRC.p
    have hlS : S.length ≤ 64 := by have := hRC.n.2; omega
    dsimp only at hP
    obtain ⟨P, rfl⟩ : ∃ P : Nat, cP = P := ⟨cP.toNat, by omega⟩
    clear HR hRC
    have hlen : (sortI S).length = S.length := (sortI_perm S).length_eq
    go_wp2_with (first | ((with_reducible refine k_load ?_); refine st_load rfl _ _ rfl _ _ rfl ?_ HF 0 rfl rfl ?_; (kernel_rfl); (intro K hK; go_simp)))
    obtain ⟨SS, hSS⟩ : ∃ SS, sortI S = SS := ⟨_, rfl⟩
    have hso := sortedI (HV.out.ext (HF.ext 1 rfl)) (by omega) HF
    rw [hSS] at hso hlen
    have HSS := Lib.hid hSS
    clear hSS
    refine hso.mono ?_
    rintro e w3 ⟨v3, rfl, HX⟩
    obtain ⟨sa, sc, hv3, _, _, _, hsa, _⟩ := own_value HX
    subst hv3
    clear HF hso
    have HF := HX
    clear HX
    have HSA := Lib.hid hsa
    clear hsa
    rw [← hlen] at hlS
    clear hlen
    -- (from here on printed by gen/mknew.py)
    go_wp2_with (first | ((with_reducible refine k_load (T := 29) ?_); refine st_row rfl _ _ rfl _ rfl a29 6 s29 HF 1 rfl rfl ?_; (intro K hK; go_simp)) | ((with_reducible refine k_load (T := 29) ?_); refine st_loads rfl _ _ rfl _ _ rfl a29 6 s29 HF 1 rfl ?_ ?_; (simp); (intro K hK; go_simp)) | ((with_reducible refine k_store ?_); refine st_store rfl _ _ _ rfl _ _ rfl _ rfl rfl ?_ HF 1 rfl ?_ ?_; (kernel_rfl); (simp); (clear HF; intro w HF K hK; simp only [List.set_cons_zero, List.set_cons_succ, List.setIfInBounds_toArray, Act.eval, Value.cells, Array.getD_eq_getD_getElem?, List.getElem?_toArray, List.getElem?_cons_succ, List.getElem?_cons_zero, Option.getD_some] at HF; go_simp)) | ((with_reducible refine k_box (T := 84) ?_); refine st_box rfl _ _ rfl _ rfl HF ?_; (clear HF; intro gr w HF K hK; simp only [Value.cells, Act.eval, Value.cells, Array.getD_eq_getD_getElem?, List.getElem?_toArray, List.getElem?_cons_succ, List.getElem?_cons_zero, Option.getD_some] at HF; go_simp)) | ((with_reducible refine k_load ?_); (first | refine st_load rfl _ _ rfl _ _ rfl ?_ HF 1 rfl rfl ?_ | refine st_load rfl _ _ rfl _ _ rfl ?_ HF 2 rfl rfl ?_); (kernel_rfl); (intro K hK; go_simp)))
    replace HF := op_nil 87 HF
    replace HF : At W (OP 87 (.slice none 0 0) [] :: Blk gr (.cells #[.slice sa SS.length sc, .int .i64 cF, .int .i64 P, .int .i64 cB, .int .i64 cK, .int .i64 cR, .slice none 0 0] 84 (0, 0)) :: OI (.slice sa SS.length sc) SS :: Blk g1 (.cells #[.slice sa SS.length sc, .int .i64 cF, .int .i64 P, .int .i64 cB, .int .i64 cK, .int .i64 cR] 29 (0, 0)) :: Arg W :: []) _ := HF
    go_loopw [21] (fun i wr => ∃ (k : Nat) (acc : List Pt) (b3 : Option Addr) (m3 p3 : Nat), k ≤ SS.length ∧ i = .int .i64 k ∧ Hid (acc = ptsOf (SS.take k) P) ∧ acc.length ≤ k * 64 ∧
      At W (OP 87 (.slice b3 m3 p3) acc :: Blk gr (.cells #[.slice sa SS.length sc, .int .i64 cF, .int .i64 P, .int .i64 cB, .int .i64 cK, .int .i64 cR, .slice b3 m3 p3] 84 (0, 0)) :: OI (.slice sa SS.length sc) SS :: Blk g1 (.cells #[.slice sa SS.length sc, .int .i64 cF, .int .i64 P, .int .i64 cB, .int .i64 cK, .int .i64 cR] 29 (0, 0)) :: Arg W :: []) wr) (fun i _ => SS.length - (intOf i).toNat)
    case atStart => exact ⟨0, [], _, _, _, Nat.zero_le _, rfl, Lib.hid (by simp [ptsOf]), by simp, HF⟩
    case round =>
      clear HF
      obtain ⟨k, acc, b3, m3, p3, hk, rfl, HA, hacc, HF⟩ := hrel
      by_cases hlt : k < SS.length
      · have gk : (k : Int) < SS.length := by omega
        obtain ⟨s, hs⟩ : ∃ s, SS[k]? = some s := ⟨_, List.getElem?_eq_getElem hlt⟩
        obtain ⟨ba, rfl⟩ := HSA.out (by omega)
        have Hc := Lib.hid (fun (w2 : World) (M : List HProp) (HM : At W (OI (.slice (some ba) SS.length sc) SS :: M) w2) => recs_int (oi_recs HM) hs)
        have HA2 := Lib.hid (show acc ++ (List.range P).map (fun n : Nat => (⟨hash2 s n, s, n⟩ : Pt)) = ptsOf (SS.take (k + 1)) P from by rw [pts_step hs, HA.out])
        clear hs HA
        go_wp2_with (first | ((with_reducible refine k_load ?_); refine st_load1 rfl _ _ rfl _ rfl rfl (Hc.out _ _ (HF.pick 2 rfl)) ?_; (intro K hK; go_simp)) | ((with_reducible refine k_load ?_); refine st_load rfl _ _ rfl _ _ rfl ?_ HF 3 rfl rfl ?_; (kernel_rfl); (intro K hK; go_simp)))
        go_loopw [27] (fun j wr => ∃ (m : Nat) (b3 : Option Addr) (m3 p3 : Nat), m ≤ P ∧ j = .int .i64 m ∧
          At W (OP 87 (.slice b3 m3 p3) (acc ++ (List.range m).map (fun n : Nat => (⟨hash2 s n, s, n⟩ : Pt))) :: Blk gr (.cells #[.slice (some ba) SS.length sc, .int .i64 cF, .int .i64 P, .int .i64 cB, .int .i64 cK, .int .i64 cR, .slice b3 m3 p3] 84 (0, 0)) :: OI (.slice (some ba) SS.length sc) SS :: Blk g1 (.cells #[.slice (some ba) SS.length sc, .int .i64 cF, .int .i64 P, .int .i64 cB, .int .i64 cK, .int .i64 cR] 29 (0, 0)) :: Arg W :: []) wr) (fun j _ => P - (intOf j).toNat)
        case atStart => exact ⟨0, _, _, _, Nat.zero_le _, rfl, by rw [List.range_zero, List.map_nil, List.append_nil]; exact HF⟩
        case round =>
          clear HF
          obtain ⟨m, b4, m4, p4, hm, rfl, HF⟩ := hrel
          by_cases hlt2 : m < P
          · have gm : (m : Int) < P := by omega
            obtain ⟨X, hX⟩ : ∃ X, acc ++ (List.range m).map (fun n : Nat => (⟨hash2 s n, s, n⟩ : Pt)) = X := ⟨_, rfl⟩
            have hXl : X.length ≤ 5000 := by rw [← hX, List.length_append, List.length_map, List.length_range]; omega
            rw [hX] at HF
            have HX2 := Lib.hid (show X ++ [(⟨hash2 s m, s, m⟩ : Pt)] = acc ++ (List.range (m + 1)).map (fun n : Nat => (⟨hash2 s n, s, n⟩ : Pt)) from by rw [range_snoc, ← List.append_assoc, hX])
            clear hX
            obtain ⟨h, hh⟩ : ∃ h, hash2 s m = h := ⟨_, rfl⟩
            have HNm := Lib.hid (fun (w2 : World) (M : List HProp) (v : Value) (hv : RecsAt w2 v 1 ([s, (m : Int)].map iC)) (HM : At W M w2) => numbers (l := [s, (m : Int)]) hv (by simp) HM)
            rw [hash2_eq, hh] at HNm
            rw [hh] at HX2
            clear hh
            go_wp2_with fail
            apply wp_region_eff [4, 7, 8, 12, 13, 16] (fun i => (#[[], [], [], [], [], [], [], [], [7], [], [], [7, 8], [7, 8], [4, 7, 8, 12], [], [], [4, 7, 8, 12, 13]] : Array (List Nat)).getD i []) (fun val i => (([_, _, _, _, val 4, _, _, val 7, val 8, _, _, .agg #[.int .i64 h, .int .i64 s, .int .i64 m], val 12, val 13, _, _, val 16]) : List Value).toArray.getD i undef) (fun E val => At W (Blk gr (.cells (if E 16 = true then #[.slice (some ba) SS.length sc, .int .i64 cF, .int .i64 P, .int .i64 cB, .int .i64 cK, .int .i64 cR, val 13] else #[.slice (some ba) SS.length sc, .int .i64 cF, .int .i64 P, .int .i64 cB, .int .i64 cK, .int .i64 cR, .slice b4 m4 p4]) 84 (0, 0)) :: (if E 13 = true then OP 87 (val 13) (X ++ [(⟨h, s, m⟩ : Pt)]) else OP 87 (.slice b4 m4 p4) X) :: (if E 7 = true then Sl2 (val 7) s m else emp) :: (if E 12 = true then SlBlk (val 12) #[.int .i64 h, .int .i64 s, .int .i64 m] 87 else emp) :: (if E 8 = true then pur (val 8 = .int .i64 h) else emp) :: (if E 4 = true then pur (val 4 = .slice b4 m4 p4) else emp) :: OI (.slice (some ba) SS.length sc) SS :: Blk g1 (.cells #[.slice (some ba) SS.length sc, .int .i64 cF, .int .i64 P, .int .i64 cB, .int .i64 cK, .int .i64 cR] 29 (0, 0)) :: Arg W :: [])) (by kernel_rfl) (by kernel_rfl) (by kernel_rfl) (by kernel_rfl) ((HF.addEmp.addEmp.addEmp.addEmp).sel 8 [5, 4, 0, 1, 2, 3, 6, 7])
            case step =>
              iterate 4 (refine ⟨eff_pl rfl (fun _ => by rfl) fun E val hn T ds w K H hk ho hK => ?_, ?_⟩; rotate_left)
              refine ⟨eff_mk rfl (fun _ => by rfl) fun E val hE0 hcl hn T ds w K H hk ho hK => ?_, ?_⟩; rotate_left
              iterate 2 (refine ⟨eff_pl rfl (fun _ => by rfl) fun E val hn T ds w K H hk ho hK => ?_, ?_⟩; rotate_left)
              iterate 2 (refine ⟨eff_mk rfl (fun _ => by rfl) fun E val hE0 hcl hn T ds w K H hk ho hK => ?_, ?_⟩; rotate_left)
              iterate 3 (refine ⟨eff_pl rfl (fun _ => by rfl) fun E val hn T ds w K H hk ho hK => ?_, ?_⟩; rotate_left)
              iterate 2 (refine ⟨eff_mk rfl (fun _ => by rfl) fun E val hE0 hcl hn T ds w K H hk ho hK => ?_, ?_⟩; rotate_left)
              iterate 2 (refine ⟨eff_pl rfl (fun _ => by rfl) fun E val hn T ds w K H hk ho hK => ?_, ?_⟩; rotate_left)
              refine ⟨eff_mk rfl (fun _ => by rfl) fun E val hE0 hcl hn T ds w K H hk ho hK => ?_, ?_⟩; rotate_left
              exact trivial
              · have o4 := ho 4 (by kernel_rfl); clear ho; simp [know, dstAt, Region.binds] at hk o4; go_simp; exact hK _ H
              · have o4 := ho 4 (by kernel_rfl); clear ho; simp [know, dstAt, Region.binds] at hk o4; go_simp; exact hK _ H
              · clear ho; simp [know, dstAt, Region.binds] at hk; go_simp; exact hK _ H
              · clear ho; simp [know, dstAt, Region.binds] at hk; go_simp; exact hK _ H
              · clear ho; simp [know, dstAt, Region.binds] at hk
                (have q13 : E 13 = false := (by cases h : E 13 with | false => rfl | true => (have h2 := hcl 13 (by decide) h 4 (by decide); rw [hE0] at h2; cases h2))); (have q16 : E 16 = false := (by cases h : E 16 with | false => rfl | true => (have h2 := hcl 16 (by decide) h 4 (by decide); rw [hE0] at h2; cases h2))); (simp only [hE0, q13, q16, Bool.false_eq_true, if_false] at H); refine op_loadT (v := .slice b4 m4 p4) rfl hk ?_ H 0 rfl rfl ?_; (kernel_rfl); (refine hK _ _ ?_; have t4 : updE E 4 4 = true := rfl; have t7 : updE E 4 7 = E 7 := rfl; have t8 : updE E 4 8 = E 8 := rfl; have t12 : updE E 4 12 = E 12 := rfl; have t13 : updE E 4 13 = false := q13; have t16 : updE E 4 16 = false := q16; simp only [t4, t7, t8, t12, t13, t16, Bool.false_eq_true, if_true, if_false]; exact (At.pure rfl (H.sel 6 [0, 1, 2, 3, 4])).sel 6 [1, 2, 3, 4, 5, 0])
              · have o6 := ho 6 (by kernel_rfl); clear ho; simp [know, dstAt, Region.binds] at hk o6; go_simp; exact hK _ H
              · have o7 := ho 7 (by kernel_rfl); clear ho; simp [know, dstAt, Region.binds] at hk o7; go_simp; exact hK _ H
              · clear ho; simp [know, dstAt, Region.binds] at hk
                (simp only [hE0, Bool.false_eq_true, if_false] at H); go_simp; refine hK _ _ ?_; have t4 : updE E 7 4 = E 4 := rfl; have t7 : updE E 7 7 = true := rfl; have t8 : updE E 7 8 = E 8 := rfl; have t12 : updE E 7 12 = E 12 := rfl; have t13 : updE E 7 13 = E 13 := rfl; have t16 : updE E 7 16 = E 16 := rfl; simp only [t4, t7, t8, t12, t13, t16, Bool.false_eq_true, if_true, if_false]; exact ((At.imp (H.alloc _) fun _ hh => (⟨_, rfl, hh⟩ : Sl2 (.slice (some ⟨_, 0, none⟩) 2 2) s m _)).sel 7 [1, 2, 0, 4, 5, 6])
              · clear ho; simp [know, dstAt, Region.binds] at hk
                (have e7 := hn 7 (by decide)); (simp only [hE0, e7, Bool.false_eq_true, if_true, if_false] at H); go_simp; refine (HNm.out _ _ _ (sl2_recs (H.pick 2 rfl)) H).mono ?_; rintro e w' ⟨rfl, H⟩; refine hK _ _ ?_; have t4 : updE E 8 4 = E 4 := rfl; have t7 : updE E 8 7 = true := e7; have t8 : updE E 8 8 = true := rfl; have t12 : updE E 8 12 = E 12 := rfl; have t13 : updE E 8 13 = E 13 := rfl; have t16 : updE E 8 16 = E 16 := rfl; simp only [t4, t7, t8, t12, t13, t16, Bool.false_eq_true, if_true, if_false]; exact (At.pure rfl (H.sel 6 [0, 1, 2, 3, 5])).sel 6 [1, 2, 3, 4, 0, 5]
              · have o6 := ho 6 (by kernel_rfl); clear ho; simp [know, dstAt, Region.binds] at hk o6; go_simp; exact hK _ H
              · have o7 := ho 7 (by kernel_rfl); clear ho; simp [know, dstAt, Region.binds] at hk o7; go_simp; exact hK _ H
              · clear ho; simp [know, dstAt, Region.binds] at hk
                first | (have e8 := hn 8 (by decide); simp only [e8, if_true] at H; have hv8 := (At.unpure (H.pick 4 rfl)).1; rw [hv8] at hk; go_simp; exact hK _ (by simp only [e8, if_true]; exact H)) | (go_simp; exact hK _ H)
              · clear ho; simp [know, dstAt, Region.binds] at hk
                (have e8 := hn 8 (by decide)); (simp only [hE0, e8, Bool.false_eq_true, if_true, if_false] at H); refine op_lit1T rfl hk Try.underlying82 s87 z87 rfl rfl (by decide) (by decide) (H.sel 6 [0, 1, 2, 4, 5]) ?_; (intro x w' H; refine hK _ _ ?_; have t4 : updE E 12 4 = E 4 := rfl; have t7 : updE E 12 7 = E 7 := rfl; have t8 : updE E 12 8 = true := e8; have t12 : updE E 12 12 = true := rfl; have t13 : updE E 12 13 = E 13 := rfl; have t16 : updE E 12 16 = E 16 := rfl; simp only [t4, t7, t8, t12, t13, t16, Bool.false_eq_true, if_true, if_false]; exact H.sel 6 [1, 2, 3, 0, 4, 5])
              · clear ho; simp [know, dstAt, Region.binds] at hk
                (have q16 : E 16 = false := (by cases h : E 16 with | false => rfl | true => (have h2 := hcl 16 (by decide) h 13 (by decide); rw [hE0] at h2; cases h2))); (have e4 := hn 4 (by decide)); (have e12 := hn 12 (by decide)); (simp only [hE0, q16, e4, e12, Bool.false_eq_true, if_true, if_false] at H); (have hv4 := (At.unpure (H.pick 5 rfl)).1); (obtain ⟨gs, hv12, HS⟩ := sl_ex (H.pick 3 rfl)); (have HN := HS.sel 6 [2, 0, 1, 3, 4, 5]); refine op_appendT rfl Try.underlying82 s87 (bytes := 24) bt87 z87 rfl (hk.1.trans hv4) (hk.2.1.trans hv12) HN (pt_len (⟨h, s, m⟩ : Pt)) (fun _ => ⟨_, rfl, cells_of (c := (⟨h, s, m⟩ : Pt).cells) (HN.get 1 rfl)⟩) (pt_one (⟨h, s, m⟩ : Pt)) (by simp only [maxLen]; omega) (by omega) ?_; (intro v' w' H2; refine hK _ _ ?_; have t4 : updE E 13 4 = true := e4; have t7 : updE E 13 7 = E 7 := rfl; have t8 : updE E 13 8 = E 8 := rfl; have t12 : updE E 13 12 = true := e12; have t13 : updE E 13 13 = true := rfl; have t16 : updE E 13 16 = false := q16; simp only [t4, t7, t8, t12, t13, t16, Bool.false_eq_true, if_true, if_false]; exact (At.imp ((op_snoc H2).pick 1 rfl) fun _ hh => (⟨gs, hv12, hh⟩ : SlBlk (val 12) #[.int .i64 h, .int .i64 s, .int .i64 m] 87 _)).sel 6 [2, 1, 3, 0, 4, 5])
              · clear ho; simp [know, dstAt, Region.binds] at hk; go_simp; exact hK _ H
              · clear ho; simp [know, dstAt, Region.binds] at hk; go_simp; exact hK _ H
              · clear ho; simp [know, dstAt, Region.binds] at hk
                (have e13 := hn 13 (by decide)); (simp only [hE0, e13, Bool.false_eq_true, if_true, if_false] at H); refine op_storeT rfl hk.1 hk.2.1 ?_ (by kernel_rfl) H 0 rfl (by simp) ?_; (obtain ⟨_, _, _, hv⟩ := own_form (H.pick 1 rfl); rw [hv]; rfl); (intro w' H; refine hK _ _ ?_; have t4 : updE E 16 4 = E 4 := rfl; have t7 : updE E 16 7 = E 7 := rfl; have t8 : updE E 16 8 = E 8 := rfl; have t12 : updE E 16 12 = E 12 := rfl; have t13 : updE E 16 13 = true := e13; have t16 : updE E 16 16 = true := rfl; simp only [t4, t7, t8, t12, t13, t16, Bool.false_eq_true, if_true, if_false]; exact H)
            case ins =>
              iterate 4 (refine ⟨ins_pl rfl (fun _ _ _ => rfl), ?_⟩)
              refine ⟨ins_mk rfl (fun _ => rfl), ?_⟩
              iterate 2 (refine ⟨ins_pl rfl (fun _ _ _ => rfl), ?_⟩)
              iterate 2 (refine ⟨ins_mk rfl (fun _ => rfl), ?_⟩)
              iterate 2 (refine ⟨ins_pl rfl (fun _ _ _ => rfl), ?_⟩)
              refine ⟨ins_pl rfl (fun val val' h => by first | rfl | ((have h7 := h 7 (by decide)); (have h8 := h 8 (by decide)); first | (simp only [h7, h8]; done) | (simp only [h7, h8]; rfl))), ?_⟩
              iterate 2 (refine ⟨ins_mk rfl (fun _ => rfl), ?_⟩)
              iterate 2 (refine ⟨ins_pl rfl (fun _ _ _ => rfl), ?_⟩)
              refine ⟨ins_mk rfl (fun _ => rfl), ?_⟩
              exact trivial
            case jns =>
              iterate 4 (refine ⟨j_pl (fun _ _ _ => rfl), ?_⟩)
              refine ⟨j_mk rfl, ?_⟩
              iterate 2 (refine ⟨j_pl (fun _ _ _ => rfl), ?_⟩)
              iterate 2 (refine ⟨j_mk rfl, ?_⟩)
              iterate 3 (refine ⟨j_pl (fun _ _ _ => rfl), ?_⟩)
              iterate 2 (refine ⟨j_mk rfl, ?_⟩)
              iterate 2 (refine ⟨j_pl (fun _ _ _ => rfl), ?_⟩)
              refine ⟨j_mk rfl, ?_⟩
              exact trivial
            case fin =>
              intro E val w5 hE H
              have e4 := hE 4 (by decide)
              have e7 := hE 7 (by decide)
              have e8 := hE 8 (by decide)
              have e12 := hE 12 (by decide)
              have e13 := hE 13 (by decide)
              have e16 := hE 16 (by decide)
              simp only [e4, e7, e8, e12, e13, e16, if_true] at H
              clear hE e4 e7 e8 e12 e13 e16 HF
              obtain ⟨a5, n5, c5, hv13⟩ := own_form (H.pick 1 rfl)
              rw [hv13] at H
              have HF := H.sel 6 [1, 0]
              clear H
              simp [putAll, Act.put]
              clear hv13
              go_wp2_with fail
              go_roundw
              case rel => exact ⟨m + 1, a5, n5, c5, by omega, rfl, by rw [← HX2.out]; exact HF⟩
              case measure => simp [intOf]; omega
          · have hm8 : m = P := by omega
            subst hm8
            go_wp2_with fail
            go_roundw
            case rel => exact ⟨k + 1, _, b4, m4, p4, by omega, rfl, Lib.hid HA2.out, by rw [List.length_append, List.length_map, List.length_range]; omega, HF⟩
            case measure => simp [intOf]; omega
      · have hk8 : k = SS.length := by omega
        subst hk8
        rw [List.take_of_length_le (Nat.le_refl _)] at HA
        go_wp2_with (first | ((with_reducible refine k_load ?_); refine st_load rfl _ _ rfl _ _ rfl ?_ HF 1 rfl rfl ?_; (kernel_rfl); (intro K hK; go_simp)))
        refine (sortedP (op_recs HF) (by omega) HF).mono ?_
        rintro e w3 ⟨v3, rfl, HX⟩
        obtain ⟨qa, qn, qc, rfl⟩ := own_form HX
        clear HF
        have HF := HX
        clear HX
        go_wp2_with (first | ((with_reducible refine k_store ?_); refine st_store rfl _ _ _ rfl _ _ rfl _ rfl rfl ?_ HF 2 rfl ?_ ?_; (kernel_rfl); (simp); (clear HF; intro w HF K hK; simp only [List.set_cons_zero, List.set_cons_succ, List.setIfInBounds_toArray, Act.eval, Value.cells, Array.getD_eq_getD_getElem?, List.getElem?_toArray, List.getElem?_cons_succ, List.getElem?_cons_zero, Option.getD_some] at HF; go_simp)))
        go_ret2
        refine .inl ⟨gr, rfl, HC.out, ?_⟩
        have HG := rgr_mk (c := ⟨cF, P, cB, cK, cR⟩) (HF.sel 6 [2, 3, 0, 5])
        dsimp only
        rw [HSS.out, show ((P : Int).toNat) = P from rfl, ← HA.out]
        exact HG.lift1 H0.out
end
end Rg
end Go.Proofs.Ytohfboolicheeaa
