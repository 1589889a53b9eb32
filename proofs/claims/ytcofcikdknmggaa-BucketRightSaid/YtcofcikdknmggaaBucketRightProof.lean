/-
  For any bucket, any room and any row of commands the law BucketRight answers true: behind commands that may be a bucket may be, with at most room entries, and the answers and the number of entries are right.
-/
import Derived.Test.YtcofcikdknmggaaBkArgs
import Derived.Test.YtcofcikdknmggaaBkCnt
import Derived.ProofKit
namespace Go.Proofs.Ytcofcikdknmggaa
open Go.Hp Go.RowKit Go.ChangeShapes Go.WideShapes
set_option linter.unusedVariables false
set_option linter.unusedSimpArgs false
set_option maxRecDepth 100000
namespace bucketRight
open Bk
namespace Lw
abbrev arg_Bucket := @Bk.arg_Bucket
abbrev arg_int := @Bk.arg_int
abbrev arg_cmds := @Bk.arg_cmds
end Lw

theorem cr_len : ∀ (l : List La) (lo : Int), CR l → (∀ x ∈ l, lo ≤ x.cl ∧ x.cl ≤ 255) → lo ≤ 256 → (l.length : Int) ≤ 256 - lo
  | [], lo, _, _, h => by simp; omega
  | y :: l, lo, h, ha, hlo => by
    unfold CR at h
    obtain ⟨h1, h2⟩ := List.pairwise_cons.1 h
    have hy := ha y (by simp)
    have := cr_len l (lo + 1) h2 (fun x hx => by have := h1 x hx; have := (ha x (by simp [hx])).2; omega) (by omega)
    simp only [List.length_cons]
    omega
theorem vb_ls {b : Bu} (h : VB b) : b.ls.length ≤ 255 := by
  obtain ⟨h1, h2, h3, ⟨h4, h5⟩, h6, h7⟩ := vb_iff.1 h
  have := cr_len b.ls 1 h6 (fun x hx => inB_le (h7 x hx).cl) (by decide)
  omega

/-- The cells of a struct's value. -/
def agO (v : Value) : Array Value := match v with | .agg cs => cs | _ => #[]
def tupAt (v : Value) (i : Nat) : Value := match v with | .tuple cs => cs.getD i undef | _ => undef

/-- What Apply hands back. -/
def ApH (R : (Int × An) × Bu) (v : Value) : HProp := fun hp => ∃ (a1 : Option Addr) (n1 c1 : Nat) (a2 : Option Addr) (n2 c2 : Nat) (a3 : Option Addr) (n3 c3 : Nat), v = .tuple #[.agg #[.int .i64 R.2.u, .slice a1 n1 c1, .slice a2 n2 c2], anV R.1.2.err R.1.2.e (.slice a3 n3 c3), .int .i64 R.1.1] ∧ Stars [OE (.slice a1 n1 c1) R.2.es, OL (.slice a2 n2 c2) R.2.ls, OE (.slice a3 n3 c3) R.1.2.l] hp
section
variable {w0 w : World} {L : List HProp}
theorem aph_mk {R : (Int × An) × Bu} {v1 v2 v3 : Value} (H : At w0 (OE v1 R.2.es :: OL v2 R.2.ls :: OE v3 R.1.2.l :: L) w) : At w0 (ApH R (.tuple #[.agg #[.int .i64 R.2.u, v1, v2], anV R.1.2.err R.1.2.e v3, .int .i64 R.1.1]) :: L) w := by
  obtain ⟨a1, n1, c1, rfl⟩ := own_form H
  obtain ⟨a2, n2, c2, rfl⟩ := own_form (H.pick 1 rfl)
  obtain ⟨a3, n3, c3, rfl⟩ := own_form (H.pick 2 rfl)
  exact At.imp (At.fold (M := [_, _, _]) H) fun _ hh => ⟨a1, n1, c1, a2, n2, c2, a3, n3, c3, rfl, hh⟩
theorem aph_open {R : (Int × An) × Bu} {v : Value} (H : At w0 (ApH R v :: L) w) : ∃ (a1 : Option Addr) (n1 c1 : Nat) (a2 : Option Addr) (n2 c2 : Nat) (a3 : Option Addr) (n3 c3 : Nat), v = .tuple #[.agg #[.int .i64 R.2.u, .slice a1 n1 c1, .slice a2 n2 c2], anV R.1.2.err R.1.2.e (.slice a3 n3 c3), .int .i64 R.1.1] ∧ At w0 (OE (.slice a1 n1 c1) R.2.es :: OL (.slice a2 n2 c2) R.2.ls :: OE (.slice a3 n3 c3) R.1.2.l :: L) w := by
  obtain ⟨a1, H⟩ := At.ex H
  obtain ⟨n1, H⟩ := At.ex H
  obtain ⟨c1, H⟩ := At.ex H
  obtain ⟨a2, H⟩ := At.ex H
  obtain ⟨n2, H⟩ := At.ex H
  obtain ⟨c2, H⟩ := At.ex H
  obtain ⟨a3, H⟩ := At.ex H
  obtain ⟨n3, H⟩ := At.ex H
  obtain ⟨c3, H⟩ := At.ex H
  obtain ⟨hv, H⟩ := At.and H
  exact ⟨a1, n1, c1, a2, n2, c2, a3, n3, c3, hv, At.flat H⟩
end
section
variable {W : World}

set_option maxHeartbeats 2000000 in
theorem walk {va vn vc : Value} {x : Bu0} (ha : BuArg W va x) {room : Int} (hn : IntArg vn room) {l : List Cm} (hc : CmsArg W vc l) :
    Calls Try.prog 4 #[va, vn, vc] W fun e w => e = .returned (.bool true) ∧ Below W.heap.size W w := by
  obtain ⟨hv, he, hl, hu, be, bl⟩ := ha
  obtain ⟨u, es, ls, ve, vl⟩ := x
  dsimp only at *
  obtain ⟨rfl, _⟩ := hn
  obtain ⟨hc1, hc2⟩ := hc
  subst hv
  have HF := At.of W
  obtain ⟨adc, capc, rfl, c1, c2, c3⟩ := hc1.value
  rw [List.length_map] at c1 c3 hc1
  have He := Lib.hid he
  have Hl := Lib.hid hl
  have HC := Lib.hid hc1
  have C3 := Lib.hid c3
  obtain ⟨ade, cape, rfl, e1, e2, e3⟩ := he.value
  obtain ⟨adl, capl, rfl, l1, l2, l3⟩ := hl.value
  simp only [List.length_map] at *
  have be2 : es.length ≤ 140737488355328 := by omega
  have bl2 : ls.length ≤ 140737488355328 := by omega
  clear he hl hc1 c3 e1 e2 e3 l1 l2 l3 c1 c2
  go_enter Try.func4, Try.ntmps4
  go_wp2_with (first | ((with_reducible refine k_box ?_); refine st_box rfl _ _ rfl _ rfl HF ?_; (clear HF; intro g3 w HF K hK; simp only [Value.cells, Act.eval, Value.cells, Array.getD_eq_getD_getElem?, List.getElem?_toArray, List.getElem?_cons_succ, List.getElem?_cons_zero, Option.getD_some] at HF; go_simp)) | ((with_reducible refine k_load (T := 25) ?_); refine st_row rfl _ _ rfl _ rfl a25 3 s25 HF 0 rfl rfl ?_; (intro K hK; go_simp)) | ((with_reducible refine k_load (T := 25) ?_); refine st_loads rfl _ _ rfl _ _ rfl a25 3 s25 HF 0 rfl ?_ ?_; (simp); (intro K hK; go_simp)))
  refine (bucket (b := ⟨u, es, ls⟩) (He.out.ext (HF.ext 1 rfl)) (Hl.out.ext (HF.ext 1 rfl)) be2 bl2 HF).mono ?_
  rintro e w2 ⟨r, rfl, hr, HX⟩
  clear HF
  have HF := HX
  clear HX
  have Hr := Lib.hid hr
  clear hr
  cases r with
  | false =>
    go_wp2_with ((with_reducible refine k_load ?_); refine st_load rfl _ _ rfl _ _ rfl ?_ HF 0 rfl rfl ?_; (kernel_rfl); (intro K hK; go_simp))
    refine (head HF).mono ?_
    rintro e w3 ⟨rfl, HX⟩
    clear HF
    have HF := HX
    clear HX
    go_wp2_with fail
    go_ret
    exact ⟨rfl, HF.below 1 rfl⟩
  | true =>
    have HV := Lib.hid (Hr.out.1 rfl)
    clear Hr
    by_cases h1 : (es.length : Int) ≤ room
    · by_cases h2 : room ≤ 256
      · have d1 : ¬ room < (es.length : Int) := by omega
        have d2 : ¬ (256 : Int) < room := by omega
        go_wp2_with ((with_reducible refine k_load ?_); refine st_load rfl _ _ rfl _ _ rfl ?_ HF 0 rfl rfl ?_; (kernel_rfl); (intro K hK; go_simp))
        replace HF := re_arg He.out (rl_arg Hl.out HF)
        replace HF : At W (Blk g3 (.cells #[.int .i64 u, .slice ade es.length cape, .slice adl ls.length capl] 25 (0, 0)) :: RE W (.slice ade es.length cape) es :: RL W (.slice adl ls.length capl) ls :: Arg W :: []) _ := HF.sel 4 [2, 0, 1, 3]
        have H2 := Lib.hid h2
        clear d1 d2
        go_loopw [7] (fun i wr => ∃ (k : Nat) (b : Bu) (b1 : Option Addr) (m1 p1 : Nat) (b2 : Option Addr) (m2 p2 : Nat), k ≤ l.length ∧ i = .int .i64 k ∧ Hid (VB b ∧ (b.es.length : Int) ≤ room) ∧ At W (Blk g3 (.cells #[.int .i64 b.u, .slice b1 m1 p1, .slice b2 m2 p2] 25 (0, 0)) :: RE W (.slice b1 m1 p1) b.es :: RL W (.slice b2 m2 p2) b.ls :: Arg W :: []) wr) (fun i _ => l.length - (intOf i).toNat)
        case atStart => exact ⟨0, ⟨u, es, ls⟩, _, _, _, _, _, _, Nat.zero_le _, rfl, Lib.hid ⟨HV.out, h1⟩, HF⟩
        case round =>
          clear HF HV h1
          obtain ⟨k, b, b1, m1, p1, b2, m2, p2, hk, rfl, HB, HF⟩ := hrel
          by_cases hlt : k < l.length
          · by_cases h4 : k < 400
            · have g1 : (k : Int) < l.length := by omega
              have g2 : (k : Int) < 400 := by omega
              obtain ⟨c, hcc⟩ : ∃ c, l[k]? = some c := ⟨_, List.getElem?_eq_getElem hlt⟩
              obtain ⟨bc, rfl⟩ := C3.out (by omega)
              have Hc := Lib.hid (fun j u hj => (HF.ext 3 rfl).cell (recs_get HC.out hcc j u hj))
              have Hc0 := Lib.hid (recs_get HC.out hcc)
              have Hs := Lib.hid (show sizeT Try.prog 29 = some c.cells.length from s29)
              clear hcc
              go_wp2_with ((with_reducible refine k_load (T := 29) ?_); refine st_loadCells rfl _ _ rfl _ rfl a29 c.cells Hs.out Hc.out ?_; (intro K hK; go_simp))
              refine (command HF c).mono ?_
              rintro e w4 ⟨r2, rfl, hr2, HX⟩
              clear HF Hc
              have HF := HX
              clear HX
              have Hr2 := Lib.hid hr2
              clear hr2
              cases r2 with
              | false =>
                go_wp2_with ((with_reducible refine k_load ?_); refine st_load rfl _ _ rfl _ _ rfl ?_ HF 0 rfl rfl ?_; (kernel_rfl); (intro K hK; go_simp))
                go_roundw
                case rel => exact ⟨k + 1, b, b1, m1, p1, b2, m2, p2, by omega, rfl, HB, HF⟩
                case measure => simp [intOf]; omega
              | true =>
                have HCO := Lib.hid (Hr2.out rfl)
                clear Hr2
                by_cases hum : 1048576 ≤ b.u
                · go_wp2_with ((with_reducible refine k_load ?_); refine st_load rfl _ _ rfl _ _ rfl ?_ HF 0 rfl rfl ?_; (kernel_rfl); (intro K hK; go_simp))
                  go_roundw
                  case rel => exact ⟨k + 1, b, b1, m1, p1, b2, m2, p2, by omega, rfl, HB, HF⟩
                  case measure => simp [intOf]; omega
                · have hu0 := inB_le HB.out.1.u0
                  have hn256 := HB.out.1.n
                  have hl255 := vb_ls HB.out.1
                  have hum2 : b.u < 1048576 := by omega
                  have HN := Lib.hid (vb_next (room := room) HB.out.1 HCO.out hum2 HB.out.2 H2.out)
                  have HK := Lib.hid (cnt_ok (room := room) HB.out.1 HCO.out hum2)
                  have HA := Lib.hid (fun (w2 : World) (M : List HProp) (v1 v2 : Value) (h1 : RecsAt w2 v1 4 (b.es.map En.cells)) (h2 : RecsAt w2 v2 7 (b.ls.map La.cells)) (HM : At W M w2) => Apply (room := room) (b := b) (c := c) h1 h2 (by omega) (by omega) (by omega) HM)
                  obtain ⟨R, hR⟩ : ∃ R, ApplyS b c room = R := ⟨_, rfl⟩
                  rw [hR] at HN HK HA
                  clear hR
                  have hwr : IntKind.i64.wrap (b.u + 1) = b.u + 1 := IntWalk.i64_in _ (by omega)
                  obtain ⟨⟨er0, a⟩, nb⟩ := R
                  dsimp only at HN HK HA
                  obtain ⟨nu, nes, nls⟩ := nb
                  dsimp only at HN HK
                  obtain ⟨z1, z2, z3, z4⟩ := HN.out
                  subst z1 z2
                  have VN := Lib.hid z3
                  have Z4 := Lib.hid z4
                  have zb1 : nes.length ≤ 140737488355328 := by have := z3.n; dsimp only at this; omega
                  have zb2 : nls.length ≤ 140737488355328 := by have := vb_ls z3; dsimp only at this; omega
                  have dz4 : ¬ room < (nes.length : Int) := by omega
                  have ddz : decide (room < (nes.length : Int)) = false := decide_eq_false dz4
                  have be3 : b.es.length ≤ 140737488355328 := by omega
                  clear z3 z4 HN hn256 hl255 hu0
                  go_wp2_with ((with_reducible refine k_load ?_); refine st_load rfl _ _ rfl _ _ rfl ?_ HF 0 rfl rfl ?_; (kernel_rfl); (intro K hK; go_simp))
                  apply wp_region_eff [6, 11, 12, 13, 14] (fun i => (#[[], [], [], [], [], [], [], [6], [6], [6], [6], [], [], [6, 11], [6, 12], [6]] : Array (List Nat)).getD i []) (fun val i => ((_ :: _ :: _ :: _ :: _ :: _ :: val 6 :: val 6 :: tupAt (val 6) 0 :: tupAt (val 6) 1 :: tupAt (val 6) 2 :: val 11 :: val 12 :: val 13 :: val 14 :: tupAt (val 6) 2 :: []) : List Value).toArray.getD i undef) (fun E val => At W (Blk g3 (.cells #[.int .i64 b.u, .slice b1 m1 p1, .slice b2 m2 p2] 25 (0, 0)) :: RE W (.slice b1 m1 p1) b.es :: RL W (.slice b2 m2 p2) b.ls :: (if E 6 = true then ApH ((0, a), (⟨b.u + 1, nes, nls⟩ : Bu)) (val 6) else emp) :: (if E 11 = true then PtrBlk (val 11) (.cells (if E 13 = true then agO (tupAt (val 6) 0) else #[.int .i64 0, .slice none 0 0, .slice none 0 0]) 25 (0, 0)) else emp) :: (if E 12 = true then PtrBlk (val 12) (.cells (if E 14 = true then agO (tupAt (val 6) 1) else #[.int .i64 0, .string ⟨#[]⟩, .int .i64 0, .int .i64 0, .int .i64 0, .slice none 0 0]) 41 (0, 0)) else emp) :: Arg W :: [])) (by kernel_rfl) (by kernel_rfl) (by kernel_rfl) (by kernel_rfl) ((HF.addEmp.addEmp.addEmp).sel 7 [3, 4, 5, 0, 1, 2, 6])
                  case step =>
                    iterate 6 (refine ⟨eff_pl rfl (fun _ => by rfl) fun E val hn T ds w K H hk ho hK => ?_, ?_⟩; rotate_left)
                    refine ⟨eff_mk rfl (fun _ => by rfl) fun E val hE0 hcl hn T ds w K H hk ho hK => ?_, ?_⟩; rotate_left
                    iterate 4 (refine ⟨eff_pl rfl (fun _ => by rfl) fun E val hn T ds w K H hk ho hK => ?_, ?_⟩; rotate_left)
                    iterate 4 (refine ⟨eff_mk rfl (fun _ => by rfl) fun E val hE0 hcl hn T ds w K H hk ho hK => ?_, ?_⟩; rotate_left)
                    refine ⟨eff_pl rfl (fun _ => by rfl) fun E val hn T ds w K H hk ho hK => ?_, ?_⟩; rotate_left
                    exact trivial
                    · have o3 := ho 3 (by kernel_rfl); clear ho; simp [know, dstAt, Region.binds] at hk o3
                      (refine op_rowT (T := 25) rfl o3 a25 s25 H 0 rfl rfl ?_; exact hK _ H)
                    · have o2 := ho 2 (by kernel_rfl); clear ho; simp [know, dstAt, Region.binds] at hk o2; go_simp; exact hK _ H
                    · have o7 := ho 7 (by kernel_rfl); clear ho; simp [know, dstAt, Region.binds] at hk o7; go_simp; exact hK _ H
                    · clear ho; simp [know, dstAt, Region.binds] at hk; go_simp; exact hK _ H
                    · clear ho; simp [know, dstAt, Region.binds] at hk
                      (refine op_cellsT (vs := c.cells) rfl hk a29 Hs.out (fun j u hj => (H.ext 6 rfl).cell (Hc0.out j u hj)) ?_; exact hK _ H)
                    · have o1 := ho 1 (by kernel_rfl); clear ho; simp [know, dstAt, Region.binds] at hk o1; go_simp; exact hK _ H
                    · clear ho; simp [know, dstAt, Region.binds] at hk
                      (have q13 : E 13 = false := (by cases h : E 13 with | false => rfl | true => (have h2 := hcl 13 (by decide) h 6 (by decide); rw [hE0] at h2; cases h2))); (have q14 : E 14 = false := (by cases h : E 14 with | false => rfl | true => (have h2 := hcl 14 (by decide) h 6 (by decide); rw [hE0] at h2; cases h2))); (simp only [hE0, q13, q14, Bool.false_eq_true, if_false] at H); go_simp; refine (HA.out _ _ _ _ (re_recs (i := 5) rfl (H.pick 1 rfl)) (rl_recs (i := 5) rfl (H.pick 2 rfl)) H).mono ?_; rintro e w' ⟨y1, y2, y3, rfl, H⟩; refine hK _ _ ?_; have t6 : updE E 6 6 = true := rfl; have t11 : updE E 6 11 = E 11 := rfl; have t12 : updE E 6 12 = E 12 := rfl; have t13 : updE E 6 13 = false := q13; have t14 : updE E 6 14 = false := q14; simp only [t6, t11, t12, t13, t14, Bool.false_eq_true, if_true, if_false]; exact (aph_mk (R := ((0, a), (⟨b.u + 1, nes, nls⟩ : Bu))) H).sel 8 [1, 2, 3, 0, 5, 6, 7]
                    · clear ho; simp [know, dstAt, Region.binds] at hk; go_simp; exact hK _ H
                    · clear ho; simp [know, dstAt, Region.binds] at hk
                      first | (have e6 := hn 6 (by decide); simp only [e6, if_true] at H; obtain ⟨_, _, _, _, _, _, _, _, _, hv, _⟩ := aph_open (H.pick 3 rfl); rw [hv] at hk; go_simp; rw [hv] at hK; exact hK _ (by simp only [e6, if_true, ← hv]; exact H)) | (go_simp; exact hK _ H)
                    · clear ho; simp [know, dstAt, Region.binds] at hk
                      first | (have e6 := hn 6 (by decide); simp only [e6, if_true] at H; obtain ⟨_, _, _, _, _, _, _, _, _, hv, _⟩ := aph_open (H.pick 3 rfl); rw [hv] at hk; go_simp; rw [hv] at hK; exact hK _ (by simp only [e6, if_true, ← hv]; exact H)) | (go_simp; exact hK _ H)
                    · clear ho; simp [know, dstAt, Region.binds] at hk
                      first | (have e6 := hn 6 (by decide); simp only [e6, if_true] at H; obtain ⟨_, _, _, _, _, _, _, _, _, hv, _⟩ := aph_open (H.pick 3 rfl); rw [hv] at hk; go_simp; rw [hv] at hK; exact hK _ (by simp only [e6, if_true, ← hv]; exact H)) | (go_simp; exact hK _ H)
                    · clear ho; simp [know, dstAt, Region.binds] at hk
                      (have q13 : E 13 = false := (by cases h : E 13 with | false => rfl | true => (have h2 := hcl 13 (by decide) h 11 (by decide); rw [hE0] at h2; cases h2))); (simp only [hE0, Bool.false_eq_true, if_false] at H); refine op_allocT rfl z25 rfl (H.sel 7 [0, 1, 2, 3, 5, 6]) ?_; (intro x w' H; refine hK _ _ ?_; have t6 : updE E 11 6 = E 6 := rfl; have t11 : updE E 11 11 = true := rfl; have t12 : updE E 11 12 = E 12 := rfl; have t13 : updE E 11 13 = false := q13; have t14 : updE E 11 14 = E 14 := rfl; simp only [t6, t11, t12, t13, t14, Bool.false_eq_true, if_true, if_false]; exact H.sel 7 [1, 2, 3, 4, 0, 5, 6])
                    · clear ho; simp [know, dstAt, Region.binds] at hk
                      (have q14 : E 14 = false := (by cases h : E 14 with | false => rfl | true => (have h2 := hcl 14 (by decide) h 12 (by decide); rw [hE0] at h2; cases h2))); (simp only [hE0, Bool.false_eq_true, if_false] at H); refine op_allocT rfl z41 rfl (H.sel 7 [0, 1, 2, 3, 4, 6]) ?_; (intro x w' H; refine hK _ _ ?_; have t6 : updE E 12 6 = E 6 := rfl; have t12 : updE E 12 12 = true := rfl; have t11 : updE E 12 11 = E 11 := rfl; have t14 : updE E 12 14 = false := q14; have t13 : updE E 12 13 = E 13 := rfl; simp only [t6, t11, t12, t13, t14, Bool.false_eq_true, if_true, if_false]; exact H.sel 7 [1, 2, 3, 4, 5, 0, 6])
                    · clear ho; simp [know, dstAt, Region.binds] at hk
                      (have e6 := hn 6 (by decide)); (have e11 := hn 11 (by decide)); (simp only [hE0, e6, e11, Bool.false_eq_true, if_true, if_false] at H); (obtain ⟨_, _, _, _, _, _, _, _, _, hv, _⟩ := aph_open (H.pick 3 rfl)); (obtain ⟨g, hv11, HS⟩ := ptr_ex (H.pick 4 rfl)); (have hk2 := hk.2.1); (rw [hv] at hk2); refine op_putT rfl (hk.1.trans hv11) hk2 ?_ s25 HS 0 rfl rfl rfl ?_; (simp [Value.oneCell']); (intro w' H; refine hK _ _ ?_; have t6 : updE E 13 6 = true := e6; have t11 : updE E 13 11 = true := e11; have t13 : updE E 13 13 = true := rfl; have t12 : updE E 13 12 = E 12 := rfl; have t14 : updE E 13 14 = E 14 := rfl; simp only [t6, t11, t12, t13, t14, if_true]; exact ((At.imp H fun _ hh => (⟨g, hv11, (by rw [hv]; exact hh)⟩ : PtrBlk (val 11) (.cells (agO (tupAt (val 6) 0)) 25 (0, 0)) _)).sel 7 [1, 2, 3, 4, 0, 5, 6]))
                    · clear ho; simp [know, dstAt, Region.binds] at hk
                      (have e6 := hn 6 (by decide)); (have e12 := hn 12 (by decide)); (simp only [hE0, e6, e12, Bool.false_eq_true, if_true, if_false] at H); (obtain ⟨_, _, _, _, _, _, _, _, _, hv, _⟩ := aph_open (H.pick 3 rfl)); (obtain ⟨g, hv12, HS⟩ := ptr_ex (H.pick 5 rfl)); (have hk2 := hk.2.1); (rw [hv] at hk2); refine op_putT rfl (hk.1.trans hv12) hk2 ?_ s41 HS 0 rfl rfl rfl ?_; (simp [Value.oneCell']); (intro w' H; refine hK _ _ ?_; have t6 : updE E 14 6 = true := e6; have t12 : updE E 14 12 = true := e12; have t14 : updE E 14 14 = true := rfl; have t11 : updE E 14 11 = E 11 := rfl; have t13 : updE E 14 13 = E 13 := rfl; simp only [t6, t11, t12, t13, t14, if_true]; exact ((At.imp H fun _ hh => (⟨g, hv12, (by rw [hv]; exact hh)⟩ : PtrBlk (val 12) (.cells (agO (tupAt (val 6) 1)) 41 (0, 0)) _)).sel 7 [1, 2, 3, 4, 5, 0, 6]))
                    · clear ho; simp [know, dstAt, Region.binds] at hk; go_simp; exact hK _ H
                  case ins =>
                    iterate 6 (refine ⟨ins_pl rfl (fun _ _ _ => rfl), ?_⟩)
                    refine ⟨ins_mk rfl (fun _ => rfl), ?_⟩
                    iterate 4 (refine ⟨ins_pl rfl (fun val val' h => by first | rfl | ((have h6 := h 6 (by decide)); first | (simp only [h6]; done) | (simp only [h6]; rfl))), ?_⟩)
                    iterate 4 (refine ⟨ins_mk rfl (fun _ => rfl), ?_⟩)
                    refine ⟨ins_pl rfl (fun val val' h => by first | rfl | ((have h6 := h 6 (by decide)); first | (simp only [h6]; done) | (simp only [h6]; rfl))), ?_⟩
                    exact trivial
                  case jns =>
                    iterate 6 (refine ⟨j_pl (fun _ _ _ => rfl), ?_⟩)
                    refine ⟨j_mk rfl, ?_⟩
                    iterate 4 (refine ⟨j_pl (fun _ _ _ => rfl), ?_⟩)
                    iterate 4 (refine ⟨j_mk rfl, ?_⟩)
                    refine ⟨j_pl (fun _ _ _ => rfl), ?_⟩
                    exact trivial
                  case fin =>
                    intro E val w5 hE H
                    have e6 := hE 6 (by decide)
                    have e11 := hE 11 (by decide)
                    have e12 := hE 12 (by decide)
                    have e13 := hE 13 (by decide)
                    have e14 := hE 14 (by decide)
                    simp only [e6, e11, e12, e13, e14, if_true] at H
                    clear hE e6 e11 e12 e13 e14 HF HA
                    obtain ⟨a1, n1, c1, a2, n2, c2, a3, n3, c3, hv, HX⟩ := aph_open (H.pick 3 rfl)
                    have ddn : decide (room < (n1 : Int)) = false := by
                      obtain ⟨_, _, hvv, _⟩ := own_value HX
                      have hn1 : n1 = nes.length := by injection hvv
                      rw [hn1]; exact ddz
                    obtain ⟨g8, hv11, HY⟩ := ptr_ex (HX.pick 6 rfl)
                    obtain ⟨g9, hv12, HZ⟩ := ptr_ex (HY.pick 7 rfl)
                    clear H HX HY
                    have HF : At W (Blk g9 (.cells #[.int .i64 a.err, .string a.e.nm, .int .i64 a.e.fc, .int .i64 a.e.fo, .int .i64 a.e.sz, .slice a3 n3 c3] 41 (0, 0)) :: Blk g8 (.cells #[.int .i64 (b.u + 1), .slice a1 n1 c1, .slice a2 n2 c2] 25 (0, 0)) :: OE (.slice a1 n1 c1) nes :: OL (.slice a2 n2 c2) nls :: OE (.slice a3 n3 c3) a.l :: Blk g3 (.cells #[.int .i64 b.u, .slice b1 m1 p1, .slice b2 m2 p2] 25 (0, 0)) :: RE W (.slice b1 m1 p1) b.es :: RL W (.slice b2 m2 p2) b.ls :: Arg W :: []) w5 := by rw [hv] at HZ; exact HZ
                    clear HZ
                    simp [putAll, Act.put]
                    simp only [hv11, hv12, hv, tupAt]
                    clear hv11 hv12 hv
                    go_wp2_with fail
                    apply wp_region_eff [] (fun i => (#[[], [], [], [], [], [], [], [], [], [], [], [], [], [], [], [], [], [], [], [], [], [], [], [], [], [], [], [], [], [], [], [], []] : Array (List Nat)).getD i []) (fun val i => ((_ :: _ :: .bool false :: _ :: _ :: _ :: _ :: _ :: _ :: _ :: .bool false :: _ :: .bool true :: _ :: _ :: .bool false :: _ :: _ :: _ :: _ :: _ :: _ :: .bool false :: _ :: _ :: _ :: _ :: _ :: _ :: _ :: .bool true :: _ :: _ :: []) : List Value).toArray.getD i undef) (fun E val => At W (Blk g9 (.cells #[.int .i64 a.err, .string a.e.nm, .int .i64 a.e.fc, .int .i64 a.e.fo, .int .i64 a.e.sz, .slice a3 n3 c3] 41 (0, 0)) :: Blk g8 (.cells #[.int .i64 (b.u + 1), .slice a1 n1 c1, .slice a2 n2 c2] 25 (0, 0)) :: OE (.slice a1 n1 c1) nes :: OL (.slice a2 n2 c2) nls :: OE (.slice a3 n3 c3) a.l :: Blk g3 (.cells #[.int .i64 b.u, .slice b1 m1 p1, .slice b2 m2 p2] 25 (0, 0)) :: RE W (.slice b1 m1 p1) b.es :: RL W (.slice b2 m2 p2) b.ls :: Arg W :: [])) (by kernel_rfl) (by kernel_rfl) (by kernel_rfl) (by kernel_rfl) (HF)
                    case step =>
                      iterate 33 (refine ⟨eff_pl rfl (fun _ => by rfl) fun E val hn T ds w K H hk ho hK => ?_, ?_⟩; rotate_left)
                      exact trivial
                      · have o10 := ho 10 (by kernel_rfl); clear ho; simp [know, dstAt, Region.binds] at hk o10; go_simp; exact hK _ H
                      · clear ho; simp [know, dstAt, Region.binds] at hk; go_simp; exact hK _ H
                      · clear ho; simp [know, dstAt, Region.binds] at hk; go_simp; exact hK _ H
                      · have o8 := ho 8 (by kernel_rfl); clear ho; simp [know, dstAt, Region.binds] at hk o8; go_simp; exact hK _ H
                      · clear ho; simp [know, dstAt, Region.binds] at hk
                        first | (refine op_loadT rfl hk.1 ?_ H 0 rfl rfl ?_; (kernel_rfl); exact hK _ H) | (refine op_loadT rfl hk.1 ?_ H 1 rfl rfl ?_; (kernel_rfl); exact hK _ H) | (refine op_loadT rfl hk.1 ?_ H 5 rfl rfl ?_; (kernel_rfl); exact hK _ H)
                      · have o3 := ho 3 (by kernel_rfl); clear ho; simp [know, dstAt, Region.binds] at hk o3; go_simp; exact hK _ H
                      · clear ho; simp [know, dstAt, Region.binds] at hk
                        first | (refine op_loadT rfl hk.1 ?_ H 0 rfl rfl ?_; (kernel_rfl); exact hK _ H) | (refine op_loadT rfl hk.1 ?_ H 1 rfl rfl ?_; (kernel_rfl); exact hK _ H) | (refine op_loadT rfl hk.1 ?_ H 5 rfl rfl ?_; (kernel_rfl); exact hK _ H)
                      · clear ho; simp [know, dstAt, Region.binds] at hk; go_simp; exact hK _ H
                      · clear ho; simp [know, dstAt, Region.binds] at hk; go_simp; exact hK _ H
                      · clear ho; simp [know, dstAt, Region.binds] at hk; go_simp; exact hK _ H
                      · clear ho; simp [know, dstAt, Region.binds] at hk; go_simp; exact hK _ H
                      · have o8 := ho 8 (by kernel_rfl); clear ho; simp [know, dstAt, Region.binds] at hk o8
                        first | (refine op_rowT (T := 25) rfl o8 a25 s25 H 5 rfl rfl ?_; exact hK _ H) | (refine op_rowT (T := 25) rfl o8 a25 s25 H 1 rfl rfl ?_; exact hK _ H)
                      · clear ho; simp [know, dstAt, Region.binds] at hk
                        (go_simp; refine (bucket (b := ⟨b.u + 1, nes, nls⟩) (oe_recs (H.pick 2 rfl)) (ol_recs (H.pick 3 rfl)) zb1 zb2 H).mono ?_; rintro e w' ⟨r, rfl, hr, H⟩; obtain rfl := hr.2 VN.out; exact hK _ H)
                      · clear ho; simp [know, dstAt, Region.binds] at hk; go_simp; exact hK _ H
                      · clear ho; simp [know, dstAt, Region.binds] at hk; go_simp; exact hK _ H
                      · clear ho; simp [know, dstAt, Region.binds] at hk; go_simp; exact hK _ H
                      · have o8 := ho 8 (by kernel_rfl); clear ho; simp [know, dstAt, Region.binds] at hk o8; go_simp; exact hK _ H
                      · clear ho; simp [know, dstAt, Region.binds] at hk
                        first | (refine op_loadT rfl hk.1 ?_ H 0 rfl rfl ?_; (kernel_rfl); exact hK _ H) | (refine op_loadT rfl hk.1 ?_ H 1 rfl rfl ?_; (kernel_rfl); exact hK _ H) | (refine op_loadT rfl hk.1 ?_ H 5 rfl rfl ?_; (kernel_rfl); exact hK _ H)
                      · clear ho; simp [know, dstAt, Region.binds] at hk; go_simp; exact hK _ H
                      · have o1 := ho 1 (by kernel_rfl); clear ho; simp [know, dstAt, Region.binds] at hk o1; go_simp; exact hK _ H
                      · clear ho; simp [know, dstAt, Region.binds] at hk; go_simp; exact hK _ H
                      · clear ho; simp [know, dstAt, Region.binds] at hk; go_simp; exact hK _ H
                      · clear ho; simp [know, dstAt, Region.binds] at hk; go_simp; exact hK _ H
                      · have o3 := ho 3 (by kernel_rfl); clear ho; simp [know, dstAt, Region.binds] at hk o3
                        first | (refine op_rowT (T := 25) rfl o3 a25 s25 H 5 rfl rfl ?_; exact hK _ H) | (refine op_rowT (T := 25) rfl o3 a25 s25 H 1 rfl rfl ?_; exact hK _ H)
                      · have o8 := ho 8 (by kernel_rfl); clear ho; simp [know, dstAt, Region.binds] at hk o8
                        first | (refine op_rowT (T := 25) rfl o8 a25 s25 H 5 rfl rfl ?_; exact hK _ H) | (refine op_rowT (T := 25) rfl o8 a25 s25 H 1 rfl rfl ?_; exact hK _ H)
                      · have o2 := ho 2 (by kernel_rfl); clear ho; simp [know, dstAt, Region.binds] at hk o2; go_simp; exact hK _ H
                      · have o7 := ho 7 (by kernel_rfl); clear ho; simp [know, dstAt, Region.binds] at hk o7; go_simp; exact hK _ H
                      · clear ho; simp [know, dstAt, Region.binds] at hk; go_simp; exact hK _ H
                      · clear ho; simp [know, dstAt, Region.binds] at hk
                        (refine op_cellsT (vs := c.cells) rfl hk.1 a29 Hs.out (fun j u hj => (H.ext 8 rfl).cell (Hc0.out j u hj)) ?_; exact hK _ H)
                      · have o9 := ho 9 (by kernel_rfl); clear ho; simp [know, dstAt, Region.binds] at hk o9
                        first | (refine op_rowT (T := 41) rfl o9 a41 s41 H 0 rfl rfl ?_; exact hK _ H) | (refine op_loadT rfl hk.1 ?_ H 0 rfl rfl ?_; (kernel_rfl); exact hK _ H) | (refine op_loadT rfl hk.1 ?_ H 1 rfl rfl ?_; (kernel_rfl); exact hK _ H) | (refine op_loadT rfl hk.1 ?_ H 5 rfl rfl ?_; (kernel_rfl); exact hK _ H)
                      · clear ho; simp [know, dstAt, Region.binds] at hk
                        (go_simp; refine (counted (a := a) (re_recs (i := 7) rfl (H.pick 6 rfl)) (oe_recs (H.pick 2 rfl)) (oe_recs (H.pick 4 rfl)) rfl rfl rfl rfl be3 zb1 HK.out H).mono ?_; rintro e w' ⟨rfl, H⟩; exact hK _ H)
                      · clear ho; simp [know, dstAt, Region.binds] at hk; go_simp; exact hK _ H
                      · clear ho; simp [know, dstAt, Region.binds] at hk; go_simp; exact hK _ H
                    case ins =>
                      iterate 33 (refine ⟨ins_pl rfl (fun _ _ _ => rfl), ?_⟩)
                      exact trivial
                    case jns =>
                      iterate 33 (refine ⟨j_pl (fun _ _ _ => rfl), ?_⟩)
                      exact trivial
                    case fin =>
                      intro E val w6 hE H
                      clear hE HF
                      have HF := H
                      clear H
                      simp [putAll, Act.put]
                      go_wp2_with (first | ((with_reducible refine k_load (T := 25) ?_); refine st_row rfl _ _ rfl _ rfl a25 3 s25 HF 1 rfl rfl ?_; (intro K hK; go_simp)) | ((with_reducible refine k_load (T := 25) ?_); refine st_loads rfl _ _ rfl _ _ rfl a25 3 s25 HF 1 rfl ?_ ?_; (simp); (intro K hK; go_simp)) | ((with_reducible refine k_store (T := 25) ?_); refine st_put rfl _ _ _ rfl _ rfl _ rfl ?_ s25 HF 5 rfl rfl ?_; (simp [Value.oneCell']); (clear HF; intro w HF K hK; simp only [List.set_cons_zero, List.set_cons_succ, Act.eval, Value.cells, Array.getD_eq_getD_getElem?, List.getElem?_toArray, List.getElem?_cons_succ, List.getElem?_cons_zero, Option.getD_some] at HF; go_simp)))
                      go_roundw
                      case rel =>
                        have q1 := re_own (W := W) (HF.sel 9 [2, 3, 5, 8])
                        have q2 := rl_own (W := W) (q1.sel 4 [1, 0, 2, 3])
                        exact ⟨k + 1, ⟨b.u + 1, nes, nls⟩, a1, n1, c1, a2, n2, c2, by omega, rfl, Lib.hid ⟨VN.out, Z4.out⟩, q2.sel 4 [2, 1, 0, 3]⟩
                      case measure => simp [intOf]; omega
            · have g2 : ¬ (k : Int) < 400 := by omega
              have g1 : (k : Int) < l.length := by omega
              go_wp2_with fail
              refine (head HF).mono ?_
              rintro e w3 ⟨rfl, HX⟩
              clear HF
              have HF := HX
              clear HX
              go_wp2_with fail
              go_ret
              exact ⟨rfl, HF.below 3 rfl⟩
          · have g1 : ¬ (k : Int) < l.length := by omega
            go_wp2_with fail
            refine (head HF).mono ?_
            rintro e w3 ⟨rfl, HX⟩
            clear HF
            have HF := HX
            clear HX
            go_wp2_with fail
            go_ret
            exact ⟨rfl, HF.below 3 rfl⟩
      · have d2 : (256 : Int) < room := by omega
        have d1 : ¬ room < (es.length : Int) := by omega
        go_wp2_with ((with_reducible refine k_load ?_); refine st_load rfl _ _ rfl _ _ rfl ?_ HF 0 rfl rfl ?_; (kernel_rfl); (intro K hK; go_simp))
        refine (head HF).mono ?_
        rintro e w3 ⟨rfl, HX⟩
        clear HF
        have HF := HX
        clear HX
        go_wp2_with fail
        go_ret
        exact ⟨rfl, HF.below 1 rfl⟩
    · have d1 : room < (es.length : Int) := by omega
      go_wp2_with ((with_reducible refine k_load ?_); refine st_load rfl _ _ rfl _ _ rfl ?_ HF 0 rfl rfl ?_; (kernel_rfl); (intro K hK; go_simp))
      refine (head HF).mono ?_
      rintro e w3 ⟨rfl, HX⟩
      clear HF
      have HF := HX
      clear HX
      go_wp2_with fail
      go_ret
      exact ⟨rfl, HF.below 1 rfl⟩
end

theorem own : ownKnob Try.prog.godebug = none := by kernel_rfl

theorem lifted (os : Os) (started : os.Started) (H : Type) (enc : TypeId × Value → H) :
    ReturnsInHanded {} Try.checked os 4 .any (Rows.bucketRightSpec.pre6 enc Try.prog Try.f4 Rows.bucketRightRow.domain false) (Rows.bucketRightSpec.post enc Try.prog Try.f4 false true false false) := by
  refine frame_true (C := Try.checked) started own (by kernel_rfl) Try.func4
    (ChangeSpec.witness6 (enc := enc) (C := Try.checked) false ⟨#[], #[.agg #[.int .i64 0, .slice none 0 0, .slice none 0 0], .int .i64 0, .slice none 0 0], []⟩ 8 (by kernel_rfl) (by kernel_rfl) (by kernel_rfl) (by kernel_rfl)) rfl ?_ (by kernel_rfl) (by kernel_rfl) (by kernel_rfl) Try.underlying4 ?_
  · intro ds hds
    match ds, hds with
    | [_, _, _], _ => rfl
  · rintro W args ds p ⟨base, hval⟩ hA hwt
    have hp : Try.f4.params.toList = [25, 3, 34] := by rw [Try.params4]
    rw [hp] at hA hwt
    obtain ⟨v0, r0, d0, e0, p0, q0, ha, rfl, rfl, h0, hA⟩ := trodAll_cons hA
    obtain ⟨v1, r1, d1, e1, p1, q1, rfl, rfl, rfl, h1, hA⟩ := trodAll_cons hA
    obtain ⟨v2, r2, d2, e2, p2, q2, rfl, rfl, rfl, h2, hA⟩ := trodAll_cons hA
    obtain ⟨rfl, rfl, rfl⟩ := trodAll_nil hA
    have ha2 : args = #[v0, v1, v2] := by cases args; simp_all
    subst ha2
    simp only [DataW.weightsEach, List.all_append, Bool.and_eq_true] at hwt
    obtain ⟨a0, b0⟩ := Lw.arg_Bucket (hval 0 _ _ (by rw [Try.params4]; rfl) rfl) h0 hwt.1
    obtain ⟨a1, b1⟩ := Lw.arg_int (hval 1 _ _ (by rw [Try.params4]; rfl) rfl) h1 hwt.2.1
    obtain ⟨a2, b2⟩ := Lw.arg_cmds (hval 2 _ _ (by rw [Try.params4]; rfl) rfl) h2 hwt.2.2.1
    exact walk b0 b1 b2

theorem over : Rows.bucketRightRow.holds Try.pinned (OpenSpec.ofChange Rows.bucketRightSpec) :=
  OpenClaim.holds_of_wide 4 Try.f4 rfl rfl rfl rfl rfl rfl rfl ⟨rfl, rfl, rfl, rfl, rfl⟩ rfl rfl rfl rfl rfl (by kernel_rfl) Try.func4 (by kernel_rfl)
    (of_decide_eq_true (by kernel_rfl)) (by unfold Func.isWrapper; first | (rw [if_pos (by decide +kernel)]; kernel_rfl) | (rw [if_neg (by decide +kernel)]; exact ⟨rfl, rfl⟩))
    (fun os started H enc _ => lifted os started H enc)

theorem proved : Rows.BucketRightSaid := over
#print axioms proved
end bucketRight
end Go.Proofs.Ytcofcikdknmggaa
