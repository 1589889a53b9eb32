/-
  The document's Group.
-/
import Derived.Test.YtohfboolicheeaaRgRGr
import Derived.Test.YtohfboolicheeaaRgGroup
namespace Go.Proofs.Ytohfboolicheeaa
open Go.Hp Go.RowKit
set_option linter.unusedVariables false
set_option linter.unusedSimpArgs false
set_option maxRecDepth 100000
set_option maxHeartbeats 2000000
namespace Rg
section
variable {w0 w : World} {L : List HProp}
abbrev rpA (g : Nat) : Option Addr := some ⟨g, 0, none⟩
abbrev rpB (g : Nat) : Option Addr := some ⟨g, 6, none⟩
theorem rkeyRightB (H : At w0 L w) {c : Cf} (hB : 1 ≤ c.B ∧ c.B ≤ 256) {b : Bool} {k : Ky} (hb : b = true ↔ KeyR k c.B) (s1 : Option Addr) (s2 s3 : Nat) :
    Calls Try.prog 26 #[.agg #[.int .i64 k.k, .int .i64 k.a, .int .i64 k.b, .int .i64 k.c], .agg #[.slice s1 s2 s3, .int .i64 c.F, .int .i64 c.P, .int .i64 c.B, .int .i64 c.K, .int .i64 c.R]] w (Ret w0 (.bool b) L) := by
  refine (rkeyRight H k c hB s1 s2 s3).mono ?_
  rintro e w' ⟨r, rfl, hr, HX⟩
  have : r = b := by
    cases r <;> cases b <;> simp_all
  rw [this]
  exact ⟨rfl, HX⟩
theorem rgroup {v : Value} {c : Cf} {S : List Int} {pts : List Pt} (hr : RgF 45 w v c S pts) (hs : PS pts) (hsz : pts.length ≤ 100000) (hpos : 0 < pts.length) (hF : 0 ≤ c.F ∧ c.F ≤ 3) (hB : 1 ≤ c.B ∧ c.B ≤ 256)
    (k : Ky) (H : At w0 L w) : Calls Try.prog 17 #[v, .agg #[.int .i64 k.k, .int .i64 k.a, .int .i64 k.b, .int .i64 k.c]] w (GrPost w0 L pts (2 * c.F + 1).toNat k c.B) := by
  obtain ⟨W, rfl⟩ : ∃ W : World, W = w := ⟨_, rfl⟩
  have HF := At.of W
  have H0 := Lib.hid H
  have Hr := Lib.hid hr
  obtain ⟨g, s1, s2, s3, p1, p2, p3, rfl, hg, hS, hp⟩ := hr
  have Hg := Lib.hid (fun (w2 : World) (hx : Ext W w2) j u (hj : (rgCells (.slice s1 s2 s3) c (.slice p1 p2 p3))[j]? = some u) => hx.cell (show W.cell? ⟨g, j, none⟩ = some u from by
    have := cells_of hg j u hj
    rwa [Addr.add_lit, Nat.zero_add] at this))
  obtain ⟨ad, cap, hv, c1, c2, c3⟩ := hp.value
  cases hv
  rw [List.length_map] at c1 c3 hp Hg
  have HV := Lib.hid hp
  have C3 := Lib.hid c3
  obtain ⟨cF, cP, cB, cK, cR⟩ := c
  obtain ⟨kk, ka, kb, kc⟩ := k
  dsimp only at *
  obtain ⟨F, rfl⟩ : ∃ F : Nat, cF = F := ⟨cF.toNat, by omega⟩
  have hn : (2 * (F : Int) + 1).toNat = 2 * F + 1 := by omega
  rw [hn]
  have hF3 : F ≤ 3 := by omega
  have hag := Lib.hid (show sizeT Try.prog 29 = some ([.slice s1 s2 s3, .int .i64 F, .int .i64 cP, .int .i64 cB, .int .i64 cK, .int .i64 cR] : List Value).length from s29)
  have hcf := Lib.hid (show ∀ (w2 : World), Ext W w2 → ∀ j u, ([.slice s1 s2 s3, .int .i64 F, .int .i64 cP, .int .i64 cB, .int .i64 cK, .int .i64 cR] : List Value)[j]? = some u → w2.cell? ((⟨g, 0, none⟩ : Addr).add j) = some u from fun w2 hx j u hj => by
    rw [Addr.add_lit, Nat.zero_add]
    refine Hg.out w2 hx j u ?_
    have hj6 : j < 6 := (List.getElem?_eq_some_iff.1 hj).1
    show ([.slice s1 s2 s3, .int .i64 F, .int .i64 cP, .int .i64 cB, .int .i64 cK, .int .i64 cR] ++ [.slice p1 pts.length p3] : List Value)[j]? = some u
    rw [List.getElem?_append_left (by simpa using hj6)]
    exact hj)
  clear H hp c3 hS hg hF hn
  go_enter Try.func17, Try.ntmps17
  go_wp2_with ((with_reducible refine k_box (T := 38) ?_); refine st_box rfl _ _ rfl _ rfl HF ?_; (clear HF; intro g3 w HF K hK; simp only [Value.cells, Act.eval, Value.cells, Array.getD_eq_getD_getElem?, List.getElem?_toArray, List.getElem?_cons_succ, List.getElem?_cons_zero, Option.getD_some] at HF; go_simp))
  obtain ⟨bk, hbk⟩ := key_dec ⟨kk, ka, kb, kc⟩ cB
  have HBK := Lib.hid hbk
  have HRt := Lib.hid (fun (w2 : World) (M : List HProp) (HM : At W M w2) => rkeyRightB HM hB (k := ⟨kk, ka, kb, kc⟩) (c := ⟨F, cP, cB, cK, cR⟩) hbk s1 s2 s3)
  clear hbk
  apply wp_region_eff [] (fun i => (#[[], [], [], [], [], [], []] : Array (List Nat)).getD i []) (fun val i => (([.agg #[.int .i64 kk, .int .i64 ka, .int .i64 kb, .int .i64 kc], _, _, _, .agg #[.slice s1 s2 s3, .int .i64 F, .int .i64 cP, .int .i64 cB, .int .i64 cK, .int .i64 cR], .bool bk, .bool (!bk)]) : List Value).toArray.getD i undef) (fun E val => At W (Blk g3 (.cells #[.int .i64 kk, .int .i64 ka, .int .i64 kb, .int .i64 kc] 38 (0, 0)) :: Arg W :: [])) (by kernel_rfl) (by kernel_rfl) (by kernel_rfl) (by kernel_rfl) (HF)
  case step =>
    iterate 7 (refine ⟨eff_pl rfl (fun _ => by rfl) fun E val hn T ds w K H hk ho hK => ?_, ?_⟩; rotate_left)
    exact trivial
    · have o3 := ho 3 (by kernel_rfl); clear ho; simp [know, dstAt, Region.binds] at hk o3
      (refine op_rowT (T := 38) rfl o3 a38 s38 H 0 rfl rfl ?_; exact hK _ H)
    · have o0 := ho 0 (by kernel_rfl); clear ho; simp [know, dstAt, Region.binds] at hk o0; go_simp; exact hK _ H
    · clear ho; simp [know, dstAt, Region.binds] at hk; go_simp; exact hK _ H
    · clear ho; simp [know, dstAt, Region.binds] at hk; go_simp; exact hK _ H
    · clear ho; simp [know, dstAt, Region.binds] at hk
      (refine op_cellsT (vs := [.slice s1 s2 s3, .int .i64 F, .int .i64 cP, .int .i64 cB, .int .i64 cK, .int .i64 cR]) rfl hk a29 hag.out (hcf.out _ (H.ext 1 rfl)) ?_; exact hK _ H)
    · clear ho; simp [know, dstAt, Region.binds] at hk
      (go_simp; refine (HRt.out _ _ H).mono ?_; rintro e w' ⟨rfl, H⟩; exact hK _ H)
    · clear ho; simp [know, dstAt, Region.binds] at hk; go_simp; exact hK _ H
  case ins =>
    iterate 7 (refine ⟨ins_pl rfl (fun _ _ _ => rfl), ?_⟩)
    exact trivial
  case jns =>
    iterate 7 (refine ⟨j_pl (fun _ _ _ => rfl), ?_⟩)
    exact trivial
  case fin =>
    intro E val w5 hE H
    clear HF hE
    have HF := H
    clear H
    simp [putAll, Act.put]
    cases bk with
    | false =>
      go_wp2_with fail
      go_ret2
      exact .inr ⟨(fun h => absurd (HBK.out.2 h) (by simp)), rfl, (HF.sel 2 [1]).lift0 H0.out⟩
    | true =>
      have HKR := Lib.hid (HBK.out.1 rfl)
      obtain ⟨k2, hk2⟩ : ∃ k2, keyH ⟨kk, ka, kb, kc⟩ = k2 := ⟨_, rfl⟩
      have HK2 := Lib.hid hk2
      clear hk2
      go_upto_if 19 with ((with_reducible refine k_load ?_); refine st_load rfl _ _ rfl _ _ rfl ?_ HF 0 rfl rfl ?_; (kernel_rfl); (intro K hK; go_simp))
      go_cut [4] from 17 (fun s4 wx => s4 = .slice none 0 0 ∧ At W (Blk g3 (.cells #[.int .i64 k2.k, .int .i64 k2.a, .int .i64 k2.b, .int .i64 k2.c] 38 (0, 0)) :: Arg W :: []) wx)
      case first =>
        by_cases h3 : kk = 3
        · have e2 : k2 = ⟨2, ka, 0, 0⟩ := by rw [← HK2.out]; unfold keyH; rw [if_pos h3]
          subst e2
          subst h3
          go_wp2_with (first | ((with_reducible refine k_load ?_); refine st_load rfl _ _ rfl _ _ rfl ?_ HF 0 rfl rfl ?_; (kernel_rfl); (intro K hK; go_simp)) | ((with_reducible refine k_store (T := 38) ?_); refine st_put rfl _ _ _ rfl _ rfl _ rfl ?_ s38 HF 0 rfl rfl ?_; (simp [Value.oneCell']); (clear HF; intro w HF K hK; simp only [List.set_cons_zero, List.set_cons_succ, Act.eval, Value.cells, Array.getD_eq_getD_getElem?, List.getElem?_toArray, List.getElem?_cons_succ, List.getElem?_cons_zero, Option.getD_some] at HF; go_simp)))
          go_meet
          case rel => exact ⟨rfl, HF⟩
        · have e2 : k2 = ⟨kk, ka, kb, kc⟩ := by rw [← HK2.out]; unfold keyH; rw [if_neg h3]
          subst e2
          have h3b : (kk == 3) = false := by rw [beq_eq_false_iff_ne]; exact h3
          go_wp2_with fail
          go_meet
          case rel => exact ⟨rfl, HF⟩
      case rest =>
        obtain ⟨rfl, HX⟩ := hcut
        clear HF
        have HF := HX
        clear HX
        obtain ⟨h, hh⟩ : ∃ h, hashK k2 = h := ⟨_, rfl⟩
        have HHs := Lib.hid (fun (w2 : World) (M : List HProp) (HM : At W M w2) => rhashP HM k2)
        rw [hh] at HHs
        obtain ⟨a, ha⟩ : ∃ a, firstS pts h = a := ⟨_, rfl⟩
        have HFi := Lib.hid (fun (w2 : World) (M : List HProp) (hx : Ext W w2) (HM : At W M w2) => rfirst (Hr.out.ext hx) (by omega) hpos hs h HM)
        rw [ha] at HFi
        have hal : a < pts.length := by rw [← ha]; exact Nat.mod_lt _ hpos
        have HGo := Lib.hid (show grpS (2 * F + 1) [] (rot (pts.map Pt.s) a) = groupS pts (2 * F + 1) ⟨kk, ka, kb, kc⟩ by unfold groupS; rw [HK2.out, hh, ha])
        obtain ⟨kk2, ka2, kb2, kc2⟩ := k2
        dsimp only at HHs HF
        clear hh ha
        go_wp2_with (first | ((with_reducible refine k_load (T := 38) ?_); refine st_row rfl _ _ rfl _ rfl a38 4 s38 HF 0 rfl rfl ?_; (intro K hK; go_simp)) | ((with_reducible refine k_load (T := 38) ?_); refine st_loads rfl _ _ rfl _ _ rfl a38 4 s38 HF 0 rfl ?_ ?_; (simp); (intro K hK; go_simp)))
        refine (HHs.out _ _ HF).mono ?_
        rintro e w3 ⟨rfl, HX⟩
        clear HF HHs
        have HF := HX
        clear HX
        go_wp2_with fail
        refine (HFi.out _ _ (HF.ext 1 rfl) HF).mono ?_
        rintro e w4 ⟨rfl, HX⟩
        clear HF HFi
        have HF := oi_nil (HX.sel 2 [1])
        clear HX
        obtain ⟨sv, hsv⟩ : ∃ sv, pts.map Pt.s = sv := ⟨_, rfl⟩
        have hsl : sv.length = pts.length := by rw [← hsv, List.length_map]
        rw [hsv] at HGo
        have HSV := Lib.hid hsv
        have HSL := Lib.hid hsl
        obtain ⟨R, hR⟩ : ∃ R, groupS pts (2 * F + 1) ⟨kk, ka, kb, kc⟩ = R := ⟨_, rfl⟩
        rw [hR] at HGo
        have HR := Lib.hid hR
        clear hsv hsl hR
        go_wp2_with fail
        have HI0 := Lib.hid (show grpS (2 * F + 1) [] ((rot sv a).drop 0) = R from by rw [List.drop_zero]; exact HGo.out)
        go_wp2_with fail
        go_loopw [6, 8] (fun o i wr => ∃ (m : Nat) (out : List Int) (b3 : Option Addr) (q3 : Nat), m ≤ pts.length ∧ o = .slice b3 out.length q3 ∧ i = .int .i64 m ∧ out.length ≤ 2 * F + 1 ∧ Hid (grpS (2 * F + 1) out ((rot sv a).drop m) = R) ∧ At W (OI (.slice b3 out.length q3) out :: Arg W :: []) wr) (fun _ i _ => pts.length - (intOf i).toNat)
        case atStart => exact ⟨0, [], _, _, Nat.zero_le _, rfl, rfl, Nat.zero_le _, HI0, HF⟩
        case round =>
          clear HF HGo HI0
          obtain ⟨m, out, b3, q3, hm, rfl, rfl, hol, HI, HF⟩ := hrel
          have hw1 : wrap64 (2 * (F : Int)) = 2 * F := wrap64_of (by omega) (by omega)
          have hw2 : wrap64 (2 * (F : Int) + 1) = 2 * F + 1 := wrap64_of (by omega) (by omega)
          by_cases hml : m < pts.length
          · have gm : (m : Int) < pts.length := by omega
            by_cases hlt : out.length < 2 * F + 1
            · have gl : (out.length : Int) < 2 * (F : Int) + 1 := by omega
              have hj : (a + m) % pts.length < pts.length := Nat.mod_lt _ hpos
              obtain ⟨j, hjj⟩ : ∃ j, (a + m) % pts.length = j := ⟨_, rfl⟩
              rw [hjj] at hj
              obtain ⟨s, hs0⟩ : ∃ s, pts[j]? = some s := ⟨_, List.getElem?_eq_getElem hj⟩
              obtain ⟨ba, rfl⟩ := C3.out (by omega)
              have gj : (j : Int) < pts.length := by omega
              have hne : ¬ pts = [] := by rintro rfl; exact absurd hpos (by simp)
              have hrot : (rot sv a)[m]? = some s.s := by
                rw [rot_get (by rw [HSL.out]; exact hal) (by rw [HSL.out]; exact hml), HSL.out, hjj, ← HSV.out, List.getElem?_map, hs0]
                rfl
              have Hpt := Lib.hid (fun (w2 : World) (hxx : Ext W w2) => (show ∀ i u, ([.int .i64 s.h, .int .i64 s.s, .int .i64 s.n] : List Value)[i]? = some u → w2.cell? ((ba.add (j * 3)).add i) = some u from fun i u hi => by
                refine hxx.cell ?_
                have := recs_get HV.out hs0 i u hi
                rwa [Addr.add_add] at this ⊢))
              have HG2 := Lib.hid ((grpS_step hlt hrot).symm.trans HI.out)
              obtain ⟨sh, ss, sn⟩ := s
              dsimp only at Hpt HG2
              have hwr : IntKind.i64.wrap ((a : Int) + m) = a + m := IntWalk.i64_in _ (by omega)
              have hmod : ((a : Int) + m).tmod pts.length = j := by
                rw [Int.tmod_eq_emod_of_nonneg (by omega), ← hjj, Int.natCast_emod, Int.natCast_add]
              clear HI hs0 hrot hjj
              go_upto_region 10 with (first | ((with_reducible refine k_load ?_); (first | refine st_load1 rfl _ _ rfl _ rfl rfl (Hg.out _ (HF.ext 1 rfl) 1 _ rfl) ?_ | refine st_load1 rfl _ _ rfl _ rfl rfl (Hg.out _ (HF.ext 1 rfl) 6 _ rfl) ?_); (intro K hK; go_simp)))
              apply wp_region_eff [15, 16] (fun i => (#[[], [], [], [], [], [], [], [], [], [], [], [], [], [], [], [], [15]] : Array (List Nat)).getD i []) (fun val i => (([_, .pointer (rpA g), .pointer (rpB g), .slice (some ba) pts.length p3, .int .i64 a, .int .i64 m, .int .i64 (a + m), _, .pointer (rpA g), .pointer (rpB g), .slice (some ba) pts.length p3, .int .i64 pts.length, .int .i64 j, _, .agg #[.int .i64 sh, .int .i64 ss, .int .i64 sn], val 15, val 16]) : List Value).toArray.getD i undef) (fun E val => At W ((if E 15 = true then PtrBlk (val 15) (.cells (if E 16 = true then #[.int .i64 sh, .int .i64 ss, .int .i64 sn] else #[.int .i64 0, .int .i64 0, .int .i64 0]) 81 (0, 0)) else emp) :: OI (.slice b3 out.length q3) out :: Arg W :: [])) (by kernel_rfl) (by kernel_rfl) (by kernel_rfl) (by kernel_rfl) (HF.addEmp)
              case step =>
                iterate 15 (refine ⟨eff_pl rfl (fun _ => by rfl) fun E val hn T ds w K H hk ho hK => ?_, ?_⟩; rotate_left)
                iterate 2 (refine ⟨eff_mk rfl (fun _ => by rfl) fun E val hE0 hcl hn T ds w K H hk ho hK => ?_, ?_⟩; rotate_left)
                exact trivial
                · have o0 := ho 0 (by kernel_rfl); clear ho; simp [know, dstAt, Region.binds] at hk o0; go_simp; exact hK _ H
                · clear ho; simp [know, dstAt, Region.binds] at hk; go_simp; exact hK _ H
                · clear ho; simp [know, dstAt, Region.binds] at hk; go_simp; exact hK _ H
                · clear ho; simp [know, dstAt, Region.binds] at hk
                  (refine op_load1T rfl hk (by kernel_rfl) (Hg.out _ (H.ext 2 rfl) 6 _ rfl) ?_; exact hK _ H)
                · have o7 := ho 7 (by kernel_rfl); clear ho; simp [know, dstAt, Region.binds] at hk o7; go_simp; exact hK _ H
                · have o8 := ho 8 (by kernel_rfl); clear ho; simp [know, dstAt, Region.binds] at hk o8; go_simp; exact hK _ H
                · clear ho; simp [know, dstAt, Region.binds] at hk; go_simp; exact hK _ H
                · have o0 := ho 0 (by kernel_rfl); clear ho; simp [know, dstAt, Region.binds] at hk o0; go_simp; exact hK _ H
                · clear ho; simp [know, dstAt, Region.binds] at hk; go_simp; exact hK _ H
                · clear ho; simp [know, dstAt, Region.binds] at hk; go_simp; exact hK _ H
                · clear ho; simp [know, dstAt, Region.binds] at hk
                  (refine op_load1T rfl hk (by kernel_rfl) (Hg.out _ (H.ext 2 rfl) 6 _ rfl) ?_; exact hK _ H)
                · clear ho; simp [know, dstAt, Region.binds] at hk; go_simp; exact hK _ H
                · clear ho; simp [know, dstAt, Region.binds] at hk; go_simp; exact hK _ H
                · clear ho; simp [know, dstAt, Region.binds] at hk; go_simp; exact hK _ H
                · clear ho; simp [know, dstAt, Region.binds] at hk
                  (refine op_cellsT (vs := [.int .i64 sh, .int .i64 ss, .int .i64 sn]) rfl hk a81 s81 (Hpt.out _ (H.ext 2 rfl)) ?_; exact hK _ H)
                · clear ho; simp [know, dstAt, Region.binds] at hk
                  (have q16 : E 16 = false := (by cases h : E 16 with | false => rfl | true => (have h2 := hcl 16 (by decide) h 15 (by decide); rw [hE0] at h2; cases h2))); (simp only [hE0, Bool.false_eq_true, if_false] at H); refine op_allocT rfl z81 rfl (H.sel 3 [1, 2]) ?_; (intro x w' H; refine hK _ _ ?_; have t15 : updE E 15 15 = true := rfl; have t16 : updE E 15 16 = false := q16; simp only [t15, t16, Bool.false_eq_true, if_true, if_false]; exact H)
                · clear ho; simp [know, dstAt, Region.binds] at hk
                  (have e15 := hn 15 (by decide)); (simp only [hE0, e15, Bool.false_eq_true, if_true, if_false] at H); (obtain ⟨g, hv15, HS⟩ := ptr_ex H); refine op_putT rfl (hk.1.trans hv15) hk.2.1 ?_ s81 HS 0 rfl rfl rfl ?_; (simp [Value.oneCell']); (intro w' H; refine hK _ _ ?_; have t15 : updE E 16 15 = true := e15; have t16 : updE E 16 16 = true := rfl; simp only [t15, t16, if_true]; exact (At.imp H fun _ hh => (⟨g, hv15, hh⟩ : PtrBlk (val 15) _ _)))
              case ins =>
                iterate 15 (refine ⟨ins_pl rfl (fun _ _ _ => rfl), ?_⟩)
                iterate 2 (refine ⟨ins_mk rfl (fun _ => rfl), ?_⟩)
                exact trivial
              case jns =>
                iterate 15 (refine ⟨j_pl (fun _ _ _ => rfl), ?_⟩)
                iterate 2 (refine ⟨j_mk rfl, ?_⟩)
                exact trivial
              case fin =>
                intro E val w5 hE H
                have e15 := hE 15 (by decide)
                have e16 := hE 16 (by decide)
                simp only [e15, e16, if_true] at H
                clear hE e15 e16 HF
                obtain ⟨g9, hv15, HX⟩ := ptr_ex H
                have HF : At W (Blk g9 (.cells #[.int .i64 sh, .int .i64 ss, .int .i64 sn] 81 (0, 0)) :: OI (.slice b3 out.length q3) out :: Arg W :: []) w5 := HX
                clear HX H
                simp [putAll, Act.put, hv15]
                clear hv15
                go_wp2_with ((with_reducible refine k_load ?_); refine st_load rfl _ _ rfl _ _ rfl ?_ HF 0 rfl rfl ?_; (kernel_rfl); (intro K hK; go_simp))
                refine (has (oi_recs (HF.pick 1 rfl)) ss HF).mono ?_
                rintro e w6 ⟨rfl, HX⟩
                clear HF
                have HF := HX
                clear HX
                by_cases hin : ss ∈ out
                · have hd : decide (ss ∈ out) = true := decide_eq_true hin
                  rw [add_in hin] at HG2
                  rw [hd]
                  clear hin hd
                  go_wp2_with fail
                  go_roundw
                  case rel => exact ⟨m + 1, out, b3, q3, by omega, rfl, rfl, hol, Lib.hid HG2.out, HF.sel 3 [1, 2]⟩
                  case measure => simp [intOf]; omega
                · have hd : decide (ss ∈ out) = false := decide_eq_false hin
                  rw [add_out hin] at HG2
                  rw [hd]
                  clear hin hd
                  go_wp2_with (first | ((with_reducible refine k_load ?_); refine st_load rfl _ _ rfl _ _ rfl ?_ HF 0 rfl rfl ?_; (kernel_rfl); (intro K hK; go_simp)) | ((with_reducible refine k_builtin ?_); refine st_append rfl _ _ _ rfl 3 Try.underlying27 1 st3 8 bt3 _ zt3 rfl (.slice b3 out.length q3) out.length (iCs out) rfl ((HF.alloc _).sel 4 [2, 0, 1, 3]) (some ⟨w6.heap.size, 0, none⟩) 1 1 [.int .i64 ss] rfl rfl (fun _ => ⟨_, rfl, cells_of ((HF.alloc _).get 0 rfl)⟩) (by simp [Value.oneCell']) ?_ ?_ ?_; ((try simp only [maxLen]); omega); (omega); (clear HF; intro v7 w HF K hK; obtain ⟨s4, u4, rfl, _⟩ := own_value HF; go_simp)))
                  go_roundw
                  case rel => exact ⟨m + 1, out ++ [ss], s4, u4, by omega, by rw [List.length_append]; rfl, rfl, by rw [List.length_append]; simp; omega, Lib.hid HG2.out, by rw [show (out ++ [ss]).length = out.length + 1 from by simp]; exact oi_snoc (HF.sel 4 [0, 3])⟩
                  case measure => simp [intOf]; omega
            · have gl : ¬ (out.length : Int) < 2 * (F : Int) + 1 := by omega
              have HE := Lib.hid (show out = R by rw [← HI.out, grpS_full hlt])
              clear HI
              go_wp2_with (first | ((with_reducible refine k_load ?_); (first | refine st_load1 rfl _ _ rfl _ rfl rfl (Hg.out _ (HF.ext 1 rfl) 1 _ rfl) ?_ | refine st_load1 rfl _ _ rfl _ rfl rfl (Hg.out _ (HF.ext 1 rfl) 6 _ rfl) ?_); (intro K hK; go_simp)))
              go_ret2
              refine .inl ⟨HKR.out, _, rfl, ?_⟩
              rw [HR.out, ← HE.out]
              exact HF.lift1 H0.out
          · have gm : ¬ (m : Int) < pts.length := by omega
            have HE := Lib.hid (show out = R by rw [← HI.out, List.drop_of_length_le (by rw [rot_len, HSL.out]; omega)]; rfl)
            clear HI
            go_wp2_with (first | ((with_reducible refine k_load ?_); (first | refine st_load1 rfl _ _ rfl _ rfl rfl (Hg.out _ (HF.ext 1 rfl) 1 _ rfl) ?_ | refine st_load1 rfl _ _ rfl _ rfl rfl (Hg.out _ (HF.ext 1 rfl) 6 _ rfl) ?_); (intro K hK; go_simp)))
            go_ret2
            refine .inl ⟨HKR.out, _, rfl, ?_⟩
            rw [HR.out, ← HE.out]
            exact HF.lift1 H0.out
end
end Rg
end Go.Proofs.Ytohfboolicheeaa
