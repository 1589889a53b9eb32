/-
  For any configuration, keys and names the law RingHashes answers true: hashes, order and buckets are the document's.
-/
import Derived.Test.YtohfboolicheeaaRgArgs2
import Derived.Test.YtohfboolicheeaaRgShare
import Derived.Test.YtohfboolicheeaaRgText
import Derived.Test.YtohfboolicheeaaRgLess
import Derived.ProofKit
namespace Go.Proofs.Ytohfboolicheeaa
open Go.Hp Go.RowKit Go.ChangeShapes Go.WideShapes
set_option linter.unusedVariables false
set_option linter.unusedSimpArgs false
set_option maxRecDepth 100000
namespace ringHashes
open Rg
namespace Lw
abbrev arg_Config := @Rg.arg_Config
abbrev arg_keys := @Rg.arg_keys
abbrev arg_strs := @Rg.arg_strs
end Lw
def TwoR (w : World) (c : Cf) (pa pb : Option Addr) : Prop := (pa = none ∧ pb = none) ∨ ∃ S pts g1 g2, RightC c S ∧ pa = some ⟨g1, 0, none⟩ ∧ pb = some ⟨g2, 0, none⟩ ∧ RgF 84 w (.pointer pa) c (sortI S) pts ∧ RgF 45 w (.pointer pb) c (sortI S) pts
section
variable {W : World}

set_option maxHeartbeats 2000000 in
theorem walk {va vk vn : Value} {x : Cg} (ha : CfArg W va x) {l : List Ky} (hk : KysArg W vk l) {ns : List ByteArray} (hn : StrsArg W vn ns) :
    Calls Try.prog 9 #[va, vk, vn] W fun e w => e = .returned (.bool true) ∧ Below W.heap.size W w := by
  obtain ⟨rfl, hs, hn9, _⟩ := ha
  obtain ⟨c, S, vs⟩ := x
  obtain ⟨hc1, hc2⟩ := hk
  obtain ⟨hm1, hm2⟩ := hn
  dsimp only at *
  have HF := At.of W
  obtain ⟨adc, capc, rfl, c1, c2, c3⟩ := hc1.value
  obtain ⟨adn, capn, rfl, n1, n2, n3⟩ := hm1.value
  rw [List.length_map] at c1 c3 hc1 n1 n3 hm1
  have hl63 : l.length ≤ 9223372036854775807 := by simp only [maxLen] at c2; omega
  have hn63 : ns.length ≤ 9223372036854775807 := by simp only [maxLen] at n2; omega
  have HC := Lib.hid hc1
  have C3 := Lib.hid c3
  have HM := Lib.hid hm1
  have HM2 := Lib.hid hm2
  have N3 := Lib.hid n3
  obtain ⟨ads, caps, rfl, s1, s2, s3⟩ := hs.value
  rw [List.length_map] at hs s1 s3
  rw [List.length_map, List.length_map]
  have HS := Lib.hid hs
  have HN := Lib.hid hn9
  clear hc1 hc2 c1 c2 c3 hs s1 s2 s3 hn9 hm1 hm2 n1 n2 n3
  simp only [Cg.cells]
  go_enter Try.func9, Try.ntmps9
  go_wp2_with (first | ((with_reducible refine k_box ?_); refine st_box rfl _ _ rfl _ rfl HF ?_; (clear HF; intro g4 w HF K hK; simp only [Value.cells, Act.eval, Value.cells, Array.getD_eq_getD_getElem?, List.getElem?_toArray, List.getElem?_cons_succ, List.getElem?_cons_zero, Option.getD_some] at HF; go_simp)) | ((with_reducible refine k_load (T := 29) ?_); refine st_row rfl _ _ rfl _ rfl a29 6 s29 HF 0 rfl rfl ?_; (intro K hK; go_simp)) | ((with_reducible refine k_load (T := 29) ?_); refine st_loads rfl _ _ rfl _ _ rfl a29 6 s29 HF 0 rfl ?_ ?_; (simp); (intro K hK; go_simp)))
  have hb2 : ∀ (e : Ending) (w2 : World), BothPost W [Blk g4 (.cells #[.slice ads S.length caps, .int .i64 c.F, .int .i64 c.P, .int .i64 c.B, .int .i64 c.K, .int .i64 c.R] 29 (0, 0)), Arg W] c S e w2 → ∃ pa pb, e = .returned (.tuple #[.pointer pa, .pointer pb, .bool true]) ∧ Hid (TwoR w2 c pa pb) ∧ At W [Arg W] w2 := by
    rintro e w2 (⟨hRC, g1, g2, rfl, HX⟩ | ⟨hRC, rfl, HX⟩)
    · exact ⟨_, _, rfl, Lib.hid (.inr ⟨_, _, g1, g2, hRC, rfl, rfl, rgf_of (HX.pick 0 rfl), rgf_of (HX.pick 1 rfl)⟩), HX.sel 4 [3]⟩
    · exact ⟨_, _, rfl, Lib.hid (.inl ⟨rfl, rfl⟩), HX.sel 2 [1]⟩
  refine (both (c := c) (HS.out.ext (HF.ext 1 rfl)) HN.out HF).mono ?_
  intro e w2 hpost
  obtain ⟨pa, pb, rfl, HT, HX⟩ := hb2 e w2 hpost
  clear HF hpost hb2
  have HB := Lib.hid HX
  have HF := At.of w2
  have XA := Lib.hid (HX.ext 0 rfl)
  clear HX
  go_wp2_with fail
  refine (known HF).mono ?_
  rintro e w3 ⟨rfl, HX⟩
  clear HF
  have HF := HX
  clear HX
  go_wp2_with fail
  go_loopw [10] (fun i wr => ∃ k : Nat, k ≤ l.length ∧ i = .int .i64 k ∧ At w2 (Arg w2 :: []) wr) (fun i _ => l.length - (intOf i).toNat)
  case atStart => exact ⟨0, Nat.zero_le _, rfl, HF⟩
  case round =>
    clear HF
    obtain ⟨k, hk, rfl, HF⟩ := hrel
    by_cases hlt : k < l.length
    · have gk : (k : Int) < l.length := by omega
      obtain ⟨ky, hkk⟩ : ∃ ky, l[k]? = some ky := ⟨_, List.getElem?_eq_getElem hlt⟩
      obtain ⟨bc, rfl⟩ := C3.out (by omega)
      have Hc := Lib.hid (fun (w3 : World) (hx : Ext w2 w3) j u hj => hx.cell (XA.out.cell (recs_get HC.out hkk j u hj)))
      clear hkk
      obtain ⟨h, hh⟩ : ∃ h, hashK ky = h := ⟨_, rfl⟩
      have HH1 := Lib.hid (fun (w2 : World) (M : List HProp) (w0 : World) (HM : At w0 M w2) => hashP HM ky)
      have HH2 := Lib.hid (fun (w2 : World) (M : List HProp) (w0 : World) (HM : At w0 M w2) => rhashP HM ky)
      rw [hh] at HH1 HH2
      clear hh
      have HL1 := Lib.hid (fun (w2 : World) (M : List HProp) (w0 : World) (b : Ky) (HM : At w0 M w2) => less HM ky b)
      have HL2 := Lib.hid (fun (w2 : World) (M : List HProp) (w0 : World) (b : Ky) (HM : At w0 M w2) => rless HM ky b)
      obtain ⟨k1, k2, k3, k4⟩ := ky
      dsimp only at HH1 HH2 HL1 HL2
      go_wp2_with fail
      apply wp_region_eff [] (fun i => (#[[], [], [], [], [], [], [], [], [], [], []] : Array (List Nat)).getD i []) (fun val i => (([_, _, _, .agg #[.int .i64 k1, .int .i64 k2, .int .i64 k3, .int .i64 k4], .int .i64 h, _, _, _, .agg #[.int .i64 k1, .int .i64 k2, .int .i64 k3, .int .i64 k4], .int .i64 h, .bool false]) : List Value).toArray.getD i undef) (fun E val => At w2 (Arg w2 :: [])) (by kernel_rfl) (by kernel_rfl) (by kernel_rfl) (by kernel_rfl) (HF)
      case step =>
        iterate 11 (refine ⟨eff_pl rfl (fun _ => by rfl) fun E val hn T ds w K H hk ho hK => ?_, ?_⟩; rotate_left)
        exact trivial
        · have o1 := ho 1 (by kernel_rfl); clear ho; simp [know, dstAt, Region.binds] at hk o1; go_simp; exact hK _ H
        · have o10 := ho 10 (by kernel_rfl); clear ho; simp [know, dstAt, Region.binds] at hk o10; go_simp; exact hK _ H
        · clear ho; simp [know, dstAt, Region.binds] at hk; go_simp; exact hK _ H
        · clear ho; simp [know, dstAt, Region.binds] at hk
          (refine op_cellsT (vs := [.int .i64 k1, .int .i64 k2, .int .i64 k3, .int .i64 k4]) rfl hk a38 s38 (Hc.out _ (H.ext 0 rfl)) ?_; exact hK _ H)
        · clear ho; simp [know, dstAt, Region.binds] at hk
          (go_simp; refine (HH1.out _ _ _ H).mono ?_; rintro e w' ⟨rfl, H⟩; exact hK _ H)
        · have o1 := ho 1 (by kernel_rfl); clear ho; simp [know, dstAt, Region.binds] at hk o1; go_simp; exact hK _ H
        · have o10 := ho 10 (by kernel_rfl); clear ho; simp [know, dstAt, Region.binds] at hk o10; go_simp; exact hK _ H
        · clear ho; simp [know, dstAt, Region.binds] at hk; go_simp; exact hK _ H
        · clear ho; simp [know, dstAt, Region.binds] at hk
          (refine op_cellsT (vs := [.int .i64 k1, .int .i64 k2, .int .i64 k3, .int .i64 k4]) rfl hk a38 s38 (Hc.out _ (H.ext 0 rfl)) ?_; exact hK _ H)
        · clear ho; simp [know, dstAt, Region.binds] at hk
          (go_simp; refine (HH2.out _ _ _ H).mono ?_; rintro e w' ⟨rfl, H⟩; exact hK _ H)
        · clear ho; simp [know, dstAt, Region.binds] at hk; go_simp; exact hK _ H
      case ins =>
        iterate 11 (refine ⟨ins_pl rfl (fun _ _ _ => rfl), ?_⟩)
        exact trivial
      case jns =>
        iterate 11 (refine ⟨j_pl (fun _ _ _ => rfl), ?_⟩)
        exact trivial
      case fin =>
        intro E val w5 hE H
        clear HF hE
        have HF := H
        clear H
        simp [putAll, Act.put]
        go_wp2_with fail
        go_loopw [11] (fun i wr => ∃ m : Nat, m ≤ 64 ∧ m ≤ l.length ∧ i = .int .i64 m ∧ At w2 (Arg w2 :: []) wr) (fun i _ => 64 - (intOf i).toNat)
        case atStart => exact ⟨0, Nat.zero_le _, Nat.zero_le _, rfl, HF⟩
        case round =>
          clear HF
          obtain ⟨m, hm64, hm, rfl, HF⟩ := hrel
          by_cases hml : m < l.length
          · have gm : (m : Int) < l.length := by omega
            by_cases hm6 : m < 64
            · have gm6 : (m : Int) < 64 := by omega
              obtain ⟨kz, hkk⟩ : ∃ kz, l[m]? = some kz := ⟨_, List.getElem?_eq_getElem hml⟩
              have Hd := Lib.hid (fun (w3 : World) (hx : Ext w2 w3) j u hj => hx.cell (XA.out.cell (recs_get HC.out hkk j u hj)))
              clear hkk
              obtain ⟨r, hr⟩ : ∃ r, lessS ⟨k1, k2, k3, k4⟩ kz = r := ⟨_, rfl⟩
              have HM1 := Lib.hid (fun (w2 : World) (M : List HProp) (w0 : World) (HM : At w0 M w2) => HL1.out w2 M w0 kz HM)
              have HM2 := Lib.hid (fun (w2 : World) (M : List HProp) (w0 : World) (HM : At w0 M w2) => HL2.out w2 M w0 kz HM)
              rw [hr] at HM1 HM2
              clear hr
              obtain ⟨z1, z2, z3, z4⟩ := kz
              dsimp only at HM1 HM2
              go_wp2_with fail
              apply wp_region_eff [] (fun i => (#[[], [], [], [], [], [], [], [], [], [], [], [], [], [], [], [], [], [], []] : Array (List Nat)).getD i []) (fun val i => (([_, _, _, .agg #[.int .i64 k1, .int .i64 k2, .int .i64 k3, .int .i64 k4], _, _, _, .agg #[.int .i64 z1, .int .i64 z2, .int .i64 z3, .int .i64 z4], .bool r, _, _, _, .agg #[.int .i64 k1, .int .i64 k2, .int .i64 k3, .int .i64 k4], _, _, _, .agg #[.int .i64 z1, .int .i64 z2, .int .i64 z3, .int .i64 z4], .bool r, .bool false]) : List Value).toArray.getD i undef) (fun E val => At w2 (Arg w2 :: [])) (by kernel_rfl) (by kernel_rfl) (by kernel_rfl) (by kernel_rfl) (HF)
              case step =>
                iterate 19 (refine ⟨eff_pl rfl (fun _ => by rfl) fun E val hn T ds w K H hk ho hK => ?_, ?_⟩; rotate_left)
                exact trivial
                · have o1 := ho 1 (by kernel_rfl); clear ho; simp [know, dstAt, Region.binds] at hk o1; go_simp; exact hK _ H
                · have o10 := ho 10 (by kernel_rfl); clear ho; simp [know, dstAt, Region.binds] at hk o10; go_simp; exact hK _ H
                · clear ho; simp [know, dstAt, Region.binds] at hk; go_simp; exact hK _ H
                · clear ho; simp [know, dstAt, Region.binds] at hk
                  (refine op_cellsT (vs := [.int .i64 k1, .int .i64 k2, .int .i64 k3, .int .i64 k4]) rfl hk a38 s38 (Hc.out _ (H.ext 0 rfl)) ?_; exact hK _ H)
                · have o1 := ho 1 (by kernel_rfl); clear ho; simp [know, dstAt, Region.binds] at hk o1; go_simp; exact hK _ H
                · have o11 := ho 11 (by kernel_rfl); clear ho; simp [know, dstAt, Region.binds] at hk o11; go_simp; exact hK _ H
                · clear ho; simp [know, dstAt, Region.binds] at hk; go_simp; exact hK _ H
                · clear ho; simp [know, dstAt, Region.binds] at hk
                  (refine op_cellsT (vs := [.int .i64 z1, .int .i64 z2, .int .i64 z3, .int .i64 z4]) rfl hk a38 s38 (Hd.out _ (H.ext 0 rfl)) ?_; exact hK _ H)
                · clear ho; simp [know, dstAt, Region.binds] at hk
                  (go_simp; refine (HM1.out _ _ _ H).mono ?_; rintro e w' ⟨rfl, H⟩; exact hK _ H)
                · have o1 := ho 1 (by kernel_rfl); clear ho; simp [know, dstAt, Region.binds] at hk o1; go_simp; exact hK _ H
                · have o10 := ho 10 (by kernel_rfl); clear ho; simp [know, dstAt, Region.binds] at hk o10; go_simp; exact hK _ H
                · clear ho; simp [know, dstAt, Region.binds] at hk; go_simp; exact hK _ H
                · clear ho; simp [know, dstAt, Region.binds] at hk
                  (refine op_cellsT (vs := [.int .i64 k1, .int .i64 k2, .int .i64 k3, .int .i64 k4]) rfl hk a38 s38 (Hc.out _ (H.ext 0 rfl)) ?_; exact hK _ H)
                · have o1 := ho 1 (by kernel_rfl); clear ho; simp [know, dstAt, Region.binds] at hk o1; go_simp; exact hK _ H
                · have o11 := ho 11 (by kernel_rfl); clear ho; simp [know, dstAt, Region.binds] at hk o11; go_simp; exact hK _ H
                · clear ho; simp [know, dstAt, Region.binds] at hk; go_simp; exact hK _ H
                · clear ho; simp [know, dstAt, Region.binds] at hk
                  (refine op_cellsT (vs := [.int .i64 z1, .int .i64 z2, .int .i64 z3, .int .i64 z4]) rfl hk a38 s38 (Hd.out _ (H.ext 0 rfl)) ?_; exact hK _ H)
                · clear ho; simp [know, dstAt, Region.binds] at hk
                  (go_simp; refine (HM2.out _ _ _ H).mono ?_; rintro e w' ⟨rfl, H⟩; exact hK _ H)
                · clear ho; simp [know, dstAt, Region.binds] at hk; go_simp; exact hK _ H
              case ins =>
                iterate 19 (refine ⟨ins_pl rfl (fun _ _ _ => rfl), ?_⟩)
                exact trivial
              case jns =>
                iterate 19 (refine ⟨j_pl (fun _ _ _ => rfl), ?_⟩)
                exact trivial
              case fin =>
                intro E val w6 hE H
                clear HF hE
                have HF := H
                clear H
                simp [putAll, Act.put]
                go_wp2_with fail
                go_roundw
                case rel => exact ⟨m + 1, by omega, by omega, rfl, HF⟩
                case measure => simp [intOf]; omega
            · have gm6 : ¬ (m : Int) < 64 := by omega
              go_wp2_with fail
              go_roundw
              case rel => exact ⟨k + 1, by omega, rfl, HF⟩
              case measure => simp [intOf]; omega
          · have gm : ¬ (m : Int) < l.length := by omega
            go_wp2_with fail
            go_roundw
            case rel => exact ⟨k + 1, by omega, rfl, HF⟩
            case measure => simp [intOf]; omega
    · have gk : ¬ (k : Int) < l.length := by omega
      rcases HT.out with ⟨rfl, rfl⟩ | ⟨S2, pts, g1, g2, hRC, rfl, rfl, r1, r2⟩
      · go_wp2_with fail
        go_ret
        exact ⟨rfl, (HF.lift0 HB.out).below 0 rfl⟩
      · have R1 := Lib.hid r1
        have R2 := Lib.hid r2
        have HR := Lib.hid hRC
        clear r1 r2 hRC HT
        have HB1 := Lib.hid (fun (w3 : World) (M : List HProp) (s : ByteArray) (hz : s.size ≤ maxLen) (hx : Ext w2 w3) (HM : At w2 M w3) => bucketP (R1.out.ext hx) HR.out.b s hz HM)
        have HB2 := Lib.hid (fun (w3 : World) (M : List HProp) (s : ByteArray) (hz : s.size ≤ maxLen) (hx : Ext w2 w3) (HM : At w2 M w3) => rbucket (R2.out.ext hx) HR.out.b s (by simp only [maxLen] at hz; omega) HM)
        go_wp2_with fail
        go_loopw [12] (fun i wr => ∃ m : Nat, m ≤ ns.length ∧ i = .int .i64 m ∧ At w2 (Arg w2 :: []) wr) (fun i _ => ns.length - (intOf i).toNat)
        case atStart => exact ⟨0, Nat.zero_le _, rfl, HF⟩
        case round =>
          clear HF
          obtain ⟨m, hm, rfl, HF⟩ := hrel
          by_cases hml : m < ns.length
          · have gm : (m : Int) < ns.length := by omega
            obtain ⟨s, hss⟩ : ∃ s, ns[m]? = some s := ⟨_, List.getElem?_eq_getElem hml⟩
            obtain ⟨bn, rfl⟩ := N3.out (by omega)
            have Hd := Lib.hid (fun (w3 : World) (hx : Ext w2 w3) => hx.cell (XA.out.cell (recs_str HM.out hss)))
            have HZ := Lib.hid (HM2.out s (List.mem_of_getElem? hss))
            clear hss
            obtain ⟨r, hr⟩ : ∃ r, (textS s : Int) % c.B = r := ⟨_, rfl⟩
            have HM1 := Lib.hid (fun (w3 : World) (M : List HProp) (hx : Ext w2 w3) (HM : At w2 M w3) => HB1.out w3 M s HZ.out hx HM)
            have HM3 := Lib.hid (fun (w3 : World) (M : List HProp) (hx : Ext w2 w3) (HM : At w2 M w3) => HB2.out w3 M s HZ.out hx HM)
            rw [hr] at HM1 HM3
            clear hr
            go_wp2_with fail
            apply wp_region_eff [] (fun i => (#[[], [], [], [], [], [], [], [], [], [], [], [], []] : Array (List Nat)).getD i []) (fun val i => ((_ :: _ :: _ :: _ :: .string s :: .int .i64 r :: _ :: _ :: _ :: _ :: .string s :: .int .i64 r :: .bool false :: []) : List Value).toArray.getD i undef) (fun E val => At w2 (Arg w2 :: [])) (by kernel_rfl) (by kernel_rfl) (by kernel_rfl) (by kernel_rfl) (HF)
            case step =>
              iterate 13 (refine ⟨eff_pl rfl (fun _ => by rfl) fun E val hn T ds w K H hk ho hK => ?_, ?_⟩; rotate_left)
              exact trivial
              · have o7 := ho 7 (by kernel_rfl); clear ho; simp [know, dstAt, Region.binds] at hk o7; go_simp; exact hK _ H
              · have o2 := ho 2 (by kernel_rfl); clear ho; simp [know, dstAt, Region.binds] at hk o2; go_simp; exact hK _ H
              · have o12 := ho 12 (by kernel_rfl); clear ho; simp [know, dstAt, Region.binds] at hk o12; go_simp; exact hK _ H
              · clear ho; simp [know, dstAt, Region.binds] at hk; go_simp; exact hK _ H
              · clear ho; simp [know, dstAt, Region.binds] at hk
                (refine op_load1T rfl hk (by kernel_rfl) (Hd.out _ (H.ext 0 rfl)) ?_; exact hK _ H)
              · clear ho; simp [know, dstAt, Region.binds] at hk
                (go_simp; refine (HM1.out _ _ (H.ext 0 rfl) H).mono ?_; rintro e w' ⟨rfl, H⟩; exact hK _ H)
              · have o8 := ho 8 (by kernel_rfl); clear ho; simp [know, dstAt, Region.binds] at hk o8; go_simp; exact hK _ H
              · have o2 := ho 2 (by kernel_rfl); clear ho; simp [know, dstAt, Region.binds] at hk o2; go_simp; exact hK _ H
              · have o12 := ho 12 (by kernel_rfl); clear ho; simp [know, dstAt, Region.binds] at hk o12; go_simp; exact hK _ H
              · clear ho; simp [know, dstAt, Region.binds] at hk; go_simp; exact hK _ H
              · clear ho; simp [know, dstAt, Region.binds] at hk
                (refine op_load1T rfl hk (by kernel_rfl) (Hd.out _ (H.ext 0 rfl)) ?_; exact hK _ H)
              · clear ho; simp [know, dstAt, Region.binds] at hk
                (go_simp; refine (HM3.out _ _ (H.ext 0 rfl) H).mono ?_; rintro e w' ⟨rfl, H⟩; exact hK _ H)
              · clear ho; simp [know, dstAt, Region.binds] at hk; go_simp; exact hK _ H
            case ins =>
              iterate 13 (refine ⟨ins_pl rfl (fun _ _ _ => rfl), ?_⟩)
              exact trivial
            case jns =>
              iterate 13 (refine ⟨j_pl (fun _ _ _ => rfl), ?_⟩)
              exact trivial
            case fin =>
              intro E val w6 hE H
              clear HF hE
              have HF := H
              clear H
              simp [putAll, Act.put]
              go_wp2_with fail
              go_roundw
              case rel => exact ⟨m + 1, by omega, rfl, HF⟩
              case measure => simp [intOf]; omega
          · have gm : ¬ (m : Int) < ns.length := by omega
            go_wp2_with fail
            go_ret
            exact ⟨rfl, (HF.lift0 HB.out).below 0 rfl⟩
end

theorem own : ownKnob Try.prog.godebug = none := by kernel_rfl

theorem lifted (os : Os) (started : os.Started) (H : Type) (enc : TypeId × Value → H) :
    ReturnsInHanded {} Try.checked os 9 .any (Rows.ringHashesSpec.pre6 enc Try.prog Try.f9 Rows.ringHashesRow.domain false) (Rows.ringHashesSpec.post enc Try.prog Try.f9 false true false false) := by
  refine frame_true (C := Try.checked) started own (by kernel_rfl) Try.func9
    (ChangeSpec.witness6 (enc := enc) (C := Try.checked) false ⟨#[], #[.agg #[.slice none 0 0, .int .i64 0, .int .i64 0, .int .i64 0, .int .i64 0, .int .i64 0], .slice none 0 0, .slice none 0 0], []⟩ 8 (by kernel_rfl) (by kernel_rfl) (by kernel_rfl) (by kernel_rfl)) rfl ?_ (by kernel_rfl) (by kernel_rfl) (by kernel_rfl) Try.underlying4 ?_
  · intro ds hds
    match ds, hds with
    | [_, _, _], _ => rfl
  · rintro W args ds p ⟨base, hval⟩ hA hwt
    have hp : Try.f9.params.toList = [29, 33, 64] := by rw [Try.params9]
    rw [hp] at hA hwt
    obtain ⟨v0, r0, d0, e0, p0, q0, ha, rfl, rfl, h0, hA⟩ := trodAll_cons hA
    obtain ⟨v1, r1, d1, e1, p1, q1, rfl, rfl, rfl, h1, hA⟩ := trodAll_cons hA
    obtain ⟨v2, r2, d2, e2, p2, q2, rfl, rfl, rfl, h2, hA⟩ := trodAll_cons hA
    obtain ⟨rfl, rfl, rfl⟩ := trodAll_nil hA
    have ha2 : args = #[v0, v1, v2] := by cases args; simp_all
    subst ha2
    simp only [DataW.weightsEach, List.all_append, Bool.and_eq_true] at hwt
    obtain ⟨a0, b0⟩ := Lw.arg_Config (hval 0 _ _ (by rw [Try.params9]; rfl) rfl) h0 hwt.1
    obtain ⟨a1, b1⟩ := Lw.arg_keys (hval 1 _ _ (by rw [Try.params9]; rfl) rfl) h1 hwt.2.1
    obtain ⟨a2, b2⟩ := Lw.arg_strs (hval 2 _ _ (by rw [Try.params9]; rfl) rfl) h2 hwt.2.2.1
    exact walk b0 b1 b2

theorem over : Rows.ringHashesRow.holds Try.pinned (OpenSpec.ofChange Rows.ringHashesSpec) :=
  OpenClaim.holds_of_wide 9 Try.f9 rfl rfl rfl rfl rfl rfl rfl ⟨rfl, rfl, rfl, rfl, rfl⟩ rfl rfl rfl rfl rfl (by kernel_rfl) Try.func9 (by kernel_rfl)
    (of_decide_eq_true (by kernel_rfl)) (by unfold Func.isWrapper; first | (rw [if_pos (by decide +kernel)]; kernel_rfl) | (rw [if_neg (by decide +kernel)]; exact ⟨rfl, rfl⟩))
    (fun os started H enc _ => lifted os started H enc)

theorem proved : Rows.RingHashesSaid := over
#print axioms proved
end ringHashes
end Go.Proofs.Ytohfboolicheeaa
