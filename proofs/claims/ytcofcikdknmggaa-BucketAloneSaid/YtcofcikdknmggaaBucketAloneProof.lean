/-
  For any room, any row of commands and any name the law BucketAlone answers true: a command changes the entry of its name alone and the Last of its client alone, and as long as there is room the entry of a name is what the commands with that name alone make.
-/
import Derived.Test.YtcofcikdknmggaaBkArgs2
import Derived.Test.YtcofcikdknmggaaBkAln
import Derived.Test.YtcofcikdknmggaaBkCmd
import Derived.ProofKit
namespace Go.Proofs.Ytcofcikdknmggaa
open Go.Hp Go.RowKit Go.ChangeShapes Go.WideShapes
set_option linter.unusedVariables false
set_option linter.unusedSimpArgs false
set_option maxRecDepth 100000
namespace bucketAlone
open Bk
namespace Lw
abbrev arg_int := @Bk.arg_int
abbrev arg_cmds := @Bk.arg_cmds
abbrev arg_string := @Bk.arg_string
end Lw
section
variable {W : World}

set_option maxHeartbeats 4000000 in
theorem walk {vn vc vs : Value} {room : Int} (hn : IntArg vn room) {l : List Cm} (hc : CmsArg W vc l) {name : ByteArray} (hs : StrArg vs name) :
    Calls Try.prog 6 #[vn, vc, vs] W fun e w => e = .returned (.bool true) ∧ Below W.heap.size W w := by
  obtain ⟨rfl, _⟩ := hn
  obtain ⟨hc1, hc2⟩ := hc
  obtain rfl := hs
  have HF := At.of W
  obtain ⟨adc, capc, rfl, c1, c2, c3⟩ := hc1.value
  rw [List.length_map] at c1 c3 hc1
  have HC := Lib.hid hc1
  have C3 := Lib.hid c3
  have le : l.length ≤ 140737488355328 := by omega
  simp only [List.length_map]
  clear hc1 c3 c1 c2 hc2
  have tok : True := trivial
  go_enter Try.func6, Try.ntmps6
  go_wp2_with (first | ((with_reducible refine k_alloc (T := 25) ?_); (have _t := tok); refine st_alloc rfl _ rfl _ z25 _ rfl HF ?_; (clear HF tok _t; intro g7 w HF K hK; simp only [Value.cells] at HF; go_simp)) | ((with_reducible refine k_alloc (T := 25) ?_); refine st_alloc rfl _ rfl _ z25 _ rfl HF ?_; (clear HF; intro g8 w HF K hK; simp only [Value.cells] at HF; go_simp)))
  replace HF : At W (OE (.slice none 0 0) [] :: _) _ := own_nil HF 39 4
  replace HF : At W (OL (.slice none 0 0) [] :: _) _ := ol_nil HF
  replace HF : At W (OE (.slice none 0 0) [] :: _) _ := own_nil HF 39 4
  replace HF : At W (OL (.slice none 0 0) [] :: _) _ := ol_nil HF
  replace HF := HF.sel 7 [5, 4, 3, 2, 1, 0, 6]
  go_loopw [9, 10] (fun rv i wr => ∃ (k : Nat) (b al : Bu) (ry : Bool) (b1 : Option Addr) (m1 p1 : Nat) (b2 : Option Addr) (m2 p2 : Nat) (a1 : Option Addr) (n1 q1 : Nat) (a2 : Option Addr) (n2 q2 : Nat), k ≤ l.length ∧ rv = .bool ry ∧ i = .int .i64 k ∧ Hid (AI k name b al ry) ∧
    At W (Blk g7 (.cells #[.int .i64 b.u, .slice b1 m1 p1, .slice b2 m2 p2] 25 (0, 0)) :: Blk g8 (.cells #[.int .i64 al.u, .slice a1 n1 q1, .slice a2 n2 q2] 25 (0, 0)) :: OE (.slice b1 m1 p1) b.es :: OL (.slice b2 m2 p2) b.ls :: OE (.slice a1 n1 q1) al.es :: OL (.slice a2 n2 q2) al.ls :: Arg W :: []) wr) (fun _ i _ => l.length - (intOf i).toNat)
  case atStart => exact ⟨0, ⟨0, [], []⟩, ⟨0, [], []⟩, true, _, _, _, _, _, _, _, _, _, _, _, _, Nat.zero_le _, rfl, rfl, Lib.hid (ai_zero name), HF⟩
  case round =>
    clear HF
    obtain ⟨k, b, al, ry, b1, m1, p1, b2, m2, p2, a1, n1, q1, a2, n2, q2, hk, rfl, rfl, HAI, HF⟩ := hrel
    by_cases hlt : k < l.length
    · by_cases h4 : k < 400
      · have g1 : (k : Int) < l.length := by omega
        have g2 : (k : Int) < 400 := by omega
        obtain ⟨c, hcc⟩ : ∃ c, l[k]? = some c := ⟨_, List.getElem?_eq_getElem hlt⟩
        obtain ⟨bc, rfl⟩ := C3.out (by omega)
        have Hc := Lib.hid (fun j u hj => (HF.ext 6 rfl).cell (recs_get HC.out hcc j u hj))
        obtain ⟨kd, cl, op, nm, fc, fo, nc, no, sz⟩ := c
        clear hcc
        go_wp2_with (first | ((with_reducible refine k_load (T := 29) ?_); refine st_loadCells rfl _ _ rfl _ rfl a29 [.int .i64 kd, .int .i64 cl, .int .i64 op, .string nm, .int .i64 fc, .int .i64 fo, .int .i64 nc, .int .i64 no, .int .i64 sz] s29 Hc.out ?_; (intro K hK; go_simp)) | ((with_reducible refine k_alloc (T := 29) ?_); refine st_alloc rfl _ rfl _ z29 _ rfl HF ?_; (clear HF; intro g11 w HF K hK; simp only [Value.cells] at HF; go_simp)) | ((with_reducible refine k_store (T := 29) ?_); refine st_put rfl _ _ _ rfl _ rfl _ rfl ?_ s29 HF 0 rfl rfl ?_; (simp [Value.oneCell']); (clear HF; intro w HF K hK; simp only [List.set_cons_zero, List.set_cons_succ, Act.eval, Value.cells, Array.getD_eq_getD_getElem?, List.getElem?_toArray, List.getElem?_cons_succ, List.getElem?_cons_zero, Option.getD_some] at HF; go_simp)) | ((with_reducible refine k_load (T := 29) ?_); refine st_row rfl _ _ rfl _ rfl a29 9 s29 HF 0 rfl rfl ?_; (intro K hK; go_simp)) | ((with_reducible refine k_load (T := 29) ?_); refine st_loads rfl _ _ rfl _ _ rfl a29 9 s29 HF 0 rfl ?_ ?_; (simp); (intro K hK; go_simp)))
        refine (command HF ⟨kd, cl, op, nm, fc, fo, nc, no, sz⟩).mono ?_
        rintro e w4 ⟨r2, rfl, hr2, HX⟩
        clear HF Hc
        have HF := HX
        clear HX
        have Hr2 := Lib.hid hr2
        clear hr2
        cases r2 with
        | false =>
          go_wp2_with fail
          go_roundw
          case rel => exact ⟨k + 1, b, al, ry, b1, m1, p1, b2, m2, p2, a1, n1, q1, a2, n2, q2, by omega, rfl, rfl, Lib.hid (ai_skip HAI.out), HF.drop⟩
          case measure => simp [intOf]; omega
        | true =>
          have HCO := Lib.hid (Hr2.out rfl)
          clear Hr2
          have HBN := Lib.hid (bi_next (room := room) HAI.out.bi h4 HCO.out)
          have HBA := Lib.hid (bi_next (room := room) HAI.out.ai h4 HCO.out)
          have HI1 := Lib.hid (fun (h : nm ≠ name) (ry2 : Bool) (hr : ry2 = true → ry = true) => ai_other (room := room) (ry2 := ry2) HAI.out h4 HCO.out h hr)
          have HI2 := Lib.hid (fun (h : nm = name) (ry2 : Bool) (hr : ry2 = true → ry = true ∧ _) => ai_own (room := room) (ry2 := ry2) HAI.out h4 HCO.out h hr)
          have hb1 := HAI.out.bi.le
          have hb2 := HAI.out.bi.ll
          have hb3 := HAI.out.bi.u0
          have ha1 := HAI.out.ai.le
          have ha2 := HAI.out.ai.ll
          have ha3 := HAI.out.ai.u0
          have HA := Lib.hid (fun (w2 : World) (M : List HProp) (v1 v2 : Value) (h1 : RecsAt w2 v1 4 (b.es.map En.cells)) (h2 : RecsAt w2 v2 7 (b.ls.map La.cells)) (HM : At W M w2) => Apply (room := room) (b := b) (c := ⟨kd, cl, op, nm, fc, fo, nc, no, sz⟩) h1 h2 (by omega) (by omega) (by omega) HM)
          have HA2 := Lib.hid (fun (w2 : World) (M : List HProp) (v1 v2 : Value) (h1 : RecsAt w2 v1 4 (al.es.map En.cells)) (h2 : RecsAt w2 v2 7 (al.ls.map La.cells)) (HM : At W M w2) => Apply (room := room) (b := al) (c := ⟨kd, cl, op, nm, fc, fo, nc, no, sz⟩) h1 h2 (by omega) (by omega) (by omega) HM)
          obtain ⟨R, hR⟩ : ∃ R, ApplyS b ⟨kd, cl, op, nm, fc, fo, nc, no, sz⟩ room = R := ⟨_, rfl⟩
          obtain ⟨R2, hR2⟩ : ∃ R, ApplyS al ⟨kd, cl, op, nm, fc, fo, nc, no, sz⟩ room = R := ⟨_, rfl⟩
          rw [hR] at HBN HI1 HI2 HA
          rw [hR2] at HBA HI2 HA2
          clear hR hR2
          obtain ⟨⟨er0, ⟨aerr, ⟨an, af, ao, az⟩, aL⟩⟩, ⟨nu, nes, nls⟩⟩ := R
          obtain ⟨⟨er1, ⟨xerr, ⟨xn, xf, xo, xs⟩, xL⟩⟩, ⟨xu, xes, xls⟩⟩ := R2
          obtain ⟨z1, z2, z3, z4⟩ := HBN.out
          obtain ⟨y1, y2, -, -⟩ := HBA.out
          dsimp only at z1 y1
          subst z1 y1
          have hne : nes.length ≤ 140737488355328 := by have := z2.le; dsimp only at this; omega
          have hnl : nls.length ≤ 140737488355328 := by have := z2.ll; dsimp only at this; omega
          have hbe : b.es.length ≤ 140737488355328 := by omega
          have hbl : b.ls.length ≤ 140737488355328 := by omega
          have Z3 := Lib.hid (fun h => z3 name h)
          have Z4 := Lib.hid z4
          clear z2 z3 z4 y2 HBN HBA hb1 hb2 hb3 ha1 ha2 ha3
          dsimp only at Z3 Z4
          go_wp2_with (first | ((with_reducible refine k_load (T := 25) ?_); (first | refine st_row rfl _ _ rfl _ rfl a25 3 s25 HF 0 rfl rfl ?_ | refine st_row rfl _ _ rfl _ rfl a25 3 s25 HF 1 rfl rfl ?_); (intro K hK; go_simp)) | ((with_reducible refine k_load (T := 25) ?_); (first | refine st_loads rfl _ _ rfl _ _ rfl a25 3 s25 HF 0 rfl ?_ ?_ | refine st_loads rfl _ _ rfl _ _ rfl a25 3 s25 HF 1 rfl ?_ ?_); (simp); (intro K hK; go_simp)) | ((with_reducible refine k_load (T := 29) ?_); (first | refine st_row rfl _ _ rfl _ rfl a29 9 s29 HF 0 rfl rfl ?_ | refine st_row rfl _ _ rfl _ rfl a29 9 s29 HF 1 rfl rfl ?_); (intro K hK; go_simp)) | ((with_reducible refine k_load (T := 29) ?_); (first | refine st_loads rfl _ _ rfl _ _ rfl a29 9 s29 HF 0 rfl ?_ ?_ | refine st_loads rfl _ _ rfl _ _ rfl a29 9 s29 HF 1 rfl ?_ ?_); (simp); (intro K hK; go_simp)))
          refine (HA.out _ _ _ _ (oe_recs (HF.pick 3 rfl)) (ol_recs (HF.pick 4 rfl)) HF).mono ?_
          rintro e w5 ⟨v1, v2, v3, rfl, HX⟩
          clear HF HA
          obtain ⟨s1, t1, u1, rfl⟩ := own_form HX
          obtain ⟨s2, t2, u2, rfl⟩ := own_form (HX.pick 1 rfl)
          obtain ⟨s3, t3, u3, rfl⟩ := own_form (HX.pick 2 rfl)
          have HF := HX
          clear HX
          dsimp only [anV]
          obtain ⟨⟨⟨qn, qf, qo, qs⟩, qb⟩, hq⟩ : ∃ q, findS b.es name = q := ⟨_, rfl⟩
          obtain ⟨⟨⟨rn, rf, ro, rs⟩, rb⟩, hr⟩ : ∃ q, findS nes name = q := ⟨_, rfl⟩
          have HQ := Lib.hid hq
          have HR := Lib.hid hr
          cases hnm : nEq nm name with
          | true =>
            have hne2 := nEq_eq hnm
            have HI := Lib.hid (HI2.out hne2)
            clear HI1 HI2 Z3 hq hr hne2
            unfold nEq at hnm
            have hnm2 : (nm.toList != name.toList) = false := by unfold bne; rw [hnm]; rfl
            cases ry with
            | true =>
              go_wp2_with (first | ((with_reducible refine k_alloc (T := 25) ?_); refine st_alloc rfl _ rfl _ z25 _ rfl HF ?_; (clear HF; intro g12 w HF K hK; simp only [Value.cells] at HF; go_simp)) | ((with_reducible refine k_alloc (T := 41) ?_); refine st_alloc rfl _ rfl _ z41 _ rfl HF ?_; (clear HF; intro g13 w HF K hK; simp only [Value.cells] at HF; go_simp)) | ((with_reducible refine k_store (T := 25) ?_); refine st_put rfl _ _ _ rfl _ rfl _ rfl ?_ s25 HF 1 rfl rfl ?_; (simp [Value.oneCell']); (clear HF; intro w HF K hK; simp only [List.set_cons_zero, List.set_cons_succ, Act.eval, Value.cells, Array.getD_eq_getD_getElem?, List.getElem?_toArray, List.getElem?_cons_succ, List.getElem?_cons_zero, Option.getD_some] at HF; go_simp)) | ((with_reducible refine k_store (T := 41) ?_); refine st_put rfl _ _ _ rfl _ rfl _ rfl ?_ s41 HF 0 rfl rfl ?_; (simp [Value.oneCell']); (clear HF; intro w HF K hK; simp only [List.set_cons_zero, List.set_cons_succ, Act.eval, Value.cells, Array.getD_eq_getD_getElem?, List.getElem?_toArray, List.getElem?_cons_succ, List.getElem?_cons_zero, Option.getD_some] at HF; go_simp)) | ((with_reducible refine k_load (T := 25) ?_); refine st_row rfl _ _ rfl _ rfl a25 3 s25 HF 6 rfl rfl ?_; (intro K hK; go_simp)) | ((with_reducible refine k_load (T := 25) ?_); refine st_loads rfl _ _ rfl _ _ rfl a25 3 s25 HF 6 rfl ?_ ?_; (simp); (intro K hK; go_simp)) | ((with_reducible refine k_load ?_); refine st_load rfl _ _ rfl _ _ rfl ?_ HF 0 rfl rfl ?_; (kernel_rfl); (intro K hK; go_simp)))
              replace HF : At W (Blk g13 (.cells #[.int .i64 aerr, .string an, .int .i64 af, .int .i64 ao, .int .i64 az, .slice s3 t3 u3] 41 (0, 0)) :: Blk g12 (.cells #[.int .i64 nu, .slice s1 t1 u1, .slice s2 t2 u2] 25 (0, 0)) :: OE (.slice s1 t1 u1) nes :: OL (.slice s2 t2 u2) nls :: Blk g11 (.cells #[.int .i64 kd, .int .i64 cl, .int .i64 op, .string nm, .int .i64 fc, .int .i64 fo, .int .i64 nc, .int .i64 no, .int .i64 sz] 29 (0, 0)) :: Blk g7 (.cells #[.int .i64 b.u, .slice b1 m1 p1, .slice b2 m2 p2] 25 (0, 0)) :: Blk g8 (.cells #[.int .i64 al.u, .slice a1 n1 q1, .slice a2 n2 q2] 25 (0, 0)) :: OE (.slice b1 m1 p1) b.es :: OL (.slice b2 m2 p2) b.ls :: OE (.slice a1 n1 q1) al.es :: OL (.slice a2 n2 q2) al.ls :: Arg W :: []) _ := HF.sel 13 [0, 1, 2, 3, 5, 6, 7, 8, 9, 10, 11, 12]
              refine (find (oe_recs (HF.pick 7 rfl)) hbe HF).mono ?_
              rw [HQ.out]
              dsimp only [En.cells]
              rintro e w6 ⟨rfl, HX⟩
              clear HF
              have HF := HX
              clear HX
              go_wp2_with (first | ((with_reducible refine k_alloc (T := 39) ?_); refine st_alloc rfl _ rfl _ z39 _ rfl HF ?_; (clear HF; intro g15 w HF K hK; simp only [Value.cells] at HF; go_simp)) | ((with_reducible refine k_store (T := 39) ?_); refine st_put rfl _ _ _ rfl _ rfl _ rfl ?_ s39 HF 0 rfl rfl ?_; (simp [Value.oneCell']); (clear HF; intro w HF K hK; simp only [List.set_cons_zero, List.set_cons_succ, Act.eval, Value.cells, Array.getD_eq_getD_getElem?, List.getElem?_toArray, List.getElem?_cons_succ, List.getElem?_cons_zero, Option.getD_some] at HF; go_simp)) | ((with_reducible refine k_load (T := 25) ?_); refine st_row rfl _ _ rfl _ rfl a25 3 s25 HF 2 rfl rfl ?_; (intro K hK; go_simp)) | ((with_reducible refine k_load (T := 25) ?_); refine st_loads rfl _ _ rfl _ _ rfl a25 3 s25 HF 2 rfl ?_ ?_; (simp); (intro K hK; go_simp)))
              refine (find (oe_recs (HF.pick 3 rfl)) hne HF).mono ?_
              rw [HR.out]
              dsimp only [En.cells]
              rintro e w7 ⟨rfl, HX⟩
              clear HF
              have HF := HX
              clear HX
              go_wp2_with (first | ((with_reducible refine k_alloc (T := 39) ?_); refine st_alloc rfl _ rfl _ z39 _ rfl HF ?_; (clear HF; intro g17 w HF K hK; simp only [Value.cells] at HF; go_simp)) | ((with_reducible refine k_store (T := 39) ?_); refine st_put rfl _ _ _ rfl _ rfl _ rfl ?_ s39 HF 0 rfl rfl ?_; (simp [Value.oneCell']); (clear HF; intro w HF K hK; simp only [List.set_cons_zero, List.set_cons_succ, Act.eval, Value.cells, Array.getD_eq_getD_getElem?, List.getElem?_toArray, List.getElem?_cons_succ, List.getElem?_cons_zero, Option.getD_some] at HF; go_simp)) | ((with_reducible refine k_load ?_); refine st_load rfl _ _ rfl _ _ rfl ?_ HF 6 rfl rfl ?_; (kernel_rfl); (intro K hK; go_simp)))
              replace HF : At W (Blk g12 (.cells #[.int .i64 nu, .slice s1 t1 u1, .slice s2 t2 u2] 25 (0, 0)) :: OE (.slice s1 t1 u1) nes :: OL (.slice s2 t2 u2) nls :: Blk g11 (.cells #[.int .i64 kd, .int .i64 cl, .int .i64 op, .string nm, .int .i64 fc, .int .i64 fo, .int .i64 nc, .int .i64 no, .int .i64 sz] 29 (0, 0)) :: Blk g7 (.cells #[.int .i64 b.u, .slice b1 m1 p1, .slice b2 m2 p2] 25 (0, 0)) :: Blk g8 (.cells #[.int .i64 al.u, .slice a1 n1 q1, .slice a2 n2 q2] 25 (0, 0)) :: OE (.slice b1 m1 p1) b.es :: OL (.slice b2 m2 p2) b.ls :: OE (.slice a1 n1 q1) al.es :: OL (.slice a2 n2 q2) al.ls :: Arg W :: []) _ := HF.sel 14 [3, 4, 5, 6, 7, 8, 9, 10, 11, 12, 13]
              go_loopw [19] (fun i wr => ∃ m : Nat, 1 ≤ m ∧ m ≤ 7 ∧ i = .int .i64 m ∧ At W (Blk g12 (.cells #[.int .i64 nu, .slice s1 t1 u1, .slice s2 t2 u2] 25 (0, 0)) :: OE (.slice s1 t1 u1) nes :: OL (.slice s2 t2 u2) nls :: Blk g11 (.cells #[.int .i64 kd, .int .i64 cl, .int .i64 op, .string nm, .int .i64 fc, .int .i64 fo, .int .i64 nc, .int .i64 no, .int .i64 sz] 29 (0, 0)) :: Blk g7 (.cells #[.int .i64 b.u, .slice b1 m1 p1, .slice b2 m2 p2] 25 (0, 0)) :: Blk g8 (.cells #[.int .i64 al.u, .slice a1 n1 q1, .slice a2 n2 q2] 25 (0, 0)) :: OE (.slice b1 m1 p1) b.es :: OL (.slice b2 m2 p2) b.ls :: OE (.slice a1 n1 q1) al.es :: OL (.slice a2 n2 q2) al.ls :: Arg W :: []) wr) (fun i _ => 7 - (intOf i).toNat)
              case atStart => exact ⟨1, by omega, by omega, rfl, HF⟩
              case round =>
                clear HF
                obtain ⟨m, hm1, hm7, rfl, HF⟩ := hrel
                by_cases hm : m ≤ 6
                · have g3 : (m : Int) ≤ 6 := by omega
                  obtain ⟨⟨⟨ka, kb, kc, kk, ke, kf, kg⟩, kz⟩, hq⟩ : ∃ q, lastF b.ls m = q := ⟨_, rfl⟩
                  obtain ⟨⟨⟨ra, rb2, rc, rd, re, rf2, rg⟩, rz⟩, hr⟩ : ∃ q, lastF nls m = q := ⟨_, rfl⟩
                  have HK := Lib.hid hq
                  have HK2 := Lib.hid hr
                  go_wp2_with (first | ((with_reducible refine k_load (T := 25) ?_); refine st_row rfl _ _ rfl _ rfl a25 3 s25 HF 4 rfl rfl ?_; (intro K hK; go_simp)) | ((with_reducible refine k_load (T := 25) ?_); refine st_loads rfl _ _ rfl _ _ rfl a25 3 s25 HF 4 rfl ?_ ?_; (simp); (intro K hK; go_simp)))
                  refine (lastP (ol_recs (HF.pick 7 rfl)) hbl HF).mono ?_
                  rw [HK.out]
                  dsimp only [La.cells]
                  rintro e w8 ⟨rfl, HX⟩
                  clear HF
                  have HF := HX
                  clear HX
                  go_wp2_with (first | ((with_reducible refine k_alloc (T := 53) ?_); refine st_alloc rfl _ rfl _ z53 _ rfl HF ?_; (clear HF; intro g20 w HF K hK; simp only [Value.cells] at HF; go_simp)) | ((with_reducible refine k_store (T := 53) ?_); refine st_put rfl _ _ _ rfl _ rfl _ rfl ?_ s53 HF 0 rfl rfl ?_; (simp [Value.oneCell']); (clear HF; intro w HF K hK; simp only [List.set_cons_zero, List.set_cons_succ, Act.eval, Value.cells, Array.getD_eq_getD_getElem?, List.getElem?_toArray, List.getElem?_cons_succ, List.getElem?_cons_zero, Option.getD_some] at HF; go_simp)) | ((with_reducible refine k_load (T := 25) ?_); refine st_row rfl _ _ rfl _ rfl a25 3 s25 HF 1 rfl rfl ?_; (intro K hK; go_simp)) | ((with_reducible refine k_load (T := 25) ?_); refine st_loads rfl _ _ rfl _ _ rfl a25 3 s25 HF 1 rfl ?_ ?_; (simp); (intro K hK; go_simp)))
                  refine (lastP (ol_recs (HF.pick 3 rfl)) hnl HF).mono ?_
                  rw [HK2.out]
                  dsimp only [La.cells]
                  rintro e w9 ⟨rfl, HX⟩
                  clear HF
                  have HF := HX
                  clear HX
                  by_cases h5 : (m : Int) = cl
                  · have h5a : ((m : Int) == cl) = true := by simpa using h5
                    have h5b : ((m : Int) != cl) = false := by simpa using h5
                    by_cases h6 : kd = 3
                    · have h6a : (kd == 3) = true := by simpa using h6
                      have hqr := Z4.out m (.inr (.inl h6))
                      clear h5 h6
                      rw [hq, hr] at hqr
                      cases hqr
                      clear hq hr
                      have hz3 : ∀ w, (Op.equalIn 10000 53 (.agg #[.int .i64 ka, .int .i64 kb, .int .i64 kc, .int .i64 kk, .int .i64 ke, .int .i64 kf, .int .i64 kg]) (.agg #[.int .i64 ka, .int .i64 kb, .int .i64 kc, .int .i64 kk, .int .i64 ke, .int .i64 kf, .int .i64 kg])).run Try.prog w = .ok true w := fun w => run_eq_self 9 (by decide) fLast a53 (La.fits ⟨ka, kb, kc, kk, ke, kf, kg⟩)
                      go_wp2_with (first | ((with_reducible refine k_alloc (T := 53) ?_); refine st_alloc rfl _ rfl _ z53 _ rfl HF ?_; (clear HF; intro g22 w HF K hK; simp only [Value.cells] at HF; go_simp)) | ((with_reducible refine k_store (T := 53) ?_); refine st_put rfl _ _ _ rfl _ rfl _ rfl ?_ s53 HF 0 rfl rfl ?_; (simp [Value.oneCell']); (clear HF; intro w HF K hK; simp only [List.set_cons_zero, List.set_cons_succ, Act.eval, Value.cells, Array.getD_eq_getD_getElem?, List.getElem?_toArray, List.getElem?_cons_succ, List.getElem?_cons_zero, Option.getD_some] at HF; go_simp)) | ((with_reducible refine k_load (T := 53) ?_); (first | refine st_row rfl _ _ rfl _ rfl a53 7 s53 HF 0 rfl rfl ?_ | refine st_row rfl _ _ rfl _ rfl a53 7 s53 HF 1 rfl rfl ?_); (intro K hK; go_simp)) | ((with_reducible refine k_load (T := 53) ?_); (first | refine st_loads rfl _ _ rfl _ _ rfl a53 7 s53 HF 0 rfl ?_ ?_ | refine st_loads rfl _ _ rfl _ _ rfl a53 7 s53 HF 1 rfl ?_ ?_); (simp); (intro K hK; go_simp)) | ((with_reducible refine k_load ?_); refine st_load rfl _ _ rfl _ _ rfl ?_ HF 5 rfl rfl ?_; (kernel_rfl); (intro K hK; go_simp)))
                      go_roundw
                      case rel => exact ⟨m + 1, by omega, by omega, rfl, HF.drop.drop⟩
                      case measure => simp [intOf]; omega
                    · have h6a : (kd == 3) = false := by simpa using h6
                      by_cases h7 : kd = 4
                      · have h7a : (kd == 4) = true := by simpa using h7
                        have hqr := Z4.out m (.inr (.inr h7))
                        clear h5 h6 h7
                        rw [hq, hr] at hqr
                        cases hqr
                        clear hq hr
                        have hz3 : ∀ w, (Op.equalIn 10000 53 (.agg #[.int .i64 ka, .int .i64 kb, .int .i64 kc, .int .i64 kk, .int .i64 ke, .int .i64 kf, .int .i64 kg]) (.agg #[.int .i64 ka, .int .i64 kb, .int .i64 kc, .int .i64 kk, .int .i64 ke, .int .i64 kf, .int .i64 kg])).run Try.prog w = .ok true w := fun w => run_eq_self 9 (by decide) fLast a53 (La.fits ⟨ka, kb, kc, kk, ke, kf, kg⟩)
                        go_wp2_with (first | ((with_reducible refine k_alloc (T := 53) ?_); refine st_alloc rfl _ rfl _ z53 _ rfl HF ?_; (clear HF; intro g22 w HF K hK; simp only [Value.cells] at HF; go_simp)) | ((with_reducible refine k_store (T := 53) ?_); refine st_put rfl _ _ _ rfl _ rfl _ rfl ?_ s53 HF 0 rfl rfl ?_; (simp [Value.oneCell']); (clear HF; intro w HF K hK; simp only [List.set_cons_zero, List.set_cons_succ, Act.eval, Value.cells, Array.getD_eq_getD_getElem?, List.getElem?_toArray, List.getElem?_cons_succ, List.getElem?_cons_zero, Option.getD_some] at HF; go_simp)) | ((with_reducible refine k_load (T := 53) ?_); (first | refine st_row rfl _ _ rfl _ rfl a53 7 s53 HF 0 rfl rfl ?_ | refine st_row rfl _ _ rfl _ rfl a53 7 s53 HF 1 rfl rfl ?_); (intro K hK; go_simp)) | ((with_reducible refine k_load (T := 53) ?_); (first | refine st_loads rfl _ _ rfl _ _ rfl a53 7 s53 HF 0 rfl ?_ ?_ | refine st_loads rfl _ _ rfl _ _ rfl a53 7 s53 HF 1 rfl ?_ ?_); (simp); (intro K hK; go_simp)) | ((with_reducible refine k_load ?_); refine st_load rfl _ _ rfl _ _ rfl ?_ HF 5 rfl rfl ?_; (kernel_rfl); (intro K hK; go_simp)))
                        go_roundw
                        case rel => exact ⟨m + 1, by omega, by omega, rfl, HF.drop.drop⟩
                        case measure => simp [intOf]; omega
                      · have h7a : (kd == 4) = false := by simpa using h7
                        clear h5 h6 h7 hq hr
                        go_wp2_with (first | ((with_reducible refine k_alloc (T := 53) ?_); refine st_alloc rfl _ rfl _ z53 _ rfl HF ?_; (clear HF; intro g22 w HF K hK; simp only [Value.cells] at HF; go_simp)) | ((with_reducible refine k_store (T := 53) ?_); refine st_put rfl _ _ _ rfl _ rfl _ rfl ?_ s53 HF 0 rfl rfl ?_; (simp [Value.oneCell']); (clear HF; intro w HF K hK; simp only [List.set_cons_zero, List.set_cons_succ, Act.eval, Value.cells, Array.getD_eq_getD_getElem?, List.getElem?_toArray, List.getElem?_cons_succ, List.getElem?_cons_zero, Option.getD_some] at HF; go_simp)) | ((with_reducible refine k_load (T := 53) ?_); (first | refine st_row rfl _ _ rfl _ rfl a53 7 s53 HF 0 rfl rfl ?_ | refine st_row rfl _ _ rfl _ rfl a53 7 s53 HF 1 rfl rfl ?_); (intro K hK; go_simp)) | ((with_reducible refine k_load (T := 53) ?_); (first | refine st_loads rfl _ _ rfl _ _ rfl a53 7 s53 HF 0 rfl ?_ ?_ | refine st_loads rfl _ _ rfl _ _ rfl a53 7 s53 HF 1 rfl ?_ ?_); (simp); (intro K hK; go_simp)) | ((with_reducible refine k_load ?_); refine st_load rfl _ _ rfl _ _ rfl ?_ HF 5 rfl rfl ?_; (kernel_rfl); (intro K hK; go_simp)))
                        go_roundw
                        case rel => exact ⟨m + 1, by omega, by omega, rfl, HF.drop.drop⟩
                        case measure => simp [intOf]; omega
                  · have h5a : ((m : Int) == cl) = false := by simpa using h5
                    have h5b : ((m : Int) != cl) = true := by simpa using h5
                    have hqr := Z4.out m (.inl h5)
                    clear h5
                    rw [hq, hr] at hqr
                    cases hqr
                    clear hq hr
                    have hz3 : ∀ w, (Op.equalIn 10000 53 (.agg #[.int .i64 ka, .int .i64 kb, .int .i64 kc, .int .i64 kk, .int .i64 ke, .int .i64 kf, .int .i64 kg]) (.agg #[.int .i64 ka, .int .i64 kb, .int .i64 kc, .int .i64 kk, .int .i64 ke, .int .i64 kf, .int .i64 kg])).run Try.prog w = .ok true w := fun w => run_eq_self 9 (by decide) fLast a53 (La.fits ⟨ka, kb, kc, kk, ke, kf, kg⟩)
                    go_wp2_with (first | ((with_reducible refine k_alloc (T := 53) ?_); refine st_alloc rfl _ rfl _ z53 _ rfl HF ?_; (clear HF; intro g22 w HF K hK; simp only [Value.cells] at HF; go_simp)) | ((with_reducible refine k_store (T := 53) ?_); refine st_put rfl _ _ _ rfl _ rfl _ rfl ?_ s53 HF 0 rfl rfl ?_; (simp [Value.oneCell']); (clear HF; intro w HF K hK; simp only [List.set_cons_zero, List.set_cons_succ, Act.eval, Value.cells, Array.getD_eq_getD_getElem?, List.getElem?_toArray, List.getElem?_cons_succ, List.getElem?_cons_zero, Option.getD_some] at HF; go_simp)) | ((with_reducible refine k_load (T := 53) ?_); (first | refine st_row rfl _ _ rfl _ rfl a53 7 s53 HF 0 rfl rfl ?_ | refine st_row rfl _ _ rfl _ rfl a53 7 s53 HF 1 rfl rfl ?_); (intro K hK; go_simp)) | ((with_reducible refine k_load (T := 53) ?_); (first | refine st_loads rfl _ _ rfl _ _ rfl a53 7 s53 HF 0 rfl ?_ ?_ | refine st_loads rfl _ _ rfl _ _ rfl a53 7 s53 HF 1 rfl ?_ ?_); (simp); (intro K hK; go_simp)) | ((with_reducible refine k_load ?_); refine st_load rfl _ _ rfl _ _ rfl ?_ HF 5 rfl rfl ?_; (kernel_rfl); (intro K hK; go_simp)))
                    go_roundw
                    case rel => exact ⟨m + 1, by omega, by omega, rfl, HF.drop.drop⟩
                    case measure => simp [intOf]; omega
                · have g3 : ¬ (m : Int) ≤ 6 := by omega
                  go_wp2_with (first | ((with_reducible refine k_load (T := 25) ?_); (first | refine st_row rfl _ _ rfl _ rfl a25 3 s25 HF 3 rfl rfl ?_ | refine st_row rfl _ _ rfl _ rfl a25 3 s25 HF 5 rfl rfl ?_); (intro K hK; go_simp)) | ((with_reducible refine k_load (T := 25) ?_); (first | refine st_loads rfl _ _ rfl _ _ rfl a25 3 s25 HF 3 rfl ?_ ?_ | refine st_loads rfl _ _ rfl _ _ rfl a25 3 s25 HF 5 rfl ?_ ?_); (simp); (intro K hK; go_simp)) | ((with_reducible refine k_load (T := 29) ?_); (first | refine st_row rfl _ _ rfl _ rfl a29 9 s29 HF 3 rfl rfl ?_ | refine st_row rfl _ _ rfl _ rfl a29 9 s29 HF 5 rfl rfl ?_); (intro K hK; go_simp)) | ((with_reducible refine k_load (T := 29) ?_); (first | refine st_loads rfl _ _ rfl _ _ rfl a29 9 s29 HF 3 rfl ?_ ?_ | refine st_loads rfl _ _ rfl _ _ rfl a29 9 s29 HF 5 rfl ?_ ?_); (simp); (intro K hK; go_simp)) | ((with_reducible refine k_load ?_); refine st_load rfl _ _ rfl _ _ rfl ?_ HF 3 rfl rfl ?_; (kernel_rfl); (intro K hK; go_simp)))
                  refine (HA2.out _ _ _ _ (oe_recs (HF.pick 8 rfl)) (ol_recs (HF.pick 9 rfl)) HF).mono ?_
                  rintro e w10 ⟨v1, v2, v3, rfl, HX⟩
                  clear HF
                  obtain ⟨s4, t4, u4, rfl⟩ := own_form HX
                  obtain ⟨s5, t5, u5, rfl⟩ := own_form (HX.pick 1 rfl)
                  obtain ⟨s6, t6, u6, rfl⟩ := own_form (HX.pick 2 rfl)
                  have HF := HX
                  clear HX
                  dsimp only [anV]
                  go_wp2_with (first | ((with_reducible refine k_load (T := 25) ?_); refine st_row rfl _ _ rfl _ rfl a25 3 s25 HF 3 rfl rfl ?_; (intro K hK; go_simp)) | ((with_reducible refine k_load (T := 25) ?_); refine st_loads rfl _ _ rfl _ _ rfl a25 3 s25 HF 3 rfl ?_ ?_; (simp); (intro K hK; go_simp)) | ((with_reducible refine k_store (T := 25) ?_); refine st_put rfl _ _ _ rfl _ rfl _ rfl ?_ s25 HF 8 rfl rfl ?_; (simp [Value.oneCell']); (clear HF; intro w HF K hK; simp only [List.set_cons_zero, List.set_cons_succ, Act.eval, Value.cells, Array.getD_eq_getD_getElem?, List.getElem?_toArray, List.getElem?_cons_succ, List.getElem?_cons_zero, Option.getD_some] at HF; go_simp)) | ((with_reducible refine k_store (T := 25) ?_); refine st_put rfl _ _ _ rfl _ rfl _ rfl ?_ s25 HF 7 rfl rfl ?_; (simp [Value.oneCell']); (clear HF; intro w HF K hK; simp only [List.set_cons_zero, List.set_cons_succ, Act.eval, Value.cells, Array.getD_eq_getD_getElem?, List.getElem?_toArray, List.getElem?_cons_succ, List.getElem?_cons_zero, Option.getD_some] at HF; go_simp)))
                  go_roundw
                  case rel => exact ⟨k + 1, ⟨nu, nes, nls⟩, ⟨xu, xes, xls⟩, _, s1, t1, u1, s2, t2, u2, s4, t4, u4, s5, t5, u5, by omega, rfl, rfl, Lib.hid (HI.out _ (by intro h; first | (cases h; done) | exact ⟨(by trivial), (by simpa using h)⟩)), HF.sel 14 [7, 8, 4, 5, 0, 1, 13]⟩
                  case measure => simp [intOf]; omega
            | false =>
              go_wp2_with (first | ((with_reducible refine k_alloc (T := 25) ?_); refine st_alloc rfl _ rfl _ z25 _ rfl HF ?_; (clear HF; intro g12 w HF K hK; simp only [Value.cells] at HF; go_simp)) | ((with_reducible refine k_alloc (T := 41) ?_); refine st_alloc rfl _ rfl _ z41 _ rfl HF ?_; (clear HF; intro g13 w HF K hK; simp only [Value.cells] at HF; go_simp)) | ((with_reducible refine k_store (T := 25) ?_); refine st_put rfl _ _ _ rfl _ rfl _ rfl ?_ s25 HF 1 rfl rfl ?_; (simp [Value.oneCell']); (clear HF; intro w HF K hK; simp only [List.set_cons_zero, List.set_cons_succ, Act.eval, Value.cells, Array.getD_eq_getD_getElem?, List.getElem?_toArray, List.getElem?_cons_succ, List.getElem?_cons_zero, Option.getD_some] at HF; go_simp)) | ((with_reducible refine k_store (T := 41) ?_); refine st_put rfl _ _ _ rfl _ rfl _ rfl ?_ s41 HF 0 rfl rfl ?_; (simp [Value.oneCell']); (clear HF; intro w HF K hK; simp only [List.set_cons_zero, List.set_cons_succ, Act.eval, Value.cells, Array.getD_eq_getD_getElem?, List.getElem?_toArray, List.getElem?_cons_succ, List.getElem?_cons_zero, Option.getD_some] at HF; go_simp)) | ((with_reducible refine k_load (T := 25) ?_); refine st_row rfl _ _ rfl _ rfl a25 3 s25 HF 6 rfl rfl ?_; (intro K hK; go_simp)) | ((with_reducible refine k_load (T := 25) ?_); refine st_loads rfl _ _ rfl _ _ rfl a25 3 s25 HF 6 rfl ?_ ?_; (simp); (intro K hK; go_simp)) | ((with_reducible refine k_load ?_); refine st_load rfl _ _ rfl _ _ rfl ?_ HF 0 rfl rfl ?_; (kernel_rfl); (intro K hK; go_simp)))
              replace HF : At W (Blk g13 (.cells #[.int .i64 aerr, .string an, .int .i64 af, .int .i64 ao, .int .i64 az, .slice s3 t3 u3] 41 (0, 0)) :: Blk g12 (.cells #[.int .i64 nu, .slice s1 t1 u1, .slice s2 t2 u2] 25 (0, 0)) :: OE (.slice s1 t1 u1) nes :: OL (.slice s2 t2 u2) nls :: Blk g11 (.cells #[.int .i64 kd, .int .i64 cl, .int .i64 op, .string nm, .int .i64 fc, .int .i64 fo, .int .i64 nc, .int .i64 no, .int .i64 sz] 29 (0, 0)) :: Blk g7 (.cells #[.int .i64 b.u, .slice b1 m1 p1, .slice b2 m2 p2] 25 (0, 0)) :: Blk g8 (.cells #[.int .i64 al.u, .slice a1 n1 q1, .slice a2 n2 q2] 25 (0, 0)) :: OE (.slice b1 m1 p1) b.es :: OL (.slice b2 m2 p2) b.ls :: OE (.slice a1 n1 q1) al.es :: OL (.slice a2 n2 q2) al.ls :: Arg W :: []) _ := HF.sel 13 [0, 1, 2, 3, 5, 6, 7, 8, 9, 10, 11, 12]
              refine (find (oe_recs (HF.pick 7 rfl)) hbe HF).mono ?_
              rw [HQ.out]
              dsimp only [En.cells]
              rintro e w6 ⟨rfl, HX⟩
              clear HF
              have HF := HX
              clear HX
              go_wp2_with (first | ((with_reducible refine k_alloc (T := 39) ?_); refine st_alloc rfl _ rfl _ z39 _ rfl HF ?_; (clear HF; intro g15 w HF K hK; simp only [Value.cells] at HF; go_simp)) | ((with_reducible refine k_store (T := 39) ?_); refine st_put rfl _ _ _ rfl _ rfl _ rfl ?_ s39 HF 0 rfl rfl ?_; (simp [Value.oneCell']); (clear HF; intro w HF K hK; simp only [List.set_cons_zero, List.set_cons_succ, Act.eval, Value.cells, Array.getD_eq_getD_getElem?, List.getElem?_toArray, List.getElem?_cons_succ, List.getElem?_cons_zero, Option.getD_some] at HF; go_simp)) | ((with_reducible refine k_load (T := 25) ?_); refine st_row rfl _ _ rfl _ rfl a25 3 s25 HF 2 rfl rfl ?_; (intro K hK; go_simp)) | ((with_reducible refine k_load (T := 25) ?_); refine st_loads rfl _ _ rfl _ _ rfl a25 3 s25 HF 2 rfl ?_ ?_; (simp); (intro K hK; go_simp)))
              refine (find (oe_recs (HF.pick 3 rfl)) hne HF).mono ?_
              rw [HR.out]
              dsimp only [En.cells]
              rintro e w7 ⟨rfl, HX⟩
              clear HF
              have HF := HX
              clear HX
              go_wp2_with (first | ((with_reducible refine k_alloc (T := 39) ?_); refine st_alloc rfl _ rfl _ z39 _ rfl HF ?_; (clear HF; intro g17 w HF K hK; simp only [Value.cells] at HF; go_simp)) | ((with_reducible refine k_store (T := 39) ?_); refine st_put rfl _ _ _ rfl _ rfl _ rfl ?_ s39 HF 0 rfl rfl ?_; (simp [Value.oneCell']); (clear HF; intro w HF K hK; simp only [List.set_cons_zero, List.set_cons_succ, Act.eval, Value.cells, Array.getD_eq_getD_getElem?, List.getElem?_toArray, List.getElem?_cons_succ, List.getElem?_cons_zero, Option.getD_some] at HF; go_simp)) | ((with_reducible refine k_load ?_); refine st_load rfl _ _ rfl _ _ rfl ?_ HF 6 rfl rfl ?_; (kernel_rfl); (intro K hK; go_simp)))
              replace HF : At W (Blk g12 (.cells #[.int .i64 nu, .slice s1 t1 u1, .slice s2 t2 u2] 25 (0, 0)) :: OE (.slice s1 t1 u1) nes :: OL (.slice s2 t2 u2) nls :: Blk g11 (.cells #[.int .i64 kd, .int .i64 cl, .int .i64 op, .string nm, .int .i64 fc, .int .i64 fo, .int .i64 nc, .int .i64 no, .int .i64 sz] 29 (0, 0)) :: Blk g7 (.cells #[.int .i64 b.u, .slice b1 m1 p1, .slice b2 m2 p2] 25 (0, 0)) :: Blk g8 (.cells #[.int .i64 al.u, .slice a1 n1 q1, .slice a2 n2 q2] 25 (0, 0)) :: OE (.slice b1 m1 p1) b.es :: OL (.slice b2 m2 p2) b.ls :: OE (.slice a1 n1 q1) al.es :: OL (.slice a2 n2 q2) al.ls :: Arg W :: []) _ := HF.sel 14 [3, 4, 5, 6, 7, 8, 9, 10, 11, 12, 13]
              go_loopw [19] (fun i wr => ∃ m : Nat, 1 ≤ m ∧ m ≤ 7 ∧ i = .int .i64 m ∧ At W (Blk g12 (.cells #[.int .i64 nu, .slice s1 t1 u1, .slice s2 t2 u2] 25 (0, 0)) :: OE (.slice s1 t1 u1) nes :: OL (.slice s2 t2 u2) nls :: Blk g11 (.cells #[.int .i64 kd, .int .i64 cl, .int .i64 op, .string nm, .int .i64 fc, .int .i64 fo, .int .i64 nc, .int .i64 no, .int .i64 sz] 29 (0, 0)) :: Blk g7 (.cells #[.int .i64 b.u, .slice b1 m1 p1, .slice b2 m2 p2] 25 (0, 0)) :: Blk g8 (.cells #[.int .i64 al.u, .slice a1 n1 q1, .slice a2 n2 q2] 25 (0, 0)) :: OE (.slice b1 m1 p1) b.es :: OL (.slice b2 m2 p2) b.ls :: OE (.slice a1 n1 q1) al.es :: OL (.slice a2 n2 q2) al.ls :: Arg W :: []) wr) (fun i _ => 7 - (intOf i).toNat)
              case atStart => exact ⟨1, by omega, by omega, rfl, HF⟩
              case round =>
                clear HF
                obtain ⟨m, hm1, hm7, rfl, HF⟩ := hrel
                by_cases hm : m ≤ 6
                · have g3 : (m : Int) ≤ 6 := by omega
                  obtain ⟨⟨⟨ka, kb, kc, kk, ke, kf, kg⟩, kz⟩, hq⟩ : ∃ q, lastF b.ls m = q := ⟨_, rfl⟩
                  obtain ⟨⟨⟨ra, rb2, rc, rd, re, rf2, rg⟩, rz⟩, hr⟩ : ∃ q, lastF nls m = q := ⟨_, rfl⟩
                  have HK := Lib.hid hq
                  have HK2 := Lib.hid hr
                  go_wp2_with (first | ((with_reducible refine k_load (T := 25) ?_); refine st_row rfl _ _ rfl _ rfl a25 3 s25 HF 4 rfl rfl ?_; (intro K hK; go_simp)) | ((with_reducible refine k_load (T := 25) ?_); refine st_loads rfl _ _ rfl _ _ rfl a25 3 s25 HF 4 rfl ?_ ?_; (simp); (intro K hK; go_simp)))
                  refine (lastP (ol_recs (HF.pick 7 rfl)) hbl HF).mono ?_
                  rw [HK.out]
                  dsimp only [La.cells]
                  rintro e w8 ⟨rfl, HX⟩
                  clear HF
                  have HF := HX
                  clear HX
                  go_wp2_with (first | ((with_reducible refine k_alloc (T := 53) ?_); refine st_alloc rfl _ rfl _ z53 _ rfl HF ?_; (clear HF; intro g20 w HF K hK; simp only [Value.cells] at HF; go_simp)) | ((with_reducible refine k_store (T := 53) ?_); refine st_put rfl _ _ _ rfl _ rfl _ rfl ?_ s53 HF 0 rfl rfl ?_; (simp [Value.oneCell']); (clear HF; intro w HF K hK; simp only [List.set_cons_zero, List.set_cons_succ, Act.eval, Value.cells, Array.getD_eq_getD_getElem?, List.getElem?_toArray, List.getElem?_cons_succ, List.getElem?_cons_zero, Option.getD_some] at HF; go_simp)) | ((with_reducible refine k_load (T := 25) ?_); refine st_row rfl _ _ rfl _ rfl a25 3 s25 HF 1 rfl rfl ?_; (intro K hK; go_simp)) | ((with_reducible refine k_load (T := 25) ?_); refine st_loads rfl _ _ rfl _ _ rfl a25 3 s25 HF 1 rfl ?_ ?_; (simp); (intro K hK; go_simp)))
                  refine (lastP (ol_recs (HF.pick 3 rfl)) hnl HF).mono ?_
                  rw [HK2.out]
                  dsimp only [La.cells]
                  rintro e w9 ⟨rfl, HX⟩
                  clear HF
                  have HF := HX
                  clear HX
                  by_cases h5 : (m : Int) = cl
                  · have h5a : ((m : Int) == cl) = true := by simpa using h5
                    have h5b : ((m : Int) != cl) = false := by simpa using h5
                    by_cases h6 : kd = 3
                    · have h6a : (kd == 3) = true := by simpa using h6
                      have hqr := Z4.out m (.inr (.inl h6))
                      clear h5 h6
                      rw [hq, hr] at hqr
                      cases hqr
                      clear hq hr
                      have hz3 : ∀ w, (Op.equalIn 10000 53 (.agg #[.int .i64 ka, .int .i64 kb, .int .i64 kc, .int .i64 kk, .int .i64 ke, .int .i64 kf, .int .i64 kg]) (.agg #[.int .i64 ka, .int .i64 kb, .int .i64 kc, .int .i64 kk, .int .i64 ke, .int .i64 kf, .int .i64 kg])).run Try.prog w = .ok true w := fun w => run_eq_self 9 (by decide) fLast a53 (La.fits ⟨ka, kb, kc, kk, ke, kf, kg⟩)
                      go_wp2_with (first | ((with_reducible refine k_alloc (T := 53) ?_); refine st_alloc rfl _ rfl _ z53 _ rfl HF ?_; (clear HF; intro g22 w HF K hK; simp only [Value.cells] at HF; go_simp)) | ((with_reducible refine k_store (T := 53) ?_); refine st_put rfl _ _ _ rfl _ rfl _ rfl ?_ s53 HF 0 rfl rfl ?_; (simp [Value.oneCell']); (clear HF; intro w HF K hK; simp only [List.set_cons_zero, List.set_cons_succ, Act.eval, Value.cells, Array.getD_eq_getD_getElem?, List.getElem?_toArray, List.getElem?_cons_succ, List.getElem?_cons_zero, Option.getD_some] at HF; go_simp)) | ((with_reducible refine k_load (T := 53) ?_); (first | refine st_row rfl _ _ rfl _ rfl a53 7 s53 HF 0 rfl rfl ?_ | refine st_row rfl _ _ rfl _ rfl a53 7 s53 HF 1 rfl rfl ?_); (intro K hK; go_simp)) | ((with_reducible refine k_load (T := 53) ?_); (first | refine st_loads rfl _ _ rfl _ _ rfl a53 7 s53 HF 0 rfl ?_ ?_ | refine st_loads rfl _ _ rfl _ _ rfl a53 7 s53 HF 1 rfl ?_ ?_); (simp); (intro K hK; go_simp)) | ((with_reducible refine k_load ?_); refine st_load rfl _ _ rfl _ _ rfl ?_ HF 5 rfl rfl ?_; (kernel_rfl); (intro K hK; go_simp)))
                      go_roundw
                      case rel => exact ⟨m + 1, by omega, by omega, rfl, HF.drop.drop⟩
                      case measure => simp [intOf]; omega
                    · have h6a : (kd == 3) = false := by simpa using h6
                      by_cases h7 : kd = 4
                      · have h7a : (kd == 4) = true := by simpa using h7
                        have hqr := Z4.out m (.inr (.inr h7))
                        clear h5 h6 h7
                        rw [hq, hr] at hqr
                        cases hqr
                        clear hq hr
                        have hz3 : ∀ w, (Op.equalIn 10000 53 (.agg #[.int .i64 ka, .int .i64 kb, .int .i64 kc, .int .i64 kk, .int .i64 ke, .int .i64 kf, .int .i64 kg]) (.agg #[.int .i64 ka, .int .i64 kb, .int .i64 kc, .int .i64 kk, .int .i64 ke, .int .i64 kf, .int .i64 kg])).run Try.prog w = .ok true w := fun w => run_eq_self 9 (by decide) fLast a53 (La.fits ⟨ka, kb, kc, kk, ke, kf, kg⟩)
                        go_wp2_with (first | ((with_reducible refine k_alloc (T := 53) ?_); refine st_alloc rfl _ rfl _ z53 _ rfl HF ?_; (clear HF; intro g22 w HF K hK; simp only [Value.cells] at HF; go_simp)) | ((with_reducible refine k_store (T := 53) ?_); refine st_put rfl _ _ _ rfl _ rfl _ rfl ?_ s53 HF 0 rfl rfl ?_; (simp [Value.oneCell']); (clear HF; intro w HF K hK; simp only [List.set_cons_zero, List.set_cons_succ, Act.eval, Value.cells, Array.getD_eq_getD_getElem?, List.getElem?_toArray, List.getElem?_cons_succ, List.getElem?_cons_zero, Option.getD_some] at HF; go_simp)) | ((with_reducible refine k_load (T := 53) ?_); (first | refine st_row rfl _ _ rfl _ rfl a53 7 s53 HF 0 rfl rfl ?_ | refine st_row rfl _ _ rfl _ rfl a53 7 s53 HF 1 rfl rfl ?_); (intro K hK; go_simp)) | ((with_reducible refine k_load (T := 53) ?_); (first | refine st_loads rfl _ _ rfl _ _ rfl a53 7 s53 HF 0 rfl ?_ ?_ | refine st_loads rfl _ _ rfl _ _ rfl a53 7 s53 HF 1 rfl ?_ ?_); (simp); (intro K hK; go_simp)) | ((with_reducible refine k_load ?_); refine st_load rfl _ _ rfl _ _ rfl ?_ HF 5 rfl rfl ?_; (kernel_rfl); (intro K hK; go_simp)))
                        go_roundw
                        case rel => exact ⟨m + 1, by omega, by omega, rfl, HF.drop.drop⟩
                        case measure => simp [intOf]; omega
                      · have h7a : (kd == 4) = false := by simpa using h7
                        clear h5 h6 h7 hq hr
                        go_wp2_with (first | ((with_reducible refine k_alloc (T := 53) ?_); refine st_alloc rfl _ rfl _ z53 _ rfl HF ?_; (clear HF; intro g22 w HF K hK; simp only [Value.cells] at HF; go_simp)) | ((with_reducible refine k_store (T := 53) ?_); refine st_put rfl _ _ _ rfl _ rfl _ rfl ?_ s53 HF 0 rfl rfl ?_; (simp [Value.oneCell']); (clear HF; intro w HF K hK; simp only [List.set_cons_zero, List.set_cons_succ, Act.eval, Value.cells, Array.getD_eq_getD_getElem?, List.getElem?_toArray, List.getElem?_cons_succ, List.getElem?_cons_zero, Option.getD_some] at HF; go_simp)) | ((with_reducible refine k_load (T := 53) ?_); (first | refine st_row rfl _ _ rfl _ rfl a53 7 s53 HF 0 rfl rfl ?_ | refine st_row rfl _ _ rfl _ rfl a53 7 s53 HF 1 rfl rfl ?_); (intro K hK; go_simp)) | ((with_reducible refine k_load (T := 53) ?_); (first | refine st_loads rfl _ _ rfl _ _ rfl a53 7 s53 HF 0 rfl ?_ ?_ | refine st_loads rfl _ _ rfl _ _ rfl a53 7 s53 HF 1 rfl ?_ ?_); (simp); (intro K hK; go_simp)) | ((with_reducible refine k_load ?_); refine st_load rfl _ _ rfl _ _ rfl ?_ HF 5 rfl rfl ?_; (kernel_rfl); (intro K hK; go_simp)))
                        go_roundw
                        case rel => exact ⟨m + 1, by omega, by omega, rfl, HF.drop.drop⟩
                        case measure => simp [intOf]; omega
                  · have h5a : ((m : Int) == cl) = false := by simpa using h5
                    have h5b : ((m : Int) != cl) = true := by simpa using h5
                    have hqr := Z4.out m (.inl h5)
                    clear h5
                    rw [hq, hr] at hqr
                    cases hqr
                    clear hq hr
                    have hz3 : ∀ w, (Op.equalIn 10000 53 (.agg #[.int .i64 ka, .int .i64 kb, .int .i64 kc, .int .i64 kk, .int .i64 ke, .int .i64 kf, .int .i64 kg]) (.agg #[.int .i64 ka, .int .i64 kb, .int .i64 kc, .int .i64 kk, .int .i64 ke, .int .i64 kf, .int .i64 kg])).run Try.prog w = .ok true w := fun w => run_eq_self 9 (by decide) fLast a53 (La.fits ⟨ka, kb, kc, kk, ke, kf, kg⟩)
                    go_wp2_with (first | ((with_reducible refine k_alloc (T := 53) ?_); refine st_alloc rfl _ rfl _ z53 _ rfl HF ?_; (clear HF; intro g22 w HF K hK; simp only [Value.cells] at HF; go_simp)) | ((with_reducible refine k_store (T := 53) ?_); refine st_put rfl _ _ _ rfl _ rfl _ rfl ?_ s53 HF 0 rfl rfl ?_; (simp [Value.oneCell']); (clear HF; intro w HF K hK; simp only [List.set_cons_zero, List.set_cons_succ, Act.eval, Value.cells, Array.getD_eq_getD_getElem?, List.getElem?_toArray, List.getElem?_cons_succ, List.getElem?_cons_zero, Option.getD_some] at HF; go_simp)) | ((with_reducible refine k_load (T := 53) ?_); (first | refine st_row rfl _ _ rfl _ rfl a53 7 s53 HF 0 rfl rfl ?_ | refine st_row rfl _ _ rfl _ rfl a53 7 s53 HF 1 rfl rfl ?_); (intro K hK; go_simp)) | ((with_reducible refine k_load (T := 53) ?_); (first | refine st_loads rfl _ _ rfl _ _ rfl a53 7 s53 HF 0 rfl ?_ ?_ | refine st_loads rfl _ _ rfl _ _ rfl a53 7 s53 HF 1 rfl ?_ ?_); (simp); (intro K hK; go_simp)) | ((with_reducible refine k_load ?_); refine st_load rfl _ _ rfl _ _ rfl ?_ HF 5 rfl rfl ?_; (kernel_rfl); (intro K hK; go_simp)))
                    go_roundw
                    case rel => exact ⟨m + 1, by omega, by omega, rfl, HF.drop.drop⟩
                    case measure => simp [intOf]; omega
                · have g3 : ¬ (m : Int) ≤ 6 := by omega
                  go_wp2_with (first | ((with_reducible refine k_load (T := 25) ?_); (first | refine st_row rfl _ _ rfl _ rfl a25 3 s25 HF 3 rfl rfl ?_ | refine st_row rfl _ _ rfl _ rfl a25 3 s25 HF 5 rfl rfl ?_); (intro K hK; go_simp)) | ((with_reducible refine k_load (T := 25) ?_); (first | refine st_loads rfl _ _ rfl _ _ rfl a25 3 s25 HF 3 rfl ?_ ?_ | refine st_loads rfl _ _ rfl _ _ rfl a25 3 s25 HF 5 rfl ?_ ?_); (simp); (intro K hK; go_simp)) | ((with_reducible refine k_load (T := 29) ?_); (first | refine st_row rfl _ _ rfl _ rfl a29 9 s29 HF 3 rfl rfl ?_ | refine st_row rfl _ _ rfl _ rfl a29 9 s29 HF 5 rfl rfl ?_); (intro K hK; go_simp)) | ((with_reducible refine k_load (T := 29) ?_); (first | refine st_loads rfl _ _ rfl _ _ rfl a29 9 s29 HF 3 rfl ?_ ?_ | refine st_loads rfl _ _ rfl _ _ rfl a29 9 s29 HF 5 rfl ?_ ?_); (simp); (intro K hK; go_simp)) | ((with_reducible refine k_load ?_); refine st_load rfl _ _ rfl _ _ rfl ?_ HF 3 rfl rfl ?_; (kernel_rfl); (intro K hK; go_simp)))
                  refine (HA2.out _ _ _ _ (oe_recs (HF.pick 8 rfl)) (ol_recs (HF.pick 9 rfl)) HF).mono ?_
                  rintro e w10 ⟨v1, v2, v3, rfl, HX⟩
                  clear HF
                  obtain ⟨s4, t4, u4, rfl⟩ := own_form HX
                  obtain ⟨s5, t5, u5, rfl⟩ := own_form (HX.pick 1 rfl)
                  obtain ⟨s6, t6, u6, rfl⟩ := own_form (HX.pick 2 rfl)
                  have HF := HX
                  clear HX
                  dsimp only [anV]
                  go_wp2_with (first | ((with_reducible refine k_load (T := 25) ?_); refine st_row rfl _ _ rfl _ rfl a25 3 s25 HF 3 rfl rfl ?_; (intro K hK; go_simp)) | ((with_reducible refine k_load (T := 25) ?_); refine st_loads rfl _ _ rfl _ _ rfl a25 3 s25 HF 3 rfl ?_ ?_; (simp); (intro K hK; go_simp)) | ((with_reducible refine k_store (T := 25) ?_); refine st_put rfl _ _ _ rfl _ rfl _ rfl ?_ s25 HF 8 rfl rfl ?_; (simp [Value.oneCell']); (clear HF; intro w HF K hK; simp only [List.set_cons_zero, List.set_cons_succ, Act.eval, Value.cells, Array.getD_eq_getD_getElem?, List.getElem?_toArray, List.getElem?_cons_succ, List.getElem?_cons_zero, Option.getD_some] at HF; go_simp)) | ((with_reducible refine k_store (T := 25) ?_); refine st_put rfl _ _ _ rfl _ rfl _ rfl ?_ s25 HF 7 rfl rfl ?_; (simp [Value.oneCell']); (clear HF; intro w HF K hK; simp only [List.set_cons_zero, List.set_cons_succ, Act.eval, Value.cells, Array.getD_eq_getD_getElem?, List.getElem?_toArray, List.getElem?_cons_succ, List.getElem?_cons_zero, Option.getD_some] at HF; go_simp)))
                  go_roundw
                  case rel => exact ⟨k + 1, ⟨nu, nes, nls⟩, ⟨xu, xes, xls⟩, _, s1, t1, u1, s2, t2, u2, s4, t4, u4, s5, t5, u5, by omega, rfl, rfl, Lib.hid (HI.out _ (by intro h; first | (cases h; done) | exact ⟨(by trivial), (by simpa using h)⟩)), HF.sel 14 [7, 8, 4, 5, 0, 1, 13]⟩
                  case measure => simp [intOf]; omega
          | false =>
            have hne2 : nm ≠ name := fun h => by rw [h, nEq_refl] at hnm; cases hnm
            have HI := Lib.hid (HI1.out hne2)
            have hqr := Z3.out hne2
            rw [hq, hr] at hqr
            cases hqr
            clear HI1 HI2 Z3 hq hr hne2
            unfold nEq at hnm
            have hnm2 : (nm.toList != name.toList) = true := by unfold bne; rw [hnm]; rfl
            cases ry with
            | true =>
              go_wp2_with (first | ((with_reducible refine k_alloc (T := 25) ?_); refine st_alloc rfl _ rfl _ z25 _ rfl HF ?_; (clear HF; intro g12 w HF K hK; simp only [Value.cells] at HF; go_simp)) | ((with_reducible refine k_alloc (T := 41) ?_); refine st_alloc rfl _ rfl _ z41 _ rfl HF ?_; (clear HF; intro g13 w HF K hK; simp only [Value.cells] at HF; go_simp)) | ((with_reducible refine k_store (T := 25) ?_); refine st_put rfl _ _ _ rfl _ rfl _ rfl ?_ s25 HF 1 rfl rfl ?_; (simp [Value.oneCell']); (clear HF; intro w HF K hK; simp only [List.set_cons_zero, List.set_cons_succ, Act.eval, Value.cells, Array.getD_eq_getD_getElem?, List.getElem?_toArray, List.getElem?_cons_succ, List.getElem?_cons_zero, Option.getD_some] at HF; go_simp)) | ((with_reducible refine k_store (T := 41) ?_); refine st_put rfl _ _ _ rfl _ rfl _ rfl ?_ s41 HF 0 rfl rfl ?_; (simp [Value.oneCell']); (clear HF; intro w HF K hK; simp only [List.set_cons_zero, List.set_cons_succ, Act.eval, Value.cells, Array.getD_eq_getD_getElem?, List.getElem?_toArray, List.getElem?_cons_succ, List.getElem?_cons_zero, Option.getD_some] at HF; go_simp)) | ((with_reducible refine k_load (T := 25) ?_); refine st_row rfl _ _ rfl _ rfl a25 3 s25 HF 6 rfl rfl ?_; (intro K hK; go_simp)) | ((with_reducible refine k_load (T := 25) ?_); refine st_loads rfl _ _ rfl _ _ rfl a25 3 s25 HF 6 rfl ?_ ?_; (simp); (intro K hK; go_simp)) | ((with_reducible refine k_load ?_); refine st_load rfl _ _ rfl _ _ rfl ?_ HF 0 rfl rfl ?_; (kernel_rfl); (intro K hK; go_simp)))
              replace HF : At W (Blk g13 (.cells #[.int .i64 aerr, .string an, .int .i64 af, .int .i64 ao, .int .i64 az, .slice s3 t3 u3] 41 (0, 0)) :: Blk g12 (.cells #[.int .i64 nu, .slice s1 t1 u1, .slice s2 t2 u2] 25 (0, 0)) :: OE (.slice s1 t1 u1) nes :: OL (.slice s2 t2 u2) nls :: Blk g11 (.cells #[.int .i64 kd, .int .i64 cl, .int .i64 op, .string nm, .int .i64 fc, .int .i64 fo, .int .i64 nc, .int .i64 no, .int .i64 sz] 29 (0, 0)) :: Blk g7 (.cells #[.int .i64 b.u, .slice b1 m1 p1, .slice b2 m2 p2] 25 (0, 0)) :: Blk g8 (.cells #[.int .i64 al.u, .slice a1 n1 q1, .slice a2 n2 q2] 25 (0, 0)) :: OE (.slice b1 m1 p1) b.es :: OL (.slice b2 m2 p2) b.ls :: OE (.slice a1 n1 q1) al.es :: OL (.slice a2 n2 q2) al.ls :: Arg W :: []) _ := HF.sel 13 [0, 1, 2, 3, 5, 6, 7, 8, 9, 10, 11, 12]
              refine (find (oe_recs (HF.pick 7 rfl)) hbe HF).mono ?_
              rw [HQ.out]
              dsimp only [En.cells]
              rintro e w6 ⟨rfl, HX⟩
              clear HF
              have HF := HX
              clear HX
              go_wp2_with (first | ((with_reducible refine k_alloc (T := 39) ?_); refine st_alloc rfl _ rfl _ z39 _ rfl HF ?_; (clear HF; intro g15 w HF K hK; simp only [Value.cells] at HF; go_simp)) | ((with_reducible refine k_store (T := 39) ?_); refine st_put rfl _ _ _ rfl _ rfl _ rfl ?_ s39 HF 0 rfl rfl ?_; (simp [Value.oneCell']); (clear HF; intro w HF K hK; simp only [List.set_cons_zero, List.set_cons_succ, Act.eval, Value.cells, Array.getD_eq_getD_getElem?, List.getElem?_toArray, List.getElem?_cons_succ, List.getElem?_cons_zero, Option.getD_some] at HF; go_simp)) | ((with_reducible refine k_load (T := 25) ?_); refine st_row rfl _ _ rfl _ rfl a25 3 s25 HF 2 rfl rfl ?_; (intro K hK; go_simp)) | ((with_reducible refine k_load (T := 25) ?_); refine st_loads rfl _ _ rfl _ _ rfl a25 3 s25 HF 2 rfl ?_ ?_; (simp); (intro K hK; go_simp)))
              refine (find (oe_recs (HF.pick 3 rfl)) hne HF).mono ?_
              rw [HR.out]
              dsimp only [En.cells]
              rintro e w7 ⟨rfl, HX⟩
              clear HF
              have HF := HX
              clear HX
              have hz2 : ∀ w, (Op.equalIn 10000 39 (.agg #[.string qn, .int .i64 qf, .int .i64 qo, .int .i64 qs]) (.agg #[.string qn, .int .i64 qf, .int .i64 qo, .int .i64 qs])).run Try.prog w = .ok true w := fun w => run_eq_self 9 (by decide) fEntry a39 (En.fits ⟨qn, qf, qo, qs⟩)
              go_wp2_with (first | ((with_reducible refine k_alloc (T := 39) ?_); refine st_alloc rfl _ rfl _ z39 _ rfl HF ?_; (clear HF; intro g17 w HF K hK; simp only [Value.cells] at HF; go_simp)) | ((with_reducible refine k_store (T := 39) ?_); refine st_put rfl _ _ _ rfl _ rfl _ rfl ?_ s39 HF 0 rfl rfl ?_; (simp [Value.oneCell']); (clear HF; intro w HF K hK; simp only [List.set_cons_zero, List.set_cons_succ, Act.eval, Value.cells, Array.getD_eq_getD_getElem?, List.getElem?_toArray, List.getElem?_cons_succ, List.getElem?_cons_zero, Option.getD_some] at HF; go_simp)) | ((with_reducible refine k_load (T := 39) ?_); (first | refine st_row rfl _ _ rfl _ rfl a39 4 s39 HF 0 rfl rfl ?_ | refine st_row rfl _ _ rfl _ rfl a39 4 s39 HF 1 rfl rfl ?_); (intro K hK; go_simp)) | ((with_reducible refine k_load (T := 39) ?_); (first | refine st_loads rfl _ _ rfl _ _ rfl a39 4 s39 HF 0 rfl ?_ ?_ | refine st_loads rfl _ _ rfl _ _ rfl a39 4 s39 HF 1 rfl ?_ ?_); (simp); (intro K hK; go_simp)) | ((with_reducible refine k_load ?_); refine st_load rfl _ _ rfl _ _ rfl ?_ HF 6 rfl rfl ?_; (kernel_rfl); (intro K hK; go_simp)))
              replace HF : At W (Blk g12 (.cells #[.int .i64 nu, .slice s1 t1 u1, .slice s2 t2 u2] 25 (0, 0)) :: OE (.slice s1 t1 u1) nes :: OL (.slice s2 t2 u2) nls :: Blk g11 (.cells #[.int .i64 kd, .int .i64 cl, .int .i64 op, .string nm, .int .i64 fc, .int .i64 fo, .int .i64 nc, .int .i64 no, .int .i64 sz] 29 (0, 0)) :: Blk g7 (.cells #[.int .i64 b.u, .slice b1 m1 p1, .slice b2 m2 p2] 25 (0, 0)) :: Blk g8 (.cells #[.int .i64 al.u, .slice a1 n1 q1, .slice a2 n2 q2] 25 (0, 0)) :: OE (.slice b1 m1 p1) b.es :: OL (.slice b2 m2 p2) b.ls :: OE (.slice a1 n1 q1) al.es :: OL (.slice a2 n2 q2) al.ls :: Arg W :: []) _ := HF.sel 14 [3, 4, 5, 6, 7, 8, 9, 10, 11, 12, 13]
              go_loopw [19] (fun i wr => ∃ m : Nat, 1 ≤ m ∧ m ≤ 7 ∧ i = .int .i64 m ∧ At W (Blk g12 (.cells #[.int .i64 nu, .slice s1 t1 u1, .slice s2 t2 u2] 25 (0, 0)) :: OE (.slice s1 t1 u1) nes :: OL (.slice s2 t2 u2) nls :: Blk g11 (.cells #[.int .i64 kd, .int .i64 cl, .int .i64 op, .string nm, .int .i64 fc, .int .i64 fo, .int .i64 nc, .int .i64 no, .int .i64 sz] 29 (0, 0)) :: Blk g7 (.cells #[.int .i64 b.u, .slice b1 m1 p1, .slice b2 m2 p2] 25 (0, 0)) :: Blk g8 (.cells #[.int .i64 al.u, .slice a1 n1 q1, .slice a2 n2 q2] 25 (0, 0)) :: OE (.slice b1 m1 p1) b.es :: OL (.slice b2 m2 p2) b.ls :: OE (.slice a1 n1 q1) al.es :: OL (.slice a2 n2 q2) al.ls :: Arg W :: []) wr) (fun i _ => 7 - (intOf i).toNat)
              case atStart => exact ⟨1, by omega, by omega, rfl, HF⟩
              case round =>
                clear HF
                obtain ⟨m, hm1, hm7, rfl, HF⟩ := hrel
                by_cases hm : m ≤ 6
                · have g3 : (m : Int) ≤ 6 := by omega
                  obtain ⟨⟨⟨ka, kb, kc, kk, ke, kf, kg⟩, kz⟩, hq⟩ : ∃ q, lastF b.ls m = q := ⟨_, rfl⟩
                  obtain ⟨⟨⟨ra, rb2, rc, rd, re, rf2, rg⟩, rz⟩, hr⟩ : ∃ q, lastF nls m = q := ⟨_, rfl⟩
                  have HK := Lib.hid hq
                  have HK2 := Lib.hid hr
                  go_wp2_with (first | ((with_reducible refine k_load (T := 25) ?_); refine st_row rfl _ _ rfl _ rfl a25 3 s25 HF 4 rfl rfl ?_; (intro K hK; go_simp)) | ((with_reducible refine k_load (T := 25) ?_); refine st_loads rfl _ _ rfl _ _ rfl a25 3 s25 HF 4 rfl ?_ ?_; (simp); (intro K hK; go_simp)))
                  refine (lastP (ol_recs (HF.pick 7 rfl)) hbl HF).mono ?_
                  rw [HK.out]
                  dsimp only [La.cells]
                  rintro e w8 ⟨rfl, HX⟩
                  clear HF
                  have HF := HX
                  clear HX
                  go_wp2_with (first | ((with_reducible refine k_alloc (T := 53) ?_); refine st_alloc rfl _ rfl _ z53 _ rfl HF ?_; (clear HF; intro g20 w HF K hK; simp only [Value.cells] at HF; go_simp)) | ((with_reducible refine k_store (T := 53) ?_); refine st_put rfl _ _ _ rfl _ rfl _ rfl ?_ s53 HF 0 rfl rfl ?_; (simp [Value.oneCell']); (clear HF; intro w HF K hK; simp only [List.set_cons_zero, List.set_cons_succ, Act.eval, Value.cells, Array.getD_eq_getD_getElem?, List.getElem?_toArray, List.getElem?_cons_succ, List.getElem?_cons_zero, Option.getD_some] at HF; go_simp)) | ((with_reducible refine k_load (T := 25) ?_); refine st_row rfl _ _ rfl _ rfl a25 3 s25 HF 1 rfl rfl ?_; (intro K hK; go_simp)) | ((with_reducible refine k_load (T := 25) ?_); refine st_loads rfl _ _ rfl _ _ rfl a25 3 s25 HF 1 rfl ?_ ?_; (simp); (intro K hK; go_simp)))
                  refine (lastP (ol_recs (HF.pick 3 rfl)) hnl HF).mono ?_
                  rw [HK2.out]
                  dsimp only [La.cells]
                  rintro e w9 ⟨rfl, HX⟩
                  clear HF
                  have HF := HX
                  clear HX
                  by_cases h5 : (m : Int) = cl
                  · have h5a : ((m : Int) == cl) = true := by simpa using h5
                    have h5b : ((m : Int) != cl) = false := by simpa using h5
                    by_cases h6 : kd = 3
                    · have h6a : (kd == 3) = true := by simpa using h6
                      have hqr := Z4.out m (.inr (.inl h6))
                      clear h5 h6
                      rw [hq, hr] at hqr
                      cases hqr
                      clear hq hr
                      have hz3 : ∀ w, (Op.equalIn 10000 53 (.agg #[.int .i64 ka, .int .i64 kb, .int .i64 kc, .int .i64 kk, .int .i64 ke, .int .i64 kf, .int .i64 kg]) (.agg #[.int .i64 ka, .int .i64 kb, .int .i64 kc, .int .i64 kk, .int .i64 ke, .int .i64 kf, .int .i64 kg])).run Try.prog w = .ok true w := fun w => run_eq_self 9 (by decide) fLast a53 (La.fits ⟨ka, kb, kc, kk, ke, kf, kg⟩)
                      go_wp2_with (first | ((with_reducible refine k_alloc (T := 53) ?_); refine st_alloc rfl _ rfl _ z53 _ rfl HF ?_; (clear HF; intro g22 w HF K hK; simp only [Value.cells] at HF; go_simp)) | ((with_reducible refine k_store (T := 53) ?_); refine st_put rfl _ _ _ rfl _ rfl _ rfl ?_ s53 HF 0 rfl rfl ?_; (simp [Value.oneCell']); (clear HF; intro w HF K hK; simp only [List.set_cons_zero, List.set_cons_succ, Act.eval, Value.cells, Array.getD_eq_getD_getElem?, List.getElem?_toArray, List.getElem?_cons_succ, List.getElem?_cons_zero, Option.getD_some] at HF; go_simp)) | ((with_reducible refine k_load (T := 53) ?_); (first | refine st_row rfl _ _ rfl _ rfl a53 7 s53 HF 0 rfl rfl ?_ | refine st_row rfl _ _ rfl _ rfl a53 7 s53 HF 1 rfl rfl ?_); (intro K hK; go_simp)) | ((with_reducible refine k_load (T := 53) ?_); (first | refine st_loads rfl _ _ rfl _ _ rfl a53 7 s53 HF 0 rfl ?_ ?_ | refine st_loads rfl _ _ rfl _ _ rfl a53 7 s53 HF 1 rfl ?_ ?_); (simp); (intro K hK; go_simp)) | ((with_reducible refine k_load ?_); refine st_load rfl _ _ rfl _ _ rfl ?_ HF 5 rfl rfl ?_; (kernel_rfl); (intro K hK; go_simp)))
                      go_roundw
                      case rel => exact ⟨m + 1, by omega, by omega, rfl, HF.drop.drop⟩
                      case measure => simp [intOf]; omega
                    · have h6a : (kd == 3) = false := by simpa using h6
                      by_cases h7 : kd = 4
                      · have h7a : (kd == 4) = true := by simpa using h7
                        have hqr := Z4.out m (.inr (.inr h7))
                        clear h5 h6 h7
                        rw [hq, hr] at hqr
                        cases hqr
                        clear hq hr
                        have hz3 : ∀ w, (Op.equalIn 10000 53 (.agg #[.int .i64 ka, .int .i64 kb, .int .i64 kc, .int .i64 kk, .int .i64 ke, .int .i64 kf, .int .i64 kg]) (.agg #[.int .i64 ka, .int .i64 kb, .int .i64 kc, .int .i64 kk, .int .i64 ke, .int .i64 kf, .int .i64 kg])).run Try.prog w = .ok true w := fun w => run_eq_self 9 (by decide) fLast a53 (La.fits ⟨ka, kb, kc, kk, ke, kf, kg⟩)
                        go_wp2_with (first | ((with_reducible refine k_alloc (T := 53) ?_); refine st_alloc rfl _ rfl _ z53 _ rfl HF ?_; (clear HF; intro g22 w HF K hK; simp only [Value.cells] at HF; go_simp)) | ((with_reducible refine k_store (T := 53) ?_); refine st_put rfl _ _ _ rfl _ rfl _ rfl ?_ s53 HF 0 rfl rfl ?_; (simp [Value.oneCell']); (clear HF; intro w HF K hK; simp only [List.set_cons_zero, List.set_cons_succ, Act.eval, Value.cells, Array.getD_eq_getD_getElem?, List.getElem?_toArray, List.getElem?_cons_succ, List.getElem?_cons_zero, Option.getD_some] at HF; go_simp)) | ((with_reducible refine k_load (T := 53) ?_); (first | refine st_row rfl _ _ rfl _ rfl a53 7 s53 HF 0 rfl rfl ?_ | refine st_row rfl _ _ rfl _ rfl a53 7 s53 HF 1 rfl rfl ?_); (intro K hK; go_simp)) | ((with_reducible refine k_load (T := 53) ?_); (first | refine st_loads rfl _ _ rfl _ _ rfl a53 7 s53 HF 0 rfl ?_ ?_ | refine st_loads rfl _ _ rfl _ _ rfl a53 7 s53 HF 1 rfl ?_ ?_); (simp); (intro K hK; go_simp)) | ((with_reducible refine k_load ?_); refine st_load rfl _ _ rfl _ _ rfl ?_ HF 5 rfl rfl ?_; (kernel_rfl); (intro K hK; go_simp)))
                        go_roundw
                        case rel => exact ⟨m + 1, by omega, by omega, rfl, HF.drop.drop⟩
                        case measure => simp [intOf]; omega
                      · have h7a : (kd == 4) = false := by simpa using h7
                        clear h5 h6 h7 hq hr
                        go_wp2_with (first | ((with_reducible refine k_alloc (T := 53) ?_); refine st_alloc rfl _ rfl _ z53 _ rfl HF ?_; (clear HF; intro g22 w HF K hK; simp only [Value.cells] at HF; go_simp)) | ((with_reducible refine k_store (T := 53) ?_); refine st_put rfl _ _ _ rfl _ rfl _ rfl ?_ s53 HF 0 rfl rfl ?_; (simp [Value.oneCell']); (clear HF; intro w HF K hK; simp only [List.set_cons_zero, List.set_cons_succ, Act.eval, Value.cells, Array.getD_eq_getD_getElem?, List.getElem?_toArray, List.getElem?_cons_succ, List.getElem?_cons_zero, Option.getD_some] at HF; go_simp)) | ((with_reducible refine k_load (T := 53) ?_); (first | refine st_row rfl _ _ rfl _ rfl a53 7 s53 HF 0 rfl rfl ?_ | refine st_row rfl _ _ rfl _ rfl a53 7 s53 HF 1 rfl rfl ?_); (intro K hK; go_simp)) | ((with_reducible refine k_load (T := 53) ?_); (first | refine st_loads rfl _ _ rfl _ _ rfl a53 7 s53 HF 0 rfl ?_ ?_ | refine st_loads rfl _ _ rfl _ _ rfl a53 7 s53 HF 1 rfl ?_ ?_); (simp); (intro K hK; go_simp)) | ((with_reducible refine k_load ?_); refine st_load rfl _ _ rfl _ _ rfl ?_ HF 5 rfl rfl ?_; (kernel_rfl); (intro K hK; go_simp)))
                        go_roundw
                        case rel => exact ⟨m + 1, by omega, by omega, rfl, HF.drop.drop⟩
                        case measure => simp [intOf]; omega
                  · have h5a : ((m : Int) == cl) = false := by simpa using h5
                    have h5b : ((m : Int) != cl) = true := by simpa using h5
                    have hqr := Z4.out m (.inl h5)
                    clear h5
                    rw [hq, hr] at hqr
                    cases hqr
                    clear hq hr
                    have hz3 : ∀ w, (Op.equalIn 10000 53 (.agg #[.int .i64 ka, .int .i64 kb, .int .i64 kc, .int .i64 kk, .int .i64 ke, .int .i64 kf, .int .i64 kg]) (.agg #[.int .i64 ka, .int .i64 kb, .int .i64 kc, .int .i64 kk, .int .i64 ke, .int .i64 kf, .int .i64 kg])).run Try.prog w = .ok true w := fun w => run_eq_self 9 (by decide) fLast a53 (La.fits ⟨ka, kb, kc, kk, ke, kf, kg⟩)
                    go_wp2_with (first | ((with_reducible refine k_alloc (T := 53) ?_); refine st_alloc rfl _ rfl _ z53 _ rfl HF ?_; (clear HF; intro g22 w HF K hK; simp only [Value.cells] at HF; go_simp)) | ((with_reducible refine k_store (T := 53) ?_); refine st_put rfl _ _ _ rfl _ rfl _ rfl ?_ s53 HF 0 rfl rfl ?_; (simp [Value.oneCell']); (clear HF; intro w HF K hK; simp only [List.set_cons_zero, List.set_cons_succ, Act.eval, Value.cells, Array.getD_eq_getD_getElem?, List.getElem?_toArray, List.getElem?_cons_succ, List.getElem?_cons_zero, Option.getD_some] at HF; go_simp)) | ((with_reducible refine k_load (T := 53) ?_); (first | refine st_row rfl _ _ rfl _ rfl a53 7 s53 HF 0 rfl rfl ?_ | refine st_row rfl _ _ rfl _ rfl a53 7 s53 HF 1 rfl rfl ?_); (intro K hK; go_simp)) | ((with_reducible refine k_load (T := 53) ?_); (first | refine st_loads rfl _ _ rfl _ _ rfl a53 7 s53 HF 0 rfl ?_ ?_ | refine st_loads rfl _ _ rfl _ _ rfl a53 7 s53 HF 1 rfl ?_ ?_); (simp); (intro K hK; go_simp)) | ((with_reducible refine k_load ?_); refine st_load rfl _ _ rfl _ _ rfl ?_ HF 5 rfl rfl ?_; (kernel_rfl); (intro K hK; go_simp)))
                    go_roundw
                    case rel => exact ⟨m + 1, by omega, by omega, rfl, HF.drop.drop⟩
                    case measure => simp [intOf]; omega
                · have g3 : ¬ (m : Int) ≤ 6 := by omega
                  go_wp2_with (first | ((with_reducible refine k_load (T := 25) ?_); refine st_row rfl _ _ rfl _ rfl a25 3 s25 HF 0 rfl rfl ?_; (intro K hK; go_simp)) | ((with_reducible refine k_load (T := 25) ?_); refine st_loads rfl _ _ rfl _ _ rfl a25 3 s25 HF 0 rfl ?_ ?_; (simp); (intro K hK; go_simp)) | ((with_reducible refine k_load ?_); refine st_load rfl _ _ rfl _ _ rfl ?_ HF 3 rfl rfl ?_; (kernel_rfl); (intro K hK; go_simp)) | ((with_reducible refine k_store (T := 25) ?_); refine st_put rfl _ _ _ rfl _ rfl _ rfl ?_ s25 HF 4 rfl rfl ?_; (simp [Value.oneCell']); (clear HF; intro w HF K hK; simp only [List.set_cons_zero, List.set_cons_succ, Act.eval, Value.cells, Array.getD_eq_getD_getElem?, List.getElem?_toArray, List.getElem?_cons_succ, List.getElem?_cons_zero, Option.getD_some] at HF; go_simp)))
                  go_roundw
                  case rel => exact ⟨k + 1, ⟨nu, nes, nls⟩, al, _, s1, t1, u1, s2, t2, u2, a1, n1, q1, a2, n2, q2, by omega, rfl, rfl, Lib.hid (HI.out _ (by intro h; first | trivial | rfl | (cases h; done))), HF.sel 11 [4, 5, 1, 2, 8, 9, 10]⟩
                  case measure => simp [intOf]; omega
            | false =>
              go_wp2_with (first | ((with_reducible refine k_alloc (T := 25) ?_); refine st_alloc rfl _ rfl _ z25 _ rfl HF ?_; (clear HF; intro g12 w HF K hK; simp only [Value.cells] at HF; go_simp)) | ((with_reducible refine k_alloc (T := 41) ?_); refine st_alloc rfl _ rfl _ z41 _ rfl HF ?_; (clear HF; intro g13 w HF K hK; simp only [Value.cells] at HF; go_simp)) | ((with_reducible refine k_store (T := 25) ?_); refine st_put rfl _ _ _ rfl _ rfl _ rfl ?_ s25 HF 1 rfl rfl ?_; (simp [Value.oneCell']); (clear HF; intro w HF K hK; simp only [List.set_cons_zero, List.set_cons_succ, Act.eval, Value.cells, Array.getD_eq_getD_getElem?, List.getElem?_toArray, List.getElem?_cons_succ, List.getElem?_cons_zero, Option.getD_some] at HF; go_simp)) | ((with_reducible refine k_store (T := 41) ?_); refine st_put rfl _ _ _ rfl _ rfl _ rfl ?_ s41 HF 0 rfl rfl ?_; (simp [Value.oneCell']); (clear HF; intro w HF K hK; simp only [List.set_cons_zero, List.set_cons_succ, Act.eval, Value.cells, Array.getD_eq_getD_getElem?, List.getElem?_toArray, List.getElem?_cons_succ, List.getElem?_cons_zero, Option.getD_some] at HF; go_simp)) | ((with_reducible refine k_load (T := 25) ?_); refine st_row rfl _ _ rfl _ rfl a25 3 s25 HF 6 rfl rfl ?_; (intro K hK; go_simp)) | ((with_reducible refine k_load (T := 25) ?_); refine st_loads rfl _ _ rfl _ _ rfl a25 3 s25 HF 6 rfl ?_ ?_; (simp); (intro K hK; go_simp)) | ((with_reducible refine k_load ?_); refine st_load rfl _ _ rfl _ _ rfl ?_ HF 0 rfl rfl ?_; (kernel_rfl); (intro K hK; go_simp)))
              replace HF : At W (Blk g13 (.cells #[.int .i64 aerr, .string an, .int .i64 af, .int .i64 ao, .int .i64 az, .slice s3 t3 u3] 41 (0, 0)) :: Blk g12 (.cells #[.int .i64 nu, .slice s1 t1 u1, .slice s2 t2 u2] 25 (0, 0)) :: OE (.slice s1 t1 u1) nes :: OL (.slice s2 t2 u2) nls :: Blk g11 (.cells #[.int .i64 kd, .int .i64 cl, .int .i64 op, .string nm, .int .i64 fc, .int .i64 fo, .int .i64 nc, .int .i64 no, .int .i64 sz] 29 (0, 0)) :: Blk g7 (.cells #[.int .i64 b.u, .slice b1 m1 p1, .slice b2 m2 p2] 25 (0, 0)) :: Blk g8 (.cells #[.int .i64 al.u, .slice a1 n1 q1, .slice a2 n2 q2] 25 (0, 0)) :: OE (.slice b1 m1 p1) b.es :: OL (.slice b2 m2 p2) b.ls :: OE (.slice a1 n1 q1) al.es :: OL (.slice a2 n2 q2) al.ls :: Arg W :: []) _ := HF.sel 13 [0, 1, 2, 3, 5, 6, 7, 8, 9, 10, 11, 12]
              refine (find (oe_recs (HF.pick 7 rfl)) hbe HF).mono ?_
              rw [HQ.out]
              dsimp only [En.cells]
              rintro e w6 ⟨rfl, HX⟩
              clear HF
              have HF := HX
              clear HX
              go_wp2_with (first | ((with_reducible refine k_alloc (T := 39) ?_); refine st_alloc rfl _ rfl _ z39 _ rfl HF ?_; (clear HF; intro g15 w HF K hK; simp only [Value.cells] at HF; go_simp)) | ((with_reducible refine k_store (T := 39) ?_); refine st_put rfl _ _ _ rfl _ rfl _ rfl ?_ s39 HF 0 rfl rfl ?_; (simp [Value.oneCell']); (clear HF; intro w HF K hK; simp only [List.set_cons_zero, List.set_cons_succ, Act.eval, Value.cells, Array.getD_eq_getD_getElem?, List.getElem?_toArray, List.getElem?_cons_succ, List.getElem?_cons_zero, Option.getD_some] at HF; go_simp)) | ((with_reducible refine k_load (T := 25) ?_); refine st_row rfl _ _ rfl _ rfl a25 3 s25 HF 2 rfl rfl ?_; (intro K hK; go_simp)) | ((with_reducible refine k_load (T := 25) ?_); refine st_loads rfl _ _ rfl _ _ rfl a25 3 s25 HF 2 rfl ?_ ?_; (simp); (intro K hK; go_simp)))
              refine (find (oe_recs (HF.pick 3 rfl)) hne HF).mono ?_
              rw [HR.out]
              dsimp only [En.cells]
              rintro e w7 ⟨rfl, HX⟩
              clear HF
              have HF := HX
              clear HX
              have hz2 : ∀ w, (Op.equalIn 10000 39 (.agg #[.string qn, .int .i64 qf, .int .i64 qo, .int .i64 qs]) (.agg #[.string qn, .int .i64 qf, .int .i64 qo, .int .i64 qs])).run Try.prog w = .ok true w := fun w => run_eq_self 9 (by decide) fEntry a39 (En.fits ⟨qn, qf, qo, qs⟩)
              go_wp2_with (first | ((with_reducible refine k_alloc (T := 39) ?_); refine st_alloc rfl _ rfl _ z39 _ rfl HF ?_; (clear HF; intro g17 w HF K hK; simp only [Value.cells] at HF; go_simp)) | ((with_reducible refine k_store (T := 39) ?_); refine st_put rfl _ _ _ rfl _ rfl _ rfl ?_ s39 HF 0 rfl rfl ?_; (simp [Value.oneCell']); (clear HF; intro w HF K hK; simp only [List.set_cons_zero, List.set_cons_succ, Act.eval, Value.cells, Array.getD_eq_getD_getElem?, List.getElem?_toArray, List.getElem?_cons_succ, List.getElem?_cons_zero, Option.getD_some] at HF; go_simp)) | ((with_reducible refine k_load (T := 39) ?_); (first | refine st_row rfl _ _ rfl _ rfl a39 4 s39 HF 0 rfl rfl ?_ | refine st_row rfl _ _ rfl _ rfl a39 4 s39 HF 1 rfl rfl ?_); (intro K hK; go_simp)) | ((with_reducible refine k_load (T := 39) ?_); (first | refine st_loads rfl _ _ rfl _ _ rfl a39 4 s39 HF 0 rfl ?_ ?_ | refine st_loads rfl _ _ rfl _ _ rfl a39 4 s39 HF 1 rfl ?_ ?_); (simp); (intro K hK; go_simp)) | ((with_reducible refine k_load ?_); refine st_load rfl _ _ rfl _ _ rfl ?_ HF 6 rfl rfl ?_; (kernel_rfl); (intro K hK; go_simp)))
              replace HF : At W (Blk g12 (.cells #[.int .i64 nu, .slice s1 t1 u1, .slice s2 t2 u2] 25 (0, 0)) :: OE (.slice s1 t1 u1) nes :: OL (.slice s2 t2 u2) nls :: Blk g11 (.cells #[.int .i64 kd, .int .i64 cl, .int .i64 op, .string nm, .int .i64 fc, .int .i64 fo, .int .i64 nc, .int .i64 no, .int .i64 sz] 29 (0, 0)) :: Blk g7 (.cells #[.int .i64 b.u, .slice b1 m1 p1, .slice b2 m2 p2] 25 (0, 0)) :: Blk g8 (.cells #[.int .i64 al.u, .slice a1 n1 q1, .slice a2 n2 q2] 25 (0, 0)) :: OE (.slice b1 m1 p1) b.es :: OL (.slice b2 m2 p2) b.ls :: OE (.slice a1 n1 q1) al.es :: OL (.slice a2 n2 q2) al.ls :: Arg W :: []) _ := HF.sel 14 [3, 4, 5, 6, 7, 8, 9, 10, 11, 12, 13]
              go_loopw [19] (fun i wr => ∃ m : Nat, 1 ≤ m ∧ m ≤ 7 ∧ i = .int .i64 m ∧ At W (Blk g12 (.cells #[.int .i64 nu, .slice s1 t1 u1, .slice s2 t2 u2] 25 (0, 0)) :: OE (.slice s1 t1 u1) nes :: OL (.slice s2 t2 u2) nls :: Blk g11 (.cells #[.int .i64 kd, .int .i64 cl, .int .i64 op, .string nm, .int .i64 fc, .int .i64 fo, .int .i64 nc, .int .i64 no, .int .i64 sz] 29 (0, 0)) :: Blk g7 (.cells #[.int .i64 b.u, .slice b1 m1 p1, .slice b2 m2 p2] 25 (0, 0)) :: Blk g8 (.cells #[.int .i64 al.u, .slice a1 n1 q1, .slice a2 n2 q2] 25 (0, 0)) :: OE (.slice b1 m1 p1) b.es :: OL (.slice b2 m2 p2) b.ls :: OE (.slice a1 n1 q1) al.es :: OL (.slice a2 n2 q2) al.ls :: Arg W :: []) wr) (fun i _ => 7 - (intOf i).toNat)
              case atStart => exact ⟨1, by omega, by omega, rfl, HF⟩
              case round =>
                clear HF
                obtain ⟨m, hm1, hm7, rfl, HF⟩ := hrel
                by_cases hm : m ≤ 6
                · have g3 : (m : Int) ≤ 6 := by omega
                  obtain ⟨⟨⟨ka, kb, kc, kk, ke, kf, kg⟩, kz⟩, hq⟩ : ∃ q, lastF b.ls m = q := ⟨_, rfl⟩
                  obtain ⟨⟨⟨ra, rb2, rc, rd, re, rf2, rg⟩, rz⟩, hr⟩ : ∃ q, lastF nls m = q := ⟨_, rfl⟩
                  have HK := Lib.hid hq
                  have HK2 := Lib.hid hr
                  go_wp2_with (first | ((with_reducible refine k_load (T := 25) ?_); refine st_row rfl _ _ rfl _ rfl a25 3 s25 HF 4 rfl rfl ?_; (intro K hK; go_simp)) | ((with_reducible refine k_load (T := 25) ?_); refine st_loads rfl _ _ rfl _ _ rfl a25 3 s25 HF 4 rfl ?_ ?_; (simp); (intro K hK; go_simp)))
                  refine (lastP (ol_recs (HF.pick 7 rfl)) hbl HF).mono ?_
                  rw [HK.out]
                  dsimp only [La.cells]
                  rintro e w8 ⟨rfl, HX⟩
                  clear HF
                  have HF := HX
                  clear HX
                  go_wp2_with (first | ((with_reducible refine k_alloc (T := 53) ?_); refine st_alloc rfl _ rfl _ z53 _ rfl HF ?_; (clear HF; intro g20 w HF K hK; simp only [Value.cells] at HF; go_simp)) | ((with_reducible refine k_store (T := 53) ?_); refine st_put rfl _ _ _ rfl _ rfl _ rfl ?_ s53 HF 0 rfl rfl ?_; (simp [Value.oneCell']); (clear HF; intro w HF K hK; simp only [List.set_cons_zero, List.set_cons_succ, Act.eval, Value.cells, Array.getD_eq_getD_getElem?, List.getElem?_toArray, List.getElem?_cons_succ, List.getElem?_cons_zero, Option.getD_some] at HF; go_simp)) | ((with_reducible refine k_load (T := 25) ?_); refine st_row rfl _ _ rfl _ rfl a25 3 s25 HF 1 rfl rfl ?_; (intro K hK; go_simp)) | ((with_reducible refine k_load (T := 25) ?_); refine st_loads rfl _ _ rfl _ _ rfl a25 3 s25 HF 1 rfl ?_ ?_; (simp); (intro K hK; go_simp)))
                  refine (lastP (ol_recs (HF.pick 3 rfl)) hnl HF).mono ?_
                  rw [HK2.out]
                  dsimp only [La.cells]
                  rintro e w9 ⟨rfl, HX⟩
                  clear HF
                  have HF := HX
                  clear HX
                  by_cases h5 : (m : Int) = cl
                  · have h5a : ((m : Int) == cl) = true := by simpa using h5
                    have h5b : ((m : Int) != cl) = false := by simpa using h5
                    by_cases h6 : kd = 3
                    · have h6a : (kd == 3) = true := by simpa using h6
                      have hqr := Z4.out m (.inr (.inl h6))
                      clear h5 h6
                      rw [hq, hr] at hqr
                      cases hqr
                      clear hq hr
                      have hz3 : ∀ w, (Op.equalIn 10000 53 (.agg #[.int .i64 ka, .int .i64 kb, .int .i64 kc, .int .i64 kk, .int .i64 ke, .int .i64 kf, .int .i64 kg]) (.agg #[.int .i64 ka, .int .i64 kb, .int .i64 kc, .int .i64 kk, .int .i64 ke, .int .i64 kf, .int .i64 kg])).run Try.prog w = .ok true w := fun w => run_eq_self 9 (by decide) fLast a53 (La.fits ⟨ka, kb, kc, kk, ke, kf, kg⟩)
                      go_wp2_with (first | ((with_reducible refine k_alloc (T := 53) ?_); refine st_alloc rfl _ rfl _ z53 _ rfl HF ?_; (clear HF; intro g22 w HF K hK; simp only [Value.cells] at HF; go_simp)) | ((with_reducible refine k_store (T := 53) ?_); refine st_put rfl _ _ _ rfl _ rfl _ rfl ?_ s53 HF 0 rfl rfl ?_; (simp [Value.oneCell']); (clear HF; intro w HF K hK; simp only [List.set_cons_zero, List.set_cons_succ, Act.eval, Value.cells, Array.getD_eq_getD_getElem?, List.getElem?_toArray, List.getElem?_cons_succ, List.getElem?_cons_zero, Option.getD_some] at HF; go_simp)) | ((with_reducible refine k_load (T := 53) ?_); (first | refine st_row rfl _ _ rfl _ rfl a53 7 s53 HF 0 rfl rfl ?_ | refine st_row rfl _ _ rfl _ rfl a53 7 s53 HF 1 rfl rfl ?_); (intro K hK; go_simp)) | ((with_reducible refine k_load (T := 53) ?_); (first | refine st_loads rfl _ _ rfl _ _ rfl a53 7 s53 HF 0 rfl ?_ ?_ | refine st_loads rfl _ _ rfl _ _ rfl a53 7 s53 HF 1 rfl ?_ ?_); (simp); (intro K hK; go_simp)) | ((with_reducible refine k_load ?_); refine st_load rfl _ _ rfl _ _ rfl ?_ HF 5 rfl rfl ?_; (kernel_rfl); (intro K hK; go_simp)))
                      go_roundw
                      case rel => exact ⟨m + 1, by omega, by omega, rfl, HF.drop.drop⟩
                      case measure => simp [intOf]; omega
                    · have h6a : (kd == 3) = false := by simpa using h6
                      by_cases h7 : kd = 4
                      · have h7a : (kd == 4) = true := by simpa using h7
                        have hqr := Z4.out m (.inr (.inr h7))
                        clear h5 h6 h7
                        rw [hq, hr] at hqr
                        cases hqr
                        clear hq hr
                        have hz3 : ∀ w, (Op.equalIn 10000 53 (.agg #[.int .i64 ka, .int .i64 kb, .int .i64 kc, .int .i64 kk, .int .i64 ke, .int .i64 kf, .int .i64 kg]) (.agg #[.int .i64 ka, .int .i64 kb, .int .i64 kc, .int .i64 kk, .int .i64 ke, .int .i64 kf, .int .i64 kg])).run Try.prog w = .ok true w := fun w => run_eq_self 9 (by decide) fLast a53 (La.fits ⟨ka, kb, kc, kk, ke, kf, kg⟩)
                        go_wp2_with (first | ((with_reducible refine k_alloc (T := 53) ?_); refine st_alloc rfl _ rfl _ z53 _ rfl HF ?_; (clear HF; intro g22 w HF K hK; simp only [Value.cells] at HF; go_simp)) | ((with_reducible refine k_store (T := 53) ?_); refine st_put rfl _ _ _ rfl _ rfl _ rfl ?_ s53 HF 0 rfl rfl ?_; (simp [Value.oneCell']); (clear HF; intro w HF K hK; simp only [List.set_cons_zero, List.set_cons_succ, Act.eval, Value.cells, Array.getD_eq_getD_getElem?, List.getElem?_toArray, List.getElem?_cons_succ, List.getElem?_cons_zero, Option.getD_some] at HF; go_simp)) | ((with_reducible refine k_load (T := 53) ?_); (first | refine st_row rfl _ _ rfl _ rfl a53 7 s53 HF 0 rfl rfl ?_ | refine st_row rfl _ _ rfl _ rfl a53 7 s53 HF 1 rfl rfl ?_); (intro K hK; go_simp)) | ((with_reducible refine k_load (T := 53) ?_); (first | refine st_loads rfl _ _ rfl _ _ rfl a53 7 s53 HF 0 rfl ?_ ?_ | refine st_loads rfl _ _ rfl _ _ rfl a53 7 s53 HF 1 rfl ?_ ?_); (simp); (intro K hK; go_simp)) | ((with_reducible refine k_load ?_); refine st_load rfl _ _ rfl _ _ rfl ?_ HF 5 rfl rfl ?_; (kernel_rfl); (intro K hK; go_simp)))
                        go_roundw
                        case rel => exact ⟨m + 1, by omega, by omega, rfl, HF.drop.drop⟩
                        case measure => simp [intOf]; omega
                      · have h7a : (kd == 4) = false := by simpa using h7
                        clear h5 h6 h7 hq hr
                        go_wp2_with (first | ((with_reducible refine k_alloc (T := 53) ?_); refine st_alloc rfl _ rfl _ z53 _ rfl HF ?_; (clear HF; intro g22 w HF K hK; simp only [Value.cells] at HF; go_simp)) | ((with_reducible refine k_store (T := 53) ?_); refine st_put rfl _ _ _ rfl _ rfl _ rfl ?_ s53 HF 0 rfl rfl ?_; (simp [Value.oneCell']); (clear HF; intro w HF K hK; simp only [List.set_cons_zero, List.set_cons_succ, Act.eval, Value.cells, Array.getD_eq_getD_getElem?, List.getElem?_toArray, List.getElem?_cons_succ, List.getElem?_cons_zero, Option.getD_some] at HF; go_simp)) | ((with_reducible refine k_load (T := 53) ?_); (first | refine st_row rfl _ _ rfl _ rfl a53 7 s53 HF 0 rfl rfl ?_ | refine st_row rfl _ _ rfl _ rfl a53 7 s53 HF 1 rfl rfl ?_); (intro K hK; go_simp)) | ((with_reducible refine k_load (T := 53) ?_); (first | refine st_loads rfl _ _ rfl _ _ rfl a53 7 s53 HF 0 rfl ?_ ?_ | refine st_loads rfl _ _ rfl _ _ rfl a53 7 s53 HF 1 rfl ?_ ?_); (simp); (intro K hK; go_simp)) | ((with_reducible refine k_load ?_); refine st_load rfl _ _ rfl _ _ rfl ?_ HF 5 rfl rfl ?_; (kernel_rfl); (intro K hK; go_simp)))
                        go_roundw
                        case rel => exact ⟨m + 1, by omega, by omega, rfl, HF.drop.drop⟩
                        case measure => simp [intOf]; omega
                  · have h5a : ((m : Int) == cl) = false := by simpa using h5
                    have h5b : ((m : Int) != cl) = true := by simpa using h5
                    have hqr := Z4.out m (.inl h5)
                    clear h5
                    rw [hq, hr] at hqr
                    cases hqr
                    clear hq hr
                    have hz3 : ∀ w, (Op.equalIn 10000 53 (.agg #[.int .i64 ka, .int .i64 kb, .int .i64 kc, .int .i64 kk, .int .i64 ke, .int .i64 kf, .int .i64 kg]) (.agg #[.int .i64 ka, .int .i64 kb, .int .i64 kc, .int .i64 kk, .int .i64 ke, .int .i64 kf, .int .i64 kg])).run Try.prog w = .ok true w := fun w => run_eq_self 9 (by decide) fLast a53 (La.fits ⟨ka, kb, kc, kk, ke, kf, kg⟩)
                    go_wp2_with (first | ((with_reducible refine k_alloc (T := 53) ?_); refine st_alloc rfl _ rfl _ z53 _ rfl HF ?_; (clear HF; intro g22 w HF K hK; simp only [Value.cells] at HF; go_simp)) | ((with_reducible refine k_store (T := 53) ?_); refine st_put rfl _ _ _ rfl _ rfl _ rfl ?_ s53 HF 0 rfl rfl ?_; (simp [Value.oneCell']); (clear HF; intro w HF K hK; simp only [List.set_cons_zero, List.set_cons_succ, Act.eval, Value.cells, Array.getD_eq_getD_getElem?, List.getElem?_toArray, List.getElem?_cons_succ, List.getElem?_cons_zero, Option.getD_some] at HF; go_simp)) | ((with_reducible refine k_load (T := 53) ?_); (first | refine st_row rfl _ _ rfl _ rfl a53 7 s53 HF 0 rfl rfl ?_ | refine st_row rfl _ _ rfl _ rfl a53 7 s53 HF 1 rfl rfl ?_); (intro K hK; go_simp)) | ((with_reducible refine k_load (T := 53) ?_); (first | refine st_loads rfl _ _ rfl _ _ rfl a53 7 s53 HF 0 rfl ?_ ?_ | refine st_loads rfl _ _ rfl _ _ rfl a53 7 s53 HF 1 rfl ?_ ?_); (simp); (intro K hK; go_simp)) | ((with_reducible refine k_load ?_); refine st_load rfl _ _ rfl _ _ rfl ?_ HF 5 rfl rfl ?_; (kernel_rfl); (intro K hK; go_simp)))
                    go_roundw
                    case rel => exact ⟨m + 1, by omega, by omega, rfl, HF.drop.drop⟩
                    case measure => simp [intOf]; omega
                · have g3 : ¬ (m : Int) ≤ 6 := by omega
                  go_wp2_with (first | ((with_reducible refine k_load (T := 25) ?_); refine st_row rfl _ _ rfl _ rfl a25 3 s25 HF 0 rfl rfl ?_; (intro K hK; go_simp)) | ((with_reducible refine k_load (T := 25) ?_); refine st_loads rfl _ _ rfl _ _ rfl a25 3 s25 HF 0 rfl ?_ ?_; (simp); (intro K hK; go_simp)) | ((with_reducible refine k_load ?_); refine st_load rfl _ _ rfl _ _ rfl ?_ HF 3 rfl rfl ?_; (kernel_rfl); (intro K hK; go_simp)) | ((with_reducible refine k_store (T := 25) ?_); refine st_put rfl _ _ _ rfl _ rfl _ rfl ?_ s25 HF 4 rfl rfl ?_; (simp [Value.oneCell']); (clear HF; intro w HF K hK; simp only [List.set_cons_zero, List.set_cons_succ, Act.eval, Value.cells, Array.getD_eq_getD_getElem?, List.getElem?_toArray, List.getElem?_cons_succ, List.getElem?_cons_zero, Option.getD_some] at HF; go_simp)))
                  go_roundw
                  case rel => exact ⟨k + 1, ⟨nu, nes, nls⟩, al, _, s1, t1, u1, s2, t2, u2, a1, n1, q1, a2, n2, q2, by omega, rfl, rfl, Lib.hid (HI.out _ (by intro h; first | trivial | rfl | (cases h; done))), HF.sel 11 [4, 5, 1, 2, 8, 9, 10]⟩
                  case measure => simp [intOf]; omega
      · have g2 : ¬ (k : Int) < 400 := by omega
        have g1 : (k : Int) < l.length := by omega
        have hbe : b.es.length ≤ 140737488355328 := by have := HAI.out.bi.le; omega
        have hae : al.es.length ≤ 140737488355328 := by have := HAI.out.ai.le; omega
        have HS := Lib.hid HAI.out.same
        clear HAI
        obtain ⟨⟨⟨qn, qf, qo, qs⟩, qb⟩, hq⟩ : ∃ q, findS b.es name = q := ⟨_, rfl⟩
        obtain ⟨⟨⟨rn, rf, ro, rs⟩, rb⟩, hr⟩ : ∃ q, findS al.es name = q := ⟨_, rfl⟩
        have HQ := Lib.hid hq
        have HR := Lib.hid hr
        cases ry with
        | true =>
          have hqr := HS.out rfl
          rw [hq, hr] at hqr
          cases hqr
          clear hq hr HS
          go_wp2_with (first | ((with_reducible refine k_load (T := 25) ?_); refine st_row rfl _ _ rfl _ rfl a25 3 s25 HF 0 rfl rfl ?_; (intro K hK; go_simp)) | ((with_reducible refine k_load (T := 25) ?_); refine st_loads rfl _ _ rfl _ _ rfl a25 3 s25 HF 0 rfl ?_ ?_; (simp); (intro K hK; go_simp)))
          refine (find (oe_recs (HF.pick 2 rfl)) hbe HF).mono ?_
          rw [HQ.out]
          dsimp only [En.cells]
          rintro e w6 ⟨rfl, HX⟩
          clear HF
          have HF := HX
          clear HX
          go_wp2_with (first | ((with_reducible refine k_alloc (T := 39) ?_); refine st_alloc rfl _ rfl _ z39 _ rfl HF ?_; (clear HF; intro g25 w HF K hK; simp only [Value.cells] at HF; go_simp)) | ((with_reducible refine k_store (T := 39) ?_); refine st_put rfl _ _ _ rfl _ rfl _ rfl ?_ s39 HF 0 rfl rfl ?_; (simp [Value.oneCell']); (clear HF; intro w HF K hK; simp only [List.set_cons_zero, List.set_cons_succ, Act.eval, Value.cells, Array.getD_eq_getD_getElem?, List.getElem?_toArray, List.getElem?_cons_succ, List.getElem?_cons_zero, Option.getD_some] at HF; go_simp)) | ((with_reducible refine k_load (T := 25) ?_); refine st_row rfl _ _ rfl _ rfl a25 3 s25 HF 2 rfl rfl ?_; (intro K hK; go_simp)) | ((with_reducible refine k_load (T := 25) ?_); refine st_loads rfl _ _ rfl _ _ rfl a25 3 s25 HF 2 rfl ?_ ?_; (simp); (intro K hK; go_simp)))
          refine (find (oe_recs (HF.pick 5 rfl)) hae HF).mono ?_
          rw [HR.out]
          dsimp only [En.cells]
          rintro e w7 ⟨rfl, HX⟩
          clear HF
          have HF := HX
          clear HX
          have hz2 : ∀ w, (Op.equalIn 10000 39 (.agg #[.string qn, .int .i64 qf, .int .i64 qo, .int .i64 qs]) (.agg #[.string qn, .int .i64 qf, .int .i64 qo, .int .i64 qs])).run Try.prog w = .ok true w := fun w => run_eq_self 9 (by decide) fEntry a39 (En.fits ⟨qn, qf, qo, qs⟩)
          go_wp2_with (first | ((with_reducible refine k_alloc (T := 39) ?_); refine st_alloc rfl _ rfl _ z39 _ rfl HF ?_; (clear HF; intro g27 w HF K hK; simp only [Value.cells] at HF; go_simp)) | ((with_reducible refine k_store (T := 39) ?_); refine st_put rfl _ _ _ rfl _ rfl _ rfl ?_ s39 HF 0 rfl rfl ?_; (simp [Value.oneCell']); (clear HF; intro w HF K hK; simp only [List.set_cons_zero, List.set_cons_succ, Act.eval, Value.cells, Array.getD_eq_getD_getElem?, List.getElem?_toArray, List.getElem?_cons_succ, List.getElem?_cons_zero, Option.getD_some] at HF; go_simp)) | ((with_reducible refine k_load (T := 39) ?_); (first | refine st_row rfl _ _ rfl _ rfl a39 4 s39 HF 0 rfl rfl ?_ | refine st_row rfl _ _ rfl _ rfl a39 4 s39 HF 1 rfl rfl ?_); (intro K hK; go_simp)) | ((with_reducible refine k_load (T := 39) ?_); (first | refine st_loads rfl _ _ rfl _ _ rfl a39 4 s39 HF 0 rfl ?_ ?_ | refine st_loads rfl _ _ rfl _ _ rfl a39 4 s39 HF 1 rfl ?_ ?_); (simp); (intro K hK; go_simp)))
          refine (head HF).mono ?_
          rintro e w8 ⟨rfl, HX⟩
          clear HF
          have HF := HX
          clear HX
          go_wp2_with fail
          go_ret
          exact ⟨rfl, HF.below 8 rfl⟩
        | false =>
          clear hq hr HS
          go_wp2_with (first | ((with_reducible refine k_load (T := 25) ?_); refine st_row rfl _ _ rfl _ rfl a25 3 s25 HF 0 rfl rfl ?_; (intro K hK; go_simp)) | ((with_reducible refine k_load (T := 25) ?_); refine st_loads rfl _ _ rfl _ _ rfl a25 3 s25 HF 0 rfl ?_ ?_; (simp); (intro K hK; go_simp)))
          refine (find (oe_recs (HF.pick 2 rfl)) hbe HF).mono ?_
          rw [HQ.out]
          dsimp only [En.cells]
          rintro e w6 ⟨rfl, HX⟩
          clear HF
          have HF := HX
          clear HX
          go_wp2_with (first | ((with_reducible refine k_alloc (T := 39) ?_); refine st_alloc rfl _ rfl _ z39 _ rfl HF ?_; (clear HF; intro g25 w HF K hK; simp only [Value.cells] at HF; go_simp)) | ((with_reducible refine k_store (T := 39) ?_); refine st_put rfl _ _ _ rfl _ rfl _ rfl ?_ s39 HF 0 rfl rfl ?_; (simp [Value.oneCell']); (clear HF; intro w HF K hK; simp only [List.set_cons_zero, List.set_cons_succ, Act.eval, Value.cells, Array.getD_eq_getD_getElem?, List.getElem?_toArray, List.getElem?_cons_succ, List.getElem?_cons_zero, Option.getD_some] at HF; go_simp)) | ((with_reducible refine k_load (T := 25) ?_); refine st_row rfl _ _ rfl _ rfl a25 3 s25 HF 2 rfl rfl ?_; (intro K hK; go_simp)) | ((with_reducible refine k_load (T := 25) ?_); refine st_loads rfl _ _ rfl _ _ rfl a25 3 s25 HF 2 rfl ?_ ?_; (simp); (intro K hK; go_simp)))
          refine (find (oe_recs (HF.pick 5 rfl)) hae HF).mono ?_
          rw [HR.out]
          dsimp only [En.cells]
          rintro e w7 ⟨rfl, HX⟩
          clear HF
          have HF := HX
          clear HX
          have hz2 : ∀ w, (Op.equalIn 10000 39 (.agg #[.string qn, .int .i64 qf, .int .i64 qo, .int .i64 qs]) (.agg #[.string qn, .int .i64 qf, .int .i64 qo, .int .i64 qs])).run Try.prog w = .ok true w := fun w => run_eq_self 9 (by decide) fEntry a39 (En.fits ⟨qn, qf, qo, qs⟩)
          go_wp2_with (first | ((with_reducible refine k_alloc (T := 39) ?_); refine st_alloc rfl _ rfl _ z39 _ rfl HF ?_; (clear HF; intro g27 w HF K hK; simp only [Value.cells] at HF; go_simp)) | ((with_reducible refine k_store (T := 39) ?_); refine st_put rfl _ _ _ rfl _ rfl _ rfl ?_ s39 HF 0 rfl rfl ?_; (simp [Value.oneCell']); (clear HF; intro w HF K hK; simp only [List.set_cons_zero, List.set_cons_succ, Act.eval, Value.cells, Array.getD_eq_getD_getElem?, List.getElem?_toArray, List.getElem?_cons_succ, List.getElem?_cons_zero, Option.getD_some] at HF; go_simp)) | ((with_reducible refine k_load (T := 39) ?_); (first | refine st_row rfl _ _ rfl _ rfl a39 4 s39 HF 0 rfl rfl ?_ | refine st_row rfl _ _ rfl _ rfl a39 4 s39 HF 1 rfl rfl ?_); (intro K hK; go_simp)) | ((with_reducible refine k_load (T := 39) ?_); (first | refine st_loads rfl _ _ rfl _ _ rfl a39 4 s39 HF 0 rfl ?_ ?_ | refine st_loads rfl _ _ rfl _ _ rfl a39 4 s39 HF 1 rfl ?_ ?_); (simp); (intro K hK; go_simp)))
          refine (head HF).mono ?_
          rintro e w8 ⟨rfl, HX⟩
          clear HF
          have HF := HX
          clear HX
          go_wp2_with fail
          go_ret
          exact ⟨rfl, HF.below 8 rfl⟩
    · have g1 : ¬ (k : Int) < l.length := by omega
      have hbe : b.es.length ≤ 140737488355328 := by have := HAI.out.bi.le; omega
      have hae : al.es.length ≤ 140737488355328 := by have := HAI.out.ai.le; omega
      have HS := Lib.hid HAI.out.same
      clear HAI
      obtain ⟨⟨⟨qn, qf, qo, qs⟩, qb⟩, hq⟩ : ∃ q, findS b.es name = q := ⟨_, rfl⟩
      obtain ⟨⟨⟨rn, rf, ro, rs⟩, rb⟩, hr⟩ : ∃ q, findS al.es name = q := ⟨_, rfl⟩
      have HQ := Lib.hid hq
      have HR := Lib.hid hr
      cases ry with
      | true =>
        have hqr := HS.out rfl
        rw [hq, hr] at hqr
        cases hqr
        clear hq hr HS
        go_wp2_with (first | ((with_reducible refine k_load (T := 25) ?_); refine st_row rfl _ _ rfl _ rfl a25 3 s25 HF 0 rfl rfl ?_; (intro K hK; go_simp)) | ((with_reducible refine k_load (T := 25) ?_); refine st_loads rfl _ _ rfl _ _ rfl a25 3 s25 HF 0 rfl ?_ ?_; (simp); (intro K hK; go_simp)))
        refine (find (oe_recs (HF.pick 2 rfl)) hbe HF).mono ?_
        rw [HQ.out]
        dsimp only [En.cells]
        rintro e w6 ⟨rfl, HX⟩
        clear HF
        have HF := HX
        clear HX
        go_wp2_with (first | ((with_reducible refine k_alloc (T := 39) ?_); refine st_alloc rfl _ rfl _ z39 _ rfl HF ?_; (clear HF; intro g25 w HF K hK; simp only [Value.cells] at HF; go_simp)) | ((with_reducible refine k_store (T := 39) ?_); refine st_put rfl _ _ _ rfl _ rfl _ rfl ?_ s39 HF 0 rfl rfl ?_; (simp [Value.oneCell']); (clear HF; intro w HF K hK; simp only [List.set_cons_zero, List.set_cons_succ, Act.eval, Value.cells, Array.getD_eq_getD_getElem?, List.getElem?_toArray, List.getElem?_cons_succ, List.getElem?_cons_zero, Option.getD_some] at HF; go_simp)) | ((with_reducible refine k_load (T := 25) ?_); refine st_row rfl _ _ rfl _ rfl a25 3 s25 HF 2 rfl rfl ?_; (intro K hK; go_simp)) | ((with_reducible refine k_load (T := 25) ?_); refine st_loads rfl _ _ rfl _ _ rfl a25 3 s25 HF 2 rfl ?_ ?_; (simp); (intro K hK; go_simp)))
        refine (find (oe_recs (HF.pick 5 rfl)) hae HF).mono ?_
        rw [HR.out]
        dsimp only [En.cells]
        rintro e w7 ⟨rfl, HX⟩
        clear HF
        have HF := HX
        clear HX
        have hz2 : ∀ w, (Op.equalIn 10000 39 (.agg #[.string qn, .int .i64 qf, .int .i64 qo, .int .i64 qs]) (.agg #[.string qn, .int .i64 qf, .int .i64 qo, .int .i64 qs])).run Try.prog w = .ok true w := fun w => run_eq_self 9 (by decide) fEntry a39 (En.fits ⟨qn, qf, qo, qs⟩)
        go_wp2_with (first | ((with_reducible refine k_alloc (T := 39) ?_); refine st_alloc rfl _ rfl _ z39 _ rfl HF ?_; (clear HF; intro g27 w HF K hK; simp only [Value.cells] at HF; go_simp)) | ((with_reducible refine k_store (T := 39) ?_); refine st_put rfl _ _ _ rfl _ rfl _ rfl ?_ s39 HF 0 rfl rfl ?_; (simp [Value.oneCell']); (clear HF; intro w HF K hK; simp only [List.set_cons_zero, List.set_cons_succ, Act.eval, Value.cells, Array.getD_eq_getD_getElem?, List.getElem?_toArray, List.getElem?_cons_succ, List.getElem?_cons_zero, Option.getD_some] at HF; go_simp)) | ((with_reducible refine k_load (T := 39) ?_); (first | refine st_row rfl _ _ rfl _ rfl a39 4 s39 HF 0 rfl rfl ?_ | refine st_row rfl _ _ rfl _ rfl a39 4 s39 HF 1 rfl rfl ?_); (intro K hK; go_simp)) | ((with_reducible refine k_load (T := 39) ?_); (first | refine st_loads rfl _ _ rfl _ _ rfl a39 4 s39 HF 0 rfl ?_ ?_ | refine st_loads rfl _ _ rfl _ _ rfl a39 4 s39 HF 1 rfl ?_ ?_); (simp); (intro K hK; go_simp)))
        refine (head HF).mono ?_
        rintro e w8 ⟨rfl, HX⟩
        clear HF
        have HF := HX
        clear HX
        go_wp2_with fail
        go_ret
        exact ⟨rfl, HF.below 8 rfl⟩
      | false =>
        clear hq hr HS
        go_wp2_with (first | ((with_reducible refine k_load (T := 25) ?_); refine st_row rfl _ _ rfl _ rfl a25 3 s25 HF 0 rfl rfl ?_; (intro K hK; go_simp)) | ((with_reducible refine k_load (T := 25) ?_); refine st_loads rfl _ _ rfl _ _ rfl a25 3 s25 HF 0 rfl ?_ ?_; (simp); (intro K hK; go_simp)))
        refine (find (oe_recs (HF.pick 2 rfl)) hbe HF).mono ?_
        rw [HQ.out]
        dsimp only [En.cells]
        rintro e w6 ⟨rfl, HX⟩
        clear HF
        have HF := HX
        clear HX
        go_wp2_with (first | ((with_reducible refine k_alloc (T := 39) ?_); refine st_alloc rfl _ rfl _ z39 _ rfl HF ?_; (clear HF; intro g25 w HF K hK; simp only [Value.cells] at HF; go_simp)) | ((with_reducible refine k_store (T := 39) ?_); refine st_put rfl _ _ _ rfl _ rfl _ rfl ?_ s39 HF 0 rfl rfl ?_; (simp [Value.oneCell']); (clear HF; intro w HF K hK; simp only [List.set_cons_zero, List.set_cons_succ, Act.eval, Value.cells, Array.getD_eq_getD_getElem?, List.getElem?_toArray, List.getElem?_cons_succ, List.getElem?_cons_zero, Option.getD_some] at HF; go_simp)) | ((with_reducible refine k_load (T := 25) ?_); refine st_row rfl _ _ rfl _ rfl a25 3 s25 HF 2 rfl rfl ?_; (intro K hK; go_simp)) | ((with_reducible refine k_load (T := 25) ?_); refine st_loads rfl _ _ rfl _ _ rfl a25 3 s25 HF 2 rfl ?_ ?_; (simp); (intro K hK; go_simp)))
        refine (find (oe_recs (HF.pick 5 rfl)) hae HF).mono ?_
        rw [HR.out]
        dsimp only [En.cells]
        rintro e w7 ⟨rfl, HX⟩
        clear HF
        have HF := HX
        clear HX
        have hz2 : ∀ w, (Op.equalIn 10000 39 (.agg #[.string qn, .int .i64 qf, .int .i64 qo, .int .i64 qs]) (.agg #[.string qn, .int .i64 qf, .int .i64 qo, .int .i64 qs])).run Try.prog w = .ok true w := fun w => run_eq_self 9 (by decide) fEntry a39 (En.fits ⟨qn, qf, qo, qs⟩)
        go_wp2_with (first | ((with_reducible refine k_alloc (T := 39) ?_); refine st_alloc rfl _ rfl _ z39 _ rfl HF ?_; (clear HF; intro g27 w HF K hK; simp only [Value.cells] at HF; go_simp)) | ((with_reducible refine k_store (T := 39) ?_); refine st_put rfl _ _ _ rfl _ rfl _ rfl ?_ s39 HF 0 rfl rfl ?_; (simp [Value.oneCell']); (clear HF; intro w HF K hK; simp only [List.set_cons_zero, List.set_cons_succ, Act.eval, Value.cells, Array.getD_eq_getD_getElem?, List.getElem?_toArray, List.getElem?_cons_succ, List.getElem?_cons_zero, Option.getD_some] at HF; go_simp)) | ((with_reducible refine k_load (T := 39) ?_); (first | refine st_row rfl _ _ rfl _ rfl a39 4 s39 HF 0 rfl rfl ?_ | refine st_row rfl _ _ rfl _ rfl a39 4 s39 HF 1 rfl rfl ?_); (intro K hK; go_simp)) | ((with_reducible refine k_load (T := 39) ?_); (first | refine st_loads rfl _ _ rfl _ _ rfl a39 4 s39 HF 0 rfl ?_ ?_ | refine st_loads rfl _ _ rfl _ _ rfl a39 4 s39 HF 1 rfl ?_ ?_); (simp); (intro K hK; go_simp)))
        refine (head HF).mono ?_
        rintro e w8 ⟨rfl, HX⟩
        clear HF
        have HF := HX
        clear HX
        go_wp2_with fail
        go_ret
        exact ⟨rfl, HF.below 8 rfl⟩
end

theorem own : ownKnob Try.prog.godebug = none := by kernel_rfl

theorem lifted (os : Os) (started : os.Started) (H : Type) (enc : TypeId × Value → H) :
    ReturnsInHanded {} Try.checked os 6 .any (Rows.bucketAloneSpec.pre6 enc Try.prog Try.f6 Rows.bucketAloneRow.domain false) (Rows.bucketAloneSpec.post enc Try.prog Try.f6 false true false false) := by
  refine frame_true (C := Try.checked) started own (by kernel_rfl) Try.func6
    (ChangeSpec.witness6 (enc := enc) (C := Try.checked) false ⟨#[], #[.int .i64 0, .slice none 0 0, .string ⟨#[]⟩], []⟩ 8 (by kernel_rfl) (by kernel_rfl) (by kernel_rfl) (by kernel_rfl)) rfl ?_ (by kernel_rfl) (by kernel_rfl) (by kernel_rfl) Try.underlying4 ?_
  · intro ds hds
    match ds, hds with
    | [_, _, _], _ => rfl
  · rintro W args ds p ⟨base, hval⟩ hA hwt
    have hp : Try.f6.params.toList = [3, 34, 9] := by rw [Try.params6]
    rw [hp] at hA hwt
    obtain ⟨v0, r0, d0, e0, p0, q0, ha, rfl, rfl, h0, hA⟩ := trodAll_cons hA
    obtain ⟨v1, r1, d1, e1, p1, q1, rfl, rfl, rfl, h1, hA⟩ := trodAll_cons hA
    obtain ⟨v2, r2, d2, e2, p2, q2, rfl, rfl, rfl, h2, hA⟩ := trodAll_cons hA
    obtain ⟨rfl, rfl, rfl⟩ := trodAll_nil hA
    have ha2 : args = #[v0, v1, v2] := by cases args; simp_all
    subst ha2
    simp only [DataW.weightsEach, List.all_append, Bool.and_eq_true] at hwt
    obtain ⟨a0, b0⟩ := Lw.arg_int (hval 0 _ _ (by rw [Try.params6]; rfl) rfl) h0 hwt.1
    obtain ⟨a1, b1⟩ := Lw.arg_cmds (hval 1 _ _ (by rw [Try.params6]; rfl) rfl) h1 hwt.2.1
    obtain ⟨a2, b2⟩ := Lw.arg_string (hval 2 _ _ (by rw [Try.params6]; rfl) rfl) h2 hwt.2.2.1
    exact walk b0 b1 b2

theorem over : Rows.bucketAloneRow.holds Try.pinned (OpenSpec.ofChange Rows.bucketAloneSpec) :=
  OpenClaim.holds_of_wide 6 Try.f6 rfl rfl rfl rfl rfl rfl rfl ⟨rfl, rfl, rfl, rfl, rfl⟩ rfl rfl rfl rfl rfl (by kernel_rfl) Try.func6 (by kernel_rfl)
    (of_decide_eq_true (by kernel_rfl)) (by unfold Func.isWrapper; first | (rw [if_pos (by decide +kernel)]; kernel_rfl) | (rw [if_neg (by decide +kernel)]; exact ⟨rfl, rfl⟩))
    (fun os started H enc _ => lifted os started H enc)

theorem proved : Rows.BucketAloneSaid := over
#print axioms proved
end bucketAlone
end Go.Proofs.Ytcofcikdknmggaa
