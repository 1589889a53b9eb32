/-
  The statements' own functions: two equal lists of changes.
-/
import Derived.Test.YtjobojgmadjmfaaMdTwo
namespace Go.Proofs.Ytjobojgmadjmfaa
open Go.Hp Go.RowKit
set_option linter.unusedVariables false
set_option linter.unusedSimpArgs false
set_option maxRecDepth 100000
set_option maxHeartbeats 4000000
namespace Md

structure Cg.Ok (c : Cg) : Prop where
  fe : ∀ r ∈ c.ents, Fits entK r
  fl : ∀ r ∈ c.lasts, Fits lastK r
  be : c.ents.length * 40 ≤ 140737488355328
  bl : c.lasts.length * 56 ≤ 140737488355328

theorem cells_sub {w : World} {a : Addr} {xs pre mid post : List Value} (h : ∀ (j : Nat) (u : Value), xs[j]? = some u → w.cell? (a.add j) = some u) (hx : xs = pre ++ (mid ++ post)) (n : Nat) (hn : pre.length = n) (j : Nat) (u : Value) (hj : mid[j]? = some u) : w.cell? ((a.add n).add j) = some u := by
  rw [Addr.add_add]
  refine h (n + j) u ?_
  have hlt := (List.getElem?_eq_some_iff.1 hj).1
  rw [hx, List.getElem?_append_right (by omega), show n + j - pre.length = j by omega, List.getElem?_append_left hlt]
  exact hj

section
variable {w0 w : World} {L : List HProp}

theorem sameC {v1 v2 : Value} {l : List Cg} (h1 : ChsAt w v1 l) (h2 : ChsAt w v2 l) (hf : ∀ c ∈ l, c.Ok) (hl : l.length ≤ 140737488355328) (H : At w0 L w) :
    Calls Try.prog 20 #[v1, v2] w (fun e w' => e = .returned (.bool true) ∧ At w0 L w') := by
  obtain ⟨W, rfl⟩ : ∃ W : World, W = w := ⟨_, rfl⟩
  have HF := At.of W
  have H0 := Lib.hid H
  obtain ⟨rs1, R1, n1, f1⟩ := h1
  obtain ⟨rs2, R2, n2, f2⟩ := h2
  obtain ⟨ad1, cap1, rfl, c11, c12, c13⟩ := R1.value
  obtain ⟨ad2, cap2, rfl, c21, c22, c23⟩ := R2.value
  have HR1 := Lib.hid R1
  have HR2 := Lib.hid R2
  have F1 := Lib.hid f1
  have F2 := Lib.hid f2
  have Hf := Lib.hid hf
  have C1 := Lib.hid c13
  have C2 := Lib.hid c23
  have N1 := Lib.hid n1
  have N2 := Lib.hid n2
  rw [n1, n2]
  clear R1 R2 f1 f2 hf c13 c23 H n1 n2
  go_enter Try.func20, Try.ntmps20
  go_wp2_with fail
  go_loopw [5] (fun i wr => ∃ k : Nat, k ≤ l.length ∧ i = .int .i64 k ∧ At W (Arg W :: []) wr) (fun i _ => l.length - (intOf i).toNat)
  case atStart => exact ⟨0, Nat.zero_le _, rfl, HF⟩
  case round =>
    clear HF
    obtain ⟨k, hk, rfl, HF⟩ := hrel
    by_cases hlt : k < l.length
    · have g1x : (k : Int) < l.length := by omega
      obtain ⟨b1, rfl⟩ := C1.out (by rw [N1.out]; omega)
      obtain ⟨b2, rfl⟩ := C2.out (by rw [N2.out]; omega)
      obtain ⟨c, hc⟩ : ∃ c, l[k]? = some c := ⟨_, List.getElem?_eq_getElem hlt⟩
      obtain ⟨r1, hr1⟩ : ∃ r, rs1[k]? = some r := ⟨_, List.getElem?_eq_getElem (by rw [N1.out]; exact hlt)⟩
      obtain ⟨r2, hr2⟩ : ∃ r, rs2[k]? = some r := ⟨_, List.getElem?_eq_getElem (by rw [N2.out]; exact hlt)⟩
      obtain ⟨va1, ve1, vl1, rfl, xa1, xe1, xl1⟩ := F1.out k c r1 hc hr1
      obtain ⟨va2, ve2, vl2, rfl, xa2, xe2, xl2⟩ := F2.out k c r2 hc hr2
      have hco := Lib.hid (Hf.out c (List.mem_of_getElem? hc))
      have Xa1 := Lib.hid xa1
      have Xe1 := Lib.hid xe1
      have Xl1 := Lib.hid xl1
      have Xa2 := Lib.hid xa2
      have Xe2 := Lib.hid xe2
      have Xl2 := Lib.hid xl2
      have q1 : ∀ (j : Nat) (u : Value), (c.cells va1 ve1 vl1)[j]? = some u → W.cell? ((b1.add (k * 24)).add j) = some u := fun j u hj => by
        rw [Addr.add_add]
        exact HR1.out.cell (by rw [N1.out]) hr1 hj
      have q2 : ∀ (j : Nat) (u : Value), (c.cells va2 ve2 vl2)[j]? = some u → W.cell? ((b2.add (k * 24)).add j) = some u := fun j u hj => by
        rw [Addr.add_add]
        exact HR2.out.cell (by rw [N2.out]) hr2 hj
      obtain ⟨ckk, cka, ckb, ckc, csn, csc, cblk, ⟨xk, xcl, xop, xnm, xf1, xf2, xn1, xn2, xsz⟩, cdec, cupto, cents, clasts⟩ := c
      simp only [Cg.cells] at q1 q2
      dsimp only at Xa1 Xe1 Xl1 Xa2 Xe2 Xl2 hco
      have K1 := Lib.hid (cells_sub (pre := []) (mid := [.int .i64 ckk, .int .i64 cka, .int .i64 ckb, .int .i64 ckc]) q1 rfl 0 rfl)
      have K2 := Lib.hid (cells_sub (pre := []) (mid := [.int .i64 ckk, .int .i64 cka, .int .i64 ckb, .int .i64 ckc]) q2 rfl 0 rfl)
      have S1 := Lib.hid (cells_sub (pre := [.int .i64 ckk, .int .i64 cka, .int .i64 ckb, .int .i64 ckc]) (mid := [.int .i64 csn, .int .i64 csc]) q1 rfl 4 rfl)
      have S2 := Lib.hid (cells_sub (pre := [.int .i64 ckk, .int .i64 cka, .int .i64 ckb, .int .i64 ckc]) (mid := [.int .i64 csn, .int .i64 csc]) q2 rfl 4 rfl)
      have D1 := Lib.hid (q1 6 va1 rfl)
      have D2 := Lib.hid (q2 6 va2 rfl)
      have I1 := Lib.hid (cells_sub (pre := [.int .i64 ckk, .int .i64 cka, .int .i64 ckb, .int .i64 ckc, .int .i64 csn, .int .i64 csc, va1]) (mid := [.int .i64 0, .int .i64 0, .int .i64 0, .int .i64 0, .int .i64 xk, .int .i64 xcl, .int .i64 xop, .string xnm, .int .i64 xf1, .int .i64 xf2, .int .i64 xn1, .int .i64 xn2, .int .i64 xsz, .bool cdec]) q1 rfl 7 rfl)
      have I2 := Lib.hid (cells_sub (pre := [.int .i64 ckk, .int .i64 cka, .int .i64 ckb, .int .i64 ckc, .int .i64 csn, .int .i64 csc, va2]) (mid := [.int .i64 0, .int .i64 0, .int .i64 0, .int .i64 0, .int .i64 xk, .int .i64 xcl, .int .i64 xop, .string xnm, .int .i64 xf1, .int .i64 xf2, .int .i64 xn1, .int .i64 xn2, .int .i64 xsz, .bool cdec]) q2 rfl 7 rfl)
      have B1 := Lib.hid (cells_sub (pre := [.int .i64 ckk, .int .i64 cka, .int .i64 ckb, .int .i64 ckc, .int .i64 csn, .int .i64 csc, va1, .int .i64 0, .int .i64 0, .int .i64 0, .int .i64 0, .int .i64 xk, .int .i64 xcl, .int .i64 xop, .string xnm, .int .i64 xf1, .int .i64 xf2, .int .i64 xn1, .int .i64 xn2, .int .i64 xsz, .bool cdec]) (mid := [.int .i64 cupto, ve1, vl1]) (post := []) q1 rfl 21 rfl)
      have B2 := Lib.hid (cells_sub (pre := [.int .i64 ckk, .int .i64 cka, .int .i64 ckb, .int .i64 ckc, .int .i64 csn, .int .i64 csc, va2, .int .i64 0, .int .i64 0, .int .i64 0, .int .i64 0, .int .i64 xk, .int .i64 xcl, .int .i64 xop, .string xnm, .int .i64 xf1, .int .i64 xf2, .int .i64 xn1, .int .i64 xn2, .int .i64 xsz, .bool cdec]) (mid := [.int .i64 cupto, ve2, vl2]) (post := []) q2 rfl 21 rfl)
      have hzK := run_neq_self fKey a25 (xs := [.int .i64 ckk, .int .i64 cka, .int .i64 ckb, .int .i64 ckc]) ⟨⟨_, rfl⟩, ⟨_, rfl⟩, ⟨_, rfl⟩, ⟨_, rfl⟩, trivial⟩
      have hzS := run_neq_self fStamp a27 (xs := [.int .i64 csn, .int .i64 csc]) ⟨⟨_, rfl⟩, ⟨_, rfl⟩, trivial⟩
      have hzI := run_neq_self fInst a69 (xs := [.int .i64 0, .int .i64 0, .int .i64 0, .int .i64 0, .int .i64 xk, .int .i64 xcl, .int .i64 xop, .string xnm, .int .i64 xf1, .int .i64 xf2, .int .i64 xn1, .int .i64 xn2, .int .i64 xsz, .bool cdec]) ⟨⟨_, rfl⟩, ⟨_, rfl⟩, ⟨_, rfl⟩, ⟨_, rfl⟩, ⟨_, rfl⟩, ⟨_, rfl⟩, ⟨_, rfl⟩, ⟨_, rfl⟩, ⟨_, rfl⟩, ⟨_, rfl⟩, ⟨_, rfl⟩, ⟨_, rfl⟩, ⟨_, rfl⟩, ⟨_, rfl⟩, trivial⟩
      have hbb : (cblk == cblk) = true := by simp
      clear q1 q2 hr1 hr2 hc xa1 xe1 xl1 xa2 xe2 xl2
      go_wp2_with fail
      apply wp_region_eff [] (fun i => (#[[], [], [], [], [], [], [], [], [], [], [], [], [], [], [], [], [], [], [], [], [], [], [], [], [], [], [], [], [], [], [], [], [], [], [], [], [], [], [], [], [], [], [], [], [], [], [], [], [], [], [], [], [], [], [], [], [], [], [], [], [], [], [], [], [], [], [], [], []] : Array (List Nat)).getD i []) (fun val i => ((_ :: _ :: _ :: _ :: _ :: _ :: _ :: _ :: _ :: _ :: _ :: .bool false :: _ :: _ :: _ :: _ :: _ :: _ :: _ :: _ :: _ :: _ :: _ :: _ :: _ :: _ :: .bool false :: _ :: _ :: _ :: _ :: _ :: _ :: _ :: _ :: _ :: _ :: _ :: _ :: _ :: _ :: _ :: .bool false :: _ :: _ :: _ :: _ :: _ :: _ :: _ :: _ :: _ :: _ :: _ :: _ :: .bool false :: _ :: _ :: _ :: _ :: _ :: _ :: _ :: _ :: _ :: _ :: _ :: _ :: _ :: []) : List Value).toArray.getD i undef) (fun E val => At W (Arg W :: [])) (by kernel_rfl) (by kernel_rfl) (by kernel_rfl) (by kernel_rfl) (HF)
      case step =>
        iterate 69 (refine ⟨eff_pl rfl (fun _ => by rfl) fun E val hn T ds w K H hk ho hK => ?_, ?_⟩; rotate_left)
        exact trivial
        · have o0 := ho 0 (by kernel_rfl); clear ho; simp [know, dstAt, Region.binds] at hk o0; go_simp; exact hK _ H
        · have o5 := ho 5 (by kernel_rfl); clear ho; simp [know, dstAt, Region.binds] at hk o5; go_simp; exact hK _ H
        · clear ho; simp [know, dstAt, Region.binds] at hk; go_simp; exact hK _ H
        · clear ho; simp [know, dstAt, Region.binds] at hk; go_simp; exact hK _ H
        · clear ho; simp [know, dstAt, Region.binds] at hk
          first | (refine op_cellsT (vs := [.int .i64 ckk, .int .i64 cka, .int .i64 ckb, .int .i64 ckc]) rfl hk a25 s25 (fun j u hj => (H.ext 0 rfl).cell (K1.out j u hj)) ?_; exact hK _ H) | (refine op_cellsT (vs := [.int .i64 ckk, .int .i64 cka, .int .i64 ckb, .int .i64 ckc]) rfl hk a25 s25 (fun j u hj => (H.ext 0 rfl).cell (K2.out j u hj)) ?_; exact hK _ H)
        · have o1 := ho 1 (by kernel_rfl); clear ho; simp [know, dstAt, Region.binds] at hk o1; go_simp; exact hK _ H
        · have o5 := ho 5 (by kernel_rfl); clear ho; simp [know, dstAt, Region.binds] at hk o5; go_simp; exact hK _ H
        · clear ho; simp [know, dstAt, Region.binds] at hk; go_simp; exact hK _ H
        · clear ho; simp [know, dstAt, Region.binds] at hk; go_simp; exact hK _ H
        · clear ho; simp [know, dstAt, Region.binds] at hk
          first | (refine op_cellsT (vs := [.int .i64 ckk, .int .i64 cka, .int .i64 ckb, .int .i64 ckc]) rfl hk a25 s25 (fun j u hj => (H.ext 0 rfl).cell (K1.out j u hj)) ?_; exact hK _ H) | (refine op_cellsT (vs := [.int .i64 ckk, .int .i64 cka, .int .i64 ckb, .int .i64 ckc]) rfl hk a25 s25 (fun j u hj => (H.ext 0 rfl).cell (K2.out j u hj)) ?_; exact hK _ H)
        · clear ho; simp [know, dstAt, Region.binds] at hk; go_simp; exact hK _ H
        · clear ho; simp [know, dstAt, Region.binds] at hk; go_simp; exact hK _ H
        · have o0 := ho 0 (by kernel_rfl); clear ho; simp [know, dstAt, Region.binds] at hk o0; go_simp; exact hK _ H
        · have o5 := ho 5 (by kernel_rfl); clear ho; simp [know, dstAt, Region.binds] at hk o5; go_simp; exact hK _ H
        · clear ho; simp [know, dstAt, Region.binds] at hk; go_simp; exact hK _ H
        · clear ho; simp [know, dstAt, Region.binds] at hk; go_simp; exact hK _ H
        · clear ho; simp [know, dstAt, Region.binds] at hk; go_simp; exact hK _ H
        · clear ho; simp [know, dstAt, Region.binds] at hk
          first | (refine op_cellsT (vs := [.int .i64 csn, .int .i64 csc]) rfl hk.1 a27 s27 (fun j u hj => (H.ext 0 rfl).cell (S1.out j u hj)) ?_; exact hK _ H) | (refine op_cellsT (vs := [.int .i64 csn, .int .i64 csc]) rfl hk.1 a27 s27 (fun j u hj => (H.ext 0 rfl).cell (S2.out j u hj)) ?_; exact hK _ H)
        · have o1 := ho 1 (by kernel_rfl); clear ho; simp [know, dstAt, Region.binds] at hk o1; go_simp; exact hK _ H
        · have o5 := ho 5 (by kernel_rfl); clear ho; simp [know, dstAt, Region.binds] at hk o5; go_simp; exact hK _ H
        · clear ho; simp [know, dstAt, Region.binds] at hk; go_simp; exact hK _ H
        · clear ho; simp [know, dstAt, Region.binds] at hk; go_simp; exact hK _ H
        · clear ho; simp [know, dstAt, Region.binds] at hk; go_simp; exact hK _ H
        · clear ho; simp [know, dstAt, Region.binds] at hk
          first | (refine op_cellsT (vs := [.int .i64 csn, .int .i64 csc]) rfl hk.1 a27 s27 (fun j u hj => (H.ext 0 rfl).cell (S1.out j u hj)) ?_; exact hK _ H) | (refine op_cellsT (vs := [.int .i64 csn, .int .i64 csc]) rfl hk.1 a27 s27 (fun j u hj => (H.ext 0 rfl).cell (S2.out j u hj)) ?_; exact hK _ H)
        · clear ho; simp [know, dstAt, Region.binds] at hk; go_simp; exact hK _ H
        · clear ho; simp [know, dstAt, Region.binds] at hk; go_simp; exact hK _ H
        · clear ho; simp [know, dstAt, Region.binds] at hk; go_simp; exact hK _ H
        · have o0 := ho 0 (by kernel_rfl); clear ho; simp [know, dstAt, Region.binds] at hk o0; go_simp; exact hK _ H
        · have o5 := ho 5 (by kernel_rfl); clear ho; simp [know, dstAt, Region.binds] at hk o5; go_simp; exact hK _ H
        · clear ho; simp [know, dstAt, Region.binds] at hk; go_simp; exact hK _ H
        · clear ho; simp [know, dstAt, Region.binds] at hk; go_simp; exact hK _ H
        · clear ho; simp [know, dstAt, Region.binds] at hk; go_simp; exact hK _ H
        · clear ho; simp [know, dstAt, Region.binds] at hk
          first | (refine op_load1T (v := va1) rfl hk.1 (by kernel_rfl) ((H.ext 0 rfl).cell D1.out) ?_; exact hK _ H) | (refine op_load1T (v := va2) rfl hk.1 (by kernel_rfl) ((H.ext 0 rfl).cell D2.out) ?_; exact hK _ H)
        · have o1 := ho 1 (by kernel_rfl); clear ho; simp [know, dstAt, Region.binds] at hk o1; go_simp; exact hK _ H
        · have o5 := ho 5 (by kernel_rfl); clear ho; simp [know, dstAt, Region.binds] at hk o5; go_simp; exact hK _ H
        · clear ho; simp [know, dstAt, Region.binds] at hk; go_simp; exact hK _ H
        · clear ho; simp [know, dstAt, Region.binds] at hk; go_simp; exact hK _ H
        · clear ho; simp [know, dstAt, Region.binds] at hk; go_simp; exact hK _ H
        · clear ho; simp [know, dstAt, Region.binds] at hk
          first | (refine op_load1T (v := va1) rfl hk.1 (by kernel_rfl) ((H.ext 0 rfl).cell D1.out) ?_; exact hK _ H) | (refine op_load1T (v := va2) rfl hk.1 (by kernel_rfl) ((H.ext 0 rfl).cell D2.out) ?_; exact hK _ H)
        · clear ho; simp [know, dstAt, Region.binds] at hk
          first | (go_simp; refine (sameB (Xa1.out.ext (H.ext 0 rfl)) (Xa2.out.ext (H.ext 0 rfl)) H).mono ?_; rintro e w' ⟨rfl, H⟩; exact hK _ H) | (go_simp; refine (sameK (Xe1.out.ext (H.ext 0 rfl)) (Xl1.out.ext (H.ext 0 rfl)) (Xe2.out.ext (H.ext 0 rfl)) (Xl2.out.ext (H.ext 0 rfl)) hco.out.fe hco.out.fl hco.out.be hco.out.bl H).mono ?_; rintro e w' ⟨rfl, H⟩; exact hK _ H) | (go_simp; exact hK _ H)
        · clear ho; simp [know, dstAt, Region.binds] at hk; go_simp; exact hK _ H
        · clear ho; simp [know, dstAt, Region.binds] at hk; go_simp; exact hK _ H
        · clear ho; simp [know, dstAt, Region.binds] at hk; go_simp; exact hK _ H
        · have o0 := ho 0 (by kernel_rfl); clear ho; simp [know, dstAt, Region.binds] at hk o0; go_simp; exact hK _ H
        · have o5 := ho 5 (by kernel_rfl); clear ho; simp [know, dstAt, Region.binds] at hk o5; go_simp; exact hK _ H
        · clear ho; simp [know, dstAt, Region.binds] at hk; go_simp; exact hK _ H
        · clear ho; simp [know, dstAt, Region.binds] at hk; go_simp; exact hK _ H
        · clear ho; simp [know, dstAt, Region.binds] at hk
          first | (refine op_cellsT (vs := [.int .i64 0, .int .i64 0, .int .i64 0, .int .i64 0, .int .i64 xk, .int .i64 xcl, .int .i64 xop, .string xnm, .int .i64 xf1, .int .i64 xf2, .int .i64 xn1, .int .i64 xn2, .int .i64 xsz, .bool cdec]) rfl hk.1 a69 s69 (fun j u hj => (H.ext 0 rfl).cell (I1.out j u hj)) ?_; exact hK _ H) | (refine op_cellsT (vs := [.int .i64 0, .int .i64 0, .int .i64 0, .int .i64 0, .int .i64 xk, .int .i64 xcl, .int .i64 xop, .string xnm, .int .i64 xf1, .int .i64 xf2, .int .i64 xn1, .int .i64 xn2, .int .i64 xsz, .bool cdec]) rfl hk.1 a69 s69 (fun j u hj => (H.ext 0 rfl).cell (I2.out j u hj)) ?_; exact hK _ H)
        · have o1 := ho 1 (by kernel_rfl); clear ho; simp [know, dstAt, Region.binds] at hk o1; go_simp; exact hK _ H
        · have o5 := ho 5 (by kernel_rfl); clear ho; simp [know, dstAt, Region.binds] at hk o5; go_simp; exact hK _ H
        · clear ho; simp [know, dstAt, Region.binds] at hk; go_simp; exact hK _ H
        · clear ho; simp [know, dstAt, Region.binds] at hk; go_simp; exact hK _ H
        · clear ho; simp [know, dstAt, Region.binds] at hk
          first | (refine op_cellsT (vs := [.int .i64 0, .int .i64 0, .int .i64 0, .int .i64 0, .int .i64 xk, .int .i64 xcl, .int .i64 xop, .string xnm, .int .i64 xf1, .int .i64 xf2, .int .i64 xn1, .int .i64 xn2, .int .i64 xsz, .bool cdec]) rfl hk.1 a69 s69 (fun j u hj => (H.ext 0 rfl).cell (I1.out j u hj)) ?_; exact hK _ H) | (refine op_cellsT (vs := [.int .i64 0, .int .i64 0, .int .i64 0, .int .i64 0, .int .i64 xk, .int .i64 xcl, .int .i64 xop, .string xnm, .int .i64 xf1, .int .i64 xf2, .int .i64 xn1, .int .i64 xn2, .int .i64 xsz, .bool cdec]) rfl hk.1 a69 s69 (fun j u hj => (H.ext 0 rfl).cell (I2.out j u hj)) ?_; exact hK _ H)
        · clear ho; simp [know, dstAt, Region.binds] at hk; go_simp; exact hK _ H
        · clear ho; simp [know, dstAt, Region.binds] at hk; go_simp; exact hK _ H
        · clear ho; simp [know, dstAt, Region.binds] at hk; go_simp; exact hK _ H
        · have o0 := ho 0 (by kernel_rfl); clear ho; simp [know, dstAt, Region.binds] at hk o0; go_simp; exact hK _ H
        · have o5 := ho 5 (by kernel_rfl); clear ho; simp [know, dstAt, Region.binds] at hk o5; go_simp; exact hK _ H
        · clear ho; simp [know, dstAt, Region.binds] at hk; go_simp; exact hK _ H
        · clear ho; simp [know, dstAt, Region.binds] at hk; go_simp; exact hK _ H
        · clear ho; simp [know, dstAt, Region.binds] at hk
          first | (refine op_cellsT (vs := [.int .i64 cupto, ve1, vl1]) rfl hk.1 a36 s36 (fun j u hj => (H.ext 0 rfl).cell (B1.out j u hj)) ?_; exact hK _ H) | (refine op_cellsT (vs := [.int .i64 cupto, ve2, vl2]) rfl hk.1 a36 s36 (fun j u hj => (H.ext 0 rfl).cell (B2.out j u hj)) ?_; exact hK _ H)
        · have o1 := ho 1 (by kernel_rfl); clear ho; simp [know, dstAt, Region.binds] at hk o1; go_simp; exact hK _ H
        · have o5 := ho 5 (by kernel_rfl); clear ho; simp [know, dstAt, Region.binds] at hk o5; go_simp; exact hK _ H
        · clear ho; simp [know, dstAt, Region.binds] at hk; go_simp; exact hK _ H
        · clear ho; simp [know, dstAt, Region.binds] at hk; go_simp; exact hK _ H
        · clear ho; simp [know, dstAt, Region.binds] at hk
          first | (refine op_cellsT (vs := [.int .i64 cupto, ve1, vl1]) rfl hk.1 a36 s36 (fun j u hj => (H.ext 0 rfl).cell (B1.out j u hj)) ?_; exact hK _ H) | (refine op_cellsT (vs := [.int .i64 cupto, ve2, vl2]) rfl hk.1 a36 s36 (fun j u hj => (H.ext 0 rfl).cell (B2.out j u hj)) ?_; exact hK _ H)
        · clear ho; simp [know, dstAt, Region.binds] at hk
          first | (go_simp; refine (sameB (Xa1.out.ext (H.ext 0 rfl)) (Xa2.out.ext (H.ext 0 rfl)) H).mono ?_; rintro e w' ⟨rfl, H⟩; exact hK _ H) | (go_simp; refine (sameK (Xe1.out.ext (H.ext 0 rfl)) (Xl1.out.ext (H.ext 0 rfl)) (Xe2.out.ext (H.ext 0 rfl)) (Xl2.out.ext (H.ext 0 rfl)) hco.out.fe hco.out.fl hco.out.be hco.out.bl H).mono ?_; rintro e w' ⟨rfl, H⟩; exact hK _ H) | (go_simp; exact hK _ H)
        · clear ho; simp [know, dstAt, Region.binds] at hk; go_simp; exact hK _ H
        · clear ho; simp [know, dstAt, Region.binds] at hk; go_simp; exact hK _ H
      case ins =>
        iterate 69 (refine ⟨ins_pl rfl (fun _ _ _ => rfl), ?_⟩)
        exact trivial
      case jns =>
        iterate 69 (refine ⟨j_pl (fun _ _ _ => rfl), ?_⟩)
        exact trivial
      case fin =>
        intro E val w5 hE H
        clear HF hE
        have HF := H
        clear H
        simp [putAll, Act.put]
        go_wp2_with fail
        go_roundw
        case rel => exact ⟨k + 1, by omega, rfl, HF⟩
        case measure => simp [intOf]; omega
    · have g1x : ¬ (k : Int) < l.length := by omega
      go_wp2_with fail
      go_ret
      exact ⟨rfl, HF.lift0 H0.out⟩
end
end Md
end Go.Proofs.Ytjobojgmadjmfaa
