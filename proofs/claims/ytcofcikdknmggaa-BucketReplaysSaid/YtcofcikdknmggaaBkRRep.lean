/-
  The document's Replay.
-/
import Derived.Test.YtcofcikdknmggaaBkRepP
import Derived.Test.YtcofcikdknmggaaBkRApply
namespace Go.Proofs.Ytcofcikdknmggaa
open Go.Hp Go.RowKit
set_option linter.unusedVariables false
set_option linter.unusedSimpArgs false
set_option maxRecDepth 100000
set_option maxHeartbeats 2000000
namespace Bk

/-- The cells of a struct's value. -/
def agO (v : Value) : Array Value := match v with | .agg cs => cs | _ => #[]
def tupAt (v : Value) (i : Nat) : Value := match v with | .tuple cs => cs.getD i undef | _ => undef

/-- What the document's Apply hands back. -/
def RpH (W : World) (R : (Int × An) × Bu) (v : Value) : HProp := fun hp => ∃ (a1 : Option Addr) (n1 c1 : Nat) (a2 : Option Addr) (n2 c2 : Nat) (a3 : Option Addr) (n3 c3 : Nat), v = .tuple #[.agg #[.int .i64 R.2.u, .slice a1 n1 c1, .slice a2 n2 c2], anV R.1.2.err R.1.2.e (.slice a3 n3 c3), .int .i64 R.1.1] ∧ Stars [RE W (.slice a1 n1 c1) R.2.es, RL W (.slice a2 n2 c2) R.2.ls, OE (.slice a3 n3 c3) R.1.2.l] hp
section
variable {w0 w W : World} {L : List HProp}
theorem rl_form {v : Value} {es : List La} (H : At w0 (RL W v es :: L) w) : ∃ ad n cap, v = .slice ad n cap := by
  obtain ⟨ad, cap, hv, _⟩ := rl_value H
  exact ⟨ad, _, cap, hv⟩
theorem rph_mk {R : (Int × An) × Bu} {v1 v2 v3 : Value} (H : At w0 (RE W v1 R.2.es :: RL W v2 R.2.ls :: OE v3 R.1.2.l :: L) w) : At w0 (RpH W R (.tuple #[.agg #[.int .i64 R.2.u, v1, v2], anV R.1.2.err R.1.2.e v3, .int .i64 R.1.1]) :: L) w := by
  obtain ⟨a1, n1, c1, rfl⟩ := re_form H
  obtain ⟨a2, n2, c2, rfl⟩ := rl_form (H.pick 1 rfl)
  obtain ⟨a3, n3, c3, rfl⟩ := own_form (H.pick 2 rfl)
  exact At.imp (At.fold (M := [_, _, _]) H) fun _ hh => ⟨a1, n1, c1, a2, n2, c2, a3, n3, c3, rfl, hh⟩
theorem rph_open {R : (Int × An) × Bu} {v : Value} (H : At w0 (RpH W R v :: L) w) : ∃ (a1 : Option Addr) (n1 c1 : Nat) (a2 : Option Addr) (n2 c2 : Nat) (a3 : Option Addr) (n3 c3 : Nat), v = .tuple #[.agg #[.int .i64 R.2.u, .slice a1 n1 c1, .slice a2 n2 c2], anV R.1.2.err R.1.2.e (.slice a3 n3 c3), .int .i64 R.1.1] ∧ At w0 (RE W (.slice a1 n1 c1) R.2.es :: RL W (.slice a2 n2 c2) R.2.ls :: OE (.slice a3 n3 c3) R.1.2.l :: L) w := by
  obtain ⟨a1, H⟩ := At.ex H
  obtain ⟨n1, H⟩ := At.ex H
  obtain ⟨c1, H⟩ := At.ex H
  obtain ⟨a2, H⟩ := At.ex H
  obtain ⟨n2, H⟩ := At.ex H
  obtain ⟨c2, H⟩ := At.ex H
  obtain ⟨a3, H⟩ := At.ex H
  obtain ⟨n3, H⟩ := At.ex H
  obtain ⟨c3, H⟩ := At.ex H
  obtain ⟨hv, H⟩ := At.and H
  exact ⟨a1, n1, c1, a2, n2, c2, a3, n3, c3, hv, At.flat H⟩

/-- What the document's Replay hands back. -/
def RlPost (w0 W : World) (L : List HProp) (r : (Int × List An) × Bu) (e : Ending) (w' : World) : Prop :=
  ∃ ve vl va, e = .returned (.tuple #[.agg #[.int .i64 r.2.u, ve, vl], va, .int .i64 r.1.1]) ∧ At w0 (RE W ve r.2.es :: RL W vl r.2.ls :: AnsRow va r.1.2 :: L) w'
theorem rl_nils (H : At w0 L w) : At w0 (RE W (.slice none 0 0) [] :: RL W (.slice none 0 0) [] :: AnsRow (.slice none 0 0) [] :: L) w := re_own (oe_nil (rl_own (ol_nil (ansrow_nil H))))

theorem rApply_any {room : Int} {ve vl : Value} {b : Bu} {c : Cm} {i : Nat} (hL : L[i]? = some (Arg W)) (hc : RCase b c room) (hu0 : -9223372036854775808 ≤ b.u) (be : (b.es.length + 1) * 40 ≤ 140737488355328) (bl : (b.ls.length + 1) * 56 ≤ 140737488355328)
    (H : At w0 (RE W ve b.es :: RL W vl b.ls :: L) w) :
    Calls Try.prog 24 #[.agg #[.int .i64 b.u, ve, vl], .agg c.cells.toArray, .int .i64 room] w (RrPost w0 W L (rApplyS b c room)) := by
  cases hc with
  | bad r h0 h1 h2 h3 => exact rApply_no h2 h1 H
  | good h1 h2 h3 h4 h5 => exact rApply_do hL h1 h2 hu0 be bl H

theorem rReplay {room : Int} {ve vl vc : Value} {b : Bu} {l : List Cm} {q : Nat} (hL : L[q]? = some (Arg W)) (hc : RecsAt W vc 9 (l.map Cm.cells)) (hri : RI b) (hok : ∀ c ∈ l, wrongS c = true ∨ COk c)
    (be : b.es.length ≤ 100000000000) (bl : b.ls.length ≤ 100000000000) (bc : l.length ≤ 1000) (H : At w0 (RE W ve b.es :: RL W vl b.ls :: L) w) :
    Calls Try.prog 21 #[.agg #[.int .i64 b.u, ve, vl], .int .i64 room, vc] w (RlPost w0 W L (replS room l b)) := by
  obtain ⟨adc, capc, rfl, c1, c2, c3⟩ := hc.value
  rw [List.length_map] at c1 c3 hc ⊢
  have HC := Lib.hid hc
  have C3 := Lib.hid c3
  have HL := Lib.hid hL
  have HOK := Lib.hid hok
  obtain ⟨RS, hRS⟩ : ∃ RS, replS room l b = RS := ⟨_, rfl⟩
  rw [hRS]
  have HRS := Lib.hid hRS
  have HRI := Lib.hid hri
  obtain ⟨ae, ne, ce, rfl⟩ := re_form H
  obtain ⟨al, nl, cl, rfl⟩ := rl_form (H.pick 1 rfl)
  have HF := H
  clear H hc hL c1 c2 c3 hRS hri hok
  go_enter Try.func21, Try.ntmps21
  go_wp2_with (first | ((with_reducible refine k_box (T := 25) ?_); refine st_box rfl _ _ rfl _ rfl HF ?_; (clear HF; intro g3 w HF K hK; simp only [Value.cells, Act.eval, Value.cells, Array.getD_eq_getD_getElem?, List.getElem?_toArray, List.getElem?_cons_succ, List.getElem?_cons_zero, Option.getD_some] at HF; go_simp)) | ((with_reducible refine k_alloc (T := 25) ?_); refine st_alloc rfl _ rfl _ z25 _ rfl HF ?_; (clear HF; intro g6 w HF K hK; simp only [Value.cells] at HF; go_simp)))
  replace HF := ansrow_nil (HF.sel 4 [1, 2, 3, 0])
  go_loopw [9, 10] (fun a i wr => ∃ (k : Nat) (bb : Bu) (aa : List An) (b1 : Option Addr) (m1 p1 : Nat) (b2 : Option Addr) (m2 p2 : Nat) (b3 : Option Addr) (m3 p3 : Nat), k ≤ l.length ∧ a = .slice b3 m3 p3 ∧ i = .int .i64 k ∧ Hid (replS room l b = addA aa (replS room (l.drop k) bb) ∧ bb.es.length ≤ b.es.length + k ∧ bb.ls.length ≤ b.ls.length + k ∧ RI bb ∧ aa.length = k) ∧
    At w0 (AnsRow (.slice b3 m3 p3) aa :: Blk g3 (.cells #[.int .i64 bb.u, .slice b1 m1 p1, .slice b2 m2 p2] 25 (0, 0)) :: RE W (.slice b1 m1 p1) bb.es :: RL W (.slice b2 m2 p2) bb.ls :: Blk g6 (.cells #[.int .i64 0, .slice none 0 0, .slice none 0 0] 25 (0, 0)) :: L) wr) (fun _ i _ => l.length - (intOf i).toNat)
  case atStart => exact ⟨0, b, [], _, _, _, _, _, _, _, _, _, Nat.zero_le _, rfl, rfl, Lib.hid ⟨(addA_nil _).symm, by omega, by omega, HRI.out, rfl⟩, HF⟩
  case round =>
    clear HF
    obtain ⟨k, bb, aa, b1, m1, p1, b2, m2, p2, b3, m3, p3, hk, rfl, rfl, HI, HF⟩ := hrel
    by_cases hlt : k < l.length
    · have g1 : (k : Int) < l.length := by omega
      obtain ⟨c, hcc⟩ : ∃ c, l[k]? = some c := ⟨_, List.getElem?_eq_getElem hlt⟩
      obtain ⟨bc2, rfl⟩ := C3.out (by omega)
      have Hc0 := Lib.hid (recs_get HC.out hcc)
      have Hs := Lib.hid (show sizeT Try.prog 29 = some c.cells.length from s29)
      obtain ⟨i1, i2, i3, i4, i5⟩ := HI.out
      have hrc : RCase bb c room := r_case i4 (HOK.out c (List.mem_of_getElem? hcc))
      have HRC := Lib.hid hrc
      have HU := Lib.hid (show -9223372036854775808 ≤ bb.u by have := i4.u0; omega)
      have HA := Lib.hid (fun (w2 : World) (M : List HProp) (j : Nat) (hM : M[j]? = some (Arg W)) (v1 v2 : Value) (HM : At w0 (RE W v1 bb.es :: RL W v2 bb.ls :: M) w2) => rApply_any (room := room) (b := bb) (c := c) hM HRC.out HU.out (by omega) (by omega) HM)
      have HS := Lib.hid (fun h0 => repl_step (c := c) hcc i1 h0)
      have HE := Lib.hid (fun h0 => repl_err (c := c) hcc i1 h0)
      have HLn := Lib.hid (applyS_len bb c room)
      have HI2 := Lib.hid (show bb.es.length ≤ b.es.length + k ∧ bb.ls.length ≤ b.ls.length + k from ⟨i2, i3⟩)
      obtain ⟨R, hR⟩ : ∃ R, rApplyS bb c room = R := ⟨_, rfl⟩
      rw [hR] at HA
      have HR := Lib.hid hR
      obtain ⟨⟨er0, ⟨aerr, ⟨an, af, ao, az⟩, aL⟩⟩, ⟨nu, nes, nls⟩⟩ := R
      clear hcc hR i1 i2 i3 i4 HI hrc
      go_wp2_with fail
      apply wp_region_eff [6, 11, 12, 13, 14] (fun i => (#[[], [], [], [], [], [], [], [6], [6], [6], [6], [], [], [6, 11], [6, 12], [6]] : Array (List Nat)).getD i []) (fun val i => ((_ :: _ :: _ :: _ :: _ :: _ :: val 6 :: val 6 :: tupAt (val 6) 0 :: tupAt (val 6) 1 :: tupAt (val 6) 2 :: val 11 :: val 12 :: val 13 :: val 14 :: tupAt (val 6) 2 :: []) : List Value).toArray.getD i undef) (fun E val => At w0 (Blk g3 (.cells #[.int .i64 bb.u, .slice b1 m1 p1, .slice b2 m2 p2] 25 (0, 0)) :: (if E 6 = true then RpH W ((er0, (⟨aerr, ⟨an, af, ao, az⟩, aL⟩ : An)), (⟨nu, nes, nls⟩ : Bu)) (val 6) else RE W (.slice b1 m1 p1) bb.es) :: (if E 6 = true then emp else RL W (.slice b2 m2 p2) bb.ls) :: (if E 11 = true then PtrBlk (val 11) (.cells (if E 13 = true then agO (tupAt (val 6) 0) else #[.int .i64 0, .slice none 0 0, .slice none 0 0]) 25 (0, 0)) else emp) :: (if E 12 = true then PtrBlk (val 12) (.cells (if E 14 = true then agO (tupAt (val 6) 1) else #[.int .i64 0, .string ⟨#[]⟩, .int .i64 0, .int .i64 0, .int .i64 0, .slice none 0 0]) 41 (0, 0)) else emp) :: AnsRow (.slice b3 m3 p3) aa :: Blk g6 (.cells #[.int .i64 0, .slice none 0 0, .slice none 0 0] 25 (0, 0)) :: L)) (by kernel_rfl) (by kernel_rfl) (by kernel_rfl) (by kernel_rfl) ((HF.addEmp.addEmp).sel 7 [3, 4, 5, 0, 1, 2, 6])
      case step =>
        iterate 6 (refine ⟨eff_pl rfl (fun _ => by rfl) fun E val hn T ds w K H hk ho hK => ?_, ?_⟩; rotate_left)
        refine ⟨eff_mk rfl (fun _ => by rfl) fun E val hE0 hcl hn T ds w K H hk ho hK => ?_, ?_⟩; rotate_left
        iterate 4 (refine ⟨eff_pl rfl (fun _ => by rfl) fun E val hn T ds w K H hk ho hK => ?_, ?_⟩; rotate_left)
        iterate 4 (refine ⟨eff_mk rfl (fun _ => by rfl) fun E val hE0 hcl hn T ds w K H hk ho hK => ?_, ?_⟩; rotate_left)
        refine ⟨eff_pl rfl (fun _ => by rfl) fun E val hn T ds w K H hk ho hK => ?_, ?_⟩; rotate_left
        exact trivial
        · have o3 := ho 3 (by kernel_rfl); clear ho; simp [know, dstAt, Region.binds] at hk o3
          (refine op_rowT (T := 25) rfl o3 a25 s25 H 0 rfl rfl ?_; exact hK _ H)
        · have o2 := ho 2 (by kernel_rfl); clear ho; simp [know, dstAt, Region.binds] at hk o2; go_simp; exact hK _ H
        · have o10 := ho 10 (by kernel_rfl); clear ho; simp [know, dstAt, Region.binds] at hk o10; go_simp; exact hK _ H
        · clear ho; simp [know, dstAt, Region.binds] at hk; go_simp; exact hK _ H
        · clear ho; simp [know, dstAt, Region.binds] at hk
          (refine op_cellsT (vs := c.cells) rfl hk a29 Hs.out (fun j u hj => (H.ext (q + 7) HL.out).cell (Hc0.out j u hj)) ?_; exact hK _ H)
        · have o1 := ho 1 (by kernel_rfl); clear ho; simp [know, dstAt, Region.binds] at hk o1; go_simp; exact hK _ H
        · clear ho; simp [know, dstAt, Region.binds] at hk
          (have q13 : E 13 = false := (by cases h : E 13 with | false => rfl | true => (have h2 := hcl 13 (by decide) h 6 (by decide); rw [hE0] at h2; cases h2))); (have q14 : E 14 = false := (by cases h : E 14 with | false => rfl | true => (have h2 := hcl 14 (by decide) h 6 (by decide); rw [hE0] at h2; cases h2))); (simp only [hE0, q13, q14, Bool.false_eq_true, if_false] at H); go_simp; refine (HA.out _ _ (q + 5) HL.out _ _ (H.sel 7 [1, 2, 0, 3, 4, 5, 6])).mono ?_; rintro e w' ⟨y1, y2, y3, rfl, H⟩; refine hK _ _ ?_; have t6 : updE E 6 6 = true := rfl; have t11 : updE E 6 11 = E 11 := rfl; have t12 : updE E 6 12 = E 12 := rfl; have t13 : updE E 6 13 = false := q13; have t14 : updE E 6 14 = false := q14; simp only [t6, t11, t12, t13, t14, Bool.false_eq_true, if_true, if_false]; exact ((rph_mk (R := ((er0, (⟨aerr, ⟨an, af, ao, az⟩, aL⟩ : An)), (⟨nu, nes, nls⟩ : Bu))) H).addEmp).sel 7 [2, 1, 0, 3, 4, 5, 6]
        · clear ho; simp [know, dstAt, Region.binds] at hk; go_simp; exact hK _ H
        · clear ho; simp [know, dstAt, Region.binds] at hk
          first | (have e6 := hn 6 (by decide); simp only [e6, if_true] at H; obtain ⟨_, _, _, _, _, _, _, _, _, hv, _⟩ := rph_open (H.pick 1 rfl); rw [hv] at hk; go_simp; rw [hv] at hK; exact hK _ (by simp only [e6, if_true, ← hv]; exact H)) | (go_simp; exact hK _ H)
        · clear ho; simp [know, dstAt, Region.binds] at hk
          first | (have e6 := hn 6 (by decide); simp only [e6, if_true] at H; obtain ⟨_, _, _, _, _, _, _, _, _, hv, _⟩ := rph_open (H.pick 1 rfl); rw [hv] at hk; go_simp; rw [hv] at hK; exact hK _ (by simp only [e6, if_true, ← hv]; exact H)) | (go_simp; exact hK _ H)
        · clear ho; simp [know, dstAt, Region.binds] at hk
          first | (have e6 := hn 6 (by decide); simp only [e6, if_true] at H; obtain ⟨_, _, _, _, _, _, _, _, _, hv, _⟩ := rph_open (H.pick 1 rfl); rw [hv] at hk; go_simp; rw [hv] at hK; exact hK _ (by simp only [e6, if_true, ← hv]; exact H)) | (go_simp; exact hK _ H)
        · clear ho; simp [know, dstAt, Region.binds] at hk
          (have q13 : E 13 = false := (by cases h : E 13 with | false => rfl | true => (have h2 := hcl 13 (by decide) h 11 (by decide); rw [hE0] at h2; cases h2))); (simp only [hE0, Bool.false_eq_true, if_false] at H); refine op_allocT rfl z25 rfl (H.sel 7 [0, 1, 2, 4, 5, 6]) ?_; (intro x w' H; refine hK _ _ ?_; have t6 : updE E 11 6 = E 6 := rfl; have t11 : updE E 11 11 = true := rfl; have t12 : updE E 11 12 = E 12 := rfl; have t13 : updE E 11 13 = false := q13; have t14 : updE E 11 14 = E 14 := rfl; simp only [t6, t11, t12, t13, t14, Bool.false_eq_true, if_true, if_false]; exact H.sel 7 [1, 2, 3, 0, 4, 5, 6])
        · clear ho; simp [know, dstAt, Region.binds] at hk
          (have q14 : E 14 = false := (by cases h : E 14 with | false => rfl | true => (have h2 := hcl 14 (by decide) h 12 (by decide); rw [hE0] at h2; cases h2))); (simp only [hE0, Bool.false_eq_true, if_false] at H); refine op_allocT rfl z41 rfl (H.sel 7 [0, 1, 2, 3, 5, 6]) ?_; (intro x w' H; refine hK _ _ ?_; have t6 : updE E 12 6 = E 6 := rfl; have t12 : updE E 12 12 = true := rfl; have t11 : updE E 12 11 = E 11 := rfl; have t14 : updE E 12 14 = false := q14; have t13 : updE E 12 13 = E 13 := rfl; simp only [t6, t11, t12, t13, t14, Bool.false_eq_true, if_true, if_false]; exact H.sel 7 [1, 2, 3, 4, 0, 5, 6])
        · clear ho; simp [know, dstAt, Region.binds] at hk
          (have e6 := hn 6 (by decide)); (have e11 := hn 11 (by decide)); (simp only [hE0, e6, e11, Bool.false_eq_true, if_true, if_false] at H); (obtain ⟨_, _, _, _, _, _, _, _, _, hv, _⟩ := rph_open (H.pick 1 rfl)); (obtain ⟨g, hv11, HS⟩ := ptr_ex (H.pick 3 rfl)); (have hk2 := hk.2.1); (rw [hv] at hk2); refine op_putT rfl (hk.1.trans hv11) hk2 ?_ s25 HS 0 rfl rfl rfl ?_; (simp [Value.oneCell']); (intro w' H; refine hK _ _ ?_; have t6 : updE E 13 6 = true := e6; have t11 : updE E 13 11 = true := e11; have t13 : updE E 13 13 = true := rfl; have t12 : updE E 13 12 = E 12 := rfl; have t14 : updE E 13 14 = E 14 := rfl; simp only [t6, t11, t12, t13, t14, if_true]; exact ((At.imp H fun _ hh => (⟨g, hv11, (by rw [hv]; exact hh)⟩ : PtrBlk (val 11) (.cells (agO (tupAt (val 6) 0)) 25 (0, 0)) _)).sel 7 [1, 2, 3, 0, 4, 5, 6]))
        · clear ho; simp [know, dstAt, Region.binds] at hk
          (have e6 := hn 6 (by decide)); (have e12 := hn 12 (by decide)); (simp only [hE0, e6, e12, Bool.false_eq_true, if_true, if_false] at H); (obtain ⟨_, _, _, _, _, _, _, _, _, hv, _⟩ := rph_open (H.pick 1 rfl)); (obtain ⟨g, hv12, HS⟩ := ptr_ex (H.pick 4 rfl)); (have hk2 := hk.2.1); (rw [hv] at hk2); refine op_putT rfl (hk.1.trans hv12) hk2 ?_ s41 HS 0 rfl rfl rfl ?_; (simp [Value.oneCell']); (intro w' H; refine hK _ _ ?_; have t6 : updE E 14 6 = true := e6; have t12 : updE E 14 12 = true := e12; have t14 : updE E 14 14 = true := rfl; have t11 : updE E 14 11 = E 11 := rfl; have t13 : updE E 14 13 = E 13 := rfl; simp only [t6, t11, t12, t13, t14, if_true]; exact ((At.imp H fun _ hh => (⟨g, hv12, (by rw [hv]; exact hh)⟩ : PtrBlk (val 12) (.cells (agO (tupAt (val 6) 1)) 41 (0, 0)) _)).sel 7 [1, 2, 3, 4, 0, 5, 6]))
        · clear ho; simp [know, dstAt, Region.binds] at hk; go_simp; exact hK _ H
      case ins =>
        iterate 6 (refine ⟨ins_pl rfl (fun _ _ _ => rfl), ?_⟩)
        refine ⟨ins_mk rfl (fun _ => rfl), ?_⟩
        iterate 4 (refine ⟨ins_pl rfl (fun val val' h => by first | rfl | ((have h6 := h 6 (by decide)); first | (simp only [h6]; done) | (simp only [h6]; rfl))), ?_⟩)
        iterate 4 (refine ⟨ins_mk rfl (fun _ => rfl), ?_⟩)
        refine ⟨ins_pl rfl (fun val val' h => by first | rfl | ((have h6 := h 6 (by decide)); first | (simp only [h6]; done) | (simp only [h6]; rfl))), ?_⟩
        exact trivial
      case jns =>
        iterate 6 (refine ⟨j_pl (fun _ _ _ => rfl), ?_⟩)
        refine ⟨j_mk rfl, ?_⟩
        iterate 4 (refine ⟨j_pl (fun _ _ _ => rfl), ?_⟩)
        iterate 4 (refine ⟨j_mk rfl, ?_⟩)
        refine ⟨j_pl (fun _ _ _ => rfl), ?_⟩
        exact trivial
      case fin =>
        intro E val w5 hE H
        have e6 := hE 6 (by decide)
        have e11 := hE 11 (by decide)
        have e12 := hE 12 (by decide)
        have e13 := hE 13 (by decide)
        have e14 := hE 14 (by decide)
        simp only [e6, e11, e12, e13, e14, if_true] at H
        clear hE e6 e11 e12 e13 e14 HF HA
        obtain ⟨s1, t1, u1, s2, t2, u2, s3, t3, u3, hv, HX⟩ := rph_open (H.pick 1 rfl)
        obtain ⟨g8, hv11, HY⟩ := ptr_ex (HX.pick 5 rfl)
        obtain ⟨g9, hv12, HZ⟩ := ptr_ex (HY.pick 6 rfl)
        clear H HX HY
        have HW : At w0 (Blk g9 (.cells #[.int .i64 aerr, .string an, .int .i64 af, .int .i64 ao, .int .i64 az, .slice s3 t3 u3] 41 (0, 0)) :: Blk g8 (.cells #[.int .i64 nu, .slice s1 t1 u1, .slice s2 t2 u2] 25 (0, 0)) :: RE W (.slice s1 t1 u1) nes :: RL W (.slice s2 t2 u2) nls :: OE (.slice s3 t3 u3) aL :: Blk g3 (.cells #[.int .i64 bb.u, .slice b1 m1 p1, .slice b2 m2 p2] 25 (0, 0)) :: emp :: AnsRow (.slice b3 m3 p3) aa :: Blk g6 (.cells #[.int .i64 0, .slice none 0 0, .slice none 0 0] 25 (0, 0)) :: L) w5 := by rw [hv] at HZ; exact HZ
        clear HZ
        obtain ⟨xs, hxs, HV⟩ := ansrow_open (HW.sel 9 [7, 0, 1, 2, 3, 4, 5, 8])
        clear HW
        have HF : At w0 (OwnRow 41 6 (.slice b3 m3 p3) xs.length (ansC xs) :: Pool xs :: Blk g9 (.cells #[.int .i64 aerr, .string an, .int .i64 af, .int .i64 ao, .int .i64 az, .slice s3 t3 u3] 41 (0, 0)) :: Blk g8 (.cells #[.int .i64 nu, .slice s1 t1 u1, .slice s2 t2 u2] 25 (0, 0)) :: RE W (.slice s1 t1 u1) nes :: RL W (.slice s2 t2 u2) nls :: OE (.slice s3 t3 u3) aL :: Blk g3 (.cells #[.int .i64 bb.u, .slice b1 m1 p1, .slice b2 m2 p2] 25 (0, 0)) :: Blk g6 (.cells #[.int .i64 0, .slice none 0 0, .slice none 0 0] 25 (0, 0)) :: L) w5 := HV
        clear HV
        have hxl : xs.length = k := by rw [← i5, ← hxs, List.length_map]
        simp [putAll, Act.put]
        simp only [hv11, hv12, hv, tupAt]
        clear hv11 hv12 hv
        have HXS := Lib.hid hxs
        have HXL := Lib.hid hxl
        have hxk : xs.length + 1 ≤ 1000 := by omega
        clear hxs hxl i5
        rcases HRC.out with ⟨r, q0, q1, q2, q3⟩ | ⟨q1, q2, q3, q4, q5⟩
        · have e1 : er0 = r := by
            have := HR.out.symm.trans q2
            cases this
            rfl
          subst e1
          have q0b : (er0 == 0) = false := by simpa using q0
          have HE2 := Lib.hid (HE.out (by rw [q3]; exact q0))
          have Q3 := Lib.hid q3
          clear HS HE q1 q2 q3 q0
          go_wp2_with ((with_reducible refine k_store (T := 25) ?_); refine st_put rfl _ _ _ rfl _ rfl _ rfl ?_ s25 HF 8 rfl rfl ?_; (simp [Value.oneCell']); (clear HF; intro w HF K hK; simp only [List.set_cons_zero, List.set_cons_succ, Act.eval, Value.cells, Array.getD_eq_getD_getElem?, List.getElem?_toArray, List.getElem?_cons_succ, List.getElem?_cons_zero, Option.getD_some] at HF; go_simp))
          refine bodyPost_ret (results_ctt rfl rfl a25 s25 (HF.get 8 rfl) rfl) rfl ?_
          rw [← HRS.out, HE2.out, Q3.out]
          exact ⟨_, _, _, rfl, rl_nils (HF.sel 9 [])⟩
        · have HRR := HR.out.symm.trans q4
          have e1 : er0 = 0 := by
            have := congrArg (fun r => r.1.1) HRR
            rw [q3] at this
            exact this
          subst e1
          have HS2 := HS.out q3
          have HL2 := HLn.out
          rw [← HRR] at HS2 HL2 q5
          have HS3 := Lib.hid HS2
          have HL3 := Lib.hid HL2
          have Q5 := Lib.hid q5
          clear HS HE HS2 HL2 q1 q2 q3 q4 q5 HRR HLn HR HRC
          go_wp2_with (first | ((with_reducible refine k_load (T := 25) ?_); (first | refine st_row rfl _ _ rfl _ rfl a25 3 s25 HF 3 rfl rfl ?_ | refine st_row rfl _ _ rfl _ rfl a25 3 s25 HF 2 rfl rfl ?_); (intro K hK; go_simp)) | ((with_reducible refine k_load (T := 25) ?_); (first | refine st_loads rfl _ _ rfl _ _ rfl a25 3 s25 HF 3 rfl ?_ ?_ | refine st_loads rfl _ _ rfl _ _ rfl a25 3 s25 HF 2 rfl ?_ ?_); (simp); (intro K hK; go_simp)) | ((with_reducible refine k_load (T := 41) ?_); (first | refine st_row rfl _ _ rfl _ rfl a41 6 s41 HF 3 rfl rfl ?_ | refine st_row rfl _ _ rfl _ rfl a41 6 s41 HF 2 rfl rfl ?_); (intro K hK; go_simp)) | ((with_reducible refine k_load (T := 41) ?_); (first | refine st_loads rfl _ _ rfl _ _ rfl a41 6 s41 HF 3 rfl ?_ ?_ | refine st_loads rfl _ _ rfl _ _ rfl a41 6 s41 HF 2 rfl ?_ ?_); (simp); (intro K hK; go_simp)) | ((with_reducible refine k_store (T := 25) ?_); refine st_put rfl _ _ _ rfl _ rfl _ rfl ?_ s25 HF 7 rfl rfl ?_; (simp [Value.oneCell']); (clear HF; intro w HF K hK; simp only [List.set_cons_zero, List.set_cons_succ, Act.eval, Value.cells, Array.getD_eq_getD_getElem?, List.getElem?_toArray, List.getElem?_cons_succ, List.getElem?_cons_zero, Option.getD_some] at HF; go_simp))              | ((with_reducible refine k_lit ?_); refine st_lit1 rfl _ _ rfl #[.int .i64 aerr, .string an, .int .i64 af, .int .i64 ao, .int .i64 az, .slice s3 t3 u3] rfl 41 Try.underlying58 6 s41 _ z41 rfl rfl (by decide) (by decide) HF ?_; (clear HF; intro gl w HF K hK; go_simp))              | ((with_reducible refine k_builtin ?_); refine st_append rfl _ _ _ rfl 41 Try.underlying58 6 s41 72 bytes41 _ z41 rfl (.slice b3 m3 p3) xs.length (ansC xs) rfl (HF.sel 10 [1, 0, 2, 3, 4, 5, 6, 7, 8, 9]) (some ⟨gl, 0, none⟩) 1 1 [.int .i64 aerr, .string an, .int .i64 af, .int .i64 ao, .int .i64 az, .slice s3 t3 u3] rfl rfl (fun _ => ⟨_, rfl, cells_of (HF.get 0 rfl)⟩) (an_one ⟨aerr, ⟨an, af, ao, az⟩, aL⟩ s3 t3 u3) ?_ ?_ ?_; ((try simp only [maxLen]); omega); (omega); (clear HF; intro v7 w HF K hK; obtain ⟨s4, t4, u4, rfl⟩ := own_form HF; go_simp)))
          go_roundw
          case rel =>
            have HG := ansrow_snoc (x := ⟨aerr, ⟨an, af, ao, az⟩, aL⟩) (u := .slice s3 t3 u3) (HF.sel 10 [0, 2, 7, 8, 5, 6, 9])
            rw [HXS.out] at HG
            have r1 := HL3.out
            have r2 := HI2.out
            dsimp only at r1
            exact ⟨k + 1, ⟨nu, nes, nls⟩, aa ++ [⟨aerr, ⟨an, af, ao, az⟩, aL⟩], s1, t1, u1, s2, t2, u2, s4, t4, u4, by omega, rfl, rfl, Lib.hid ⟨HS3.out, by dsimp only; omega, by dsimp only; omega, Q5.out, by rw [List.length_append, ← HXS.out, List.length_map, HXL.out]; rfl⟩, HG⟩
          case measure => simp [intOf]; omega
    · have g1 : ¬ (k : Int) < l.length := by omega
      have HE2 := Lib.hid (repl_end (by omega) HI.out.1)
      clear HI
      go_wp2_with (first | ((with_reducible refine k_load (T := 25) ?_); refine st_row rfl _ _ rfl _ rfl a25 3 s25 HF 1 rfl rfl ?_; (intro K hK; go_simp)) | ((with_reducible refine k_load (T := 25) ?_); refine st_loads rfl _ _ rfl _ _ rfl a25 3 s25 HF 1 rfl ?_ ?_; (simp); (intro K hK; go_simp)) | ((with_reducible refine k_store (T := 25) ?_); refine st_put rfl _ _ _ rfl _ rfl _ rfl ?_ s25 HF 4 rfl rfl ?_; (simp [Value.oneCell']); (clear HF; intro w HF K hK; simp only [List.set_cons_zero, List.set_cons_succ, Act.eval, Value.cells, Array.getD_eq_getD_getElem?, List.getElem?_toArray, List.getElem?_cons_succ, List.getElem?_cons_zero, Option.getD_some] at HF; go_simp)))
      refine bodyPost_ret (results_ctt rfl rfl a25 s25 (HF.get 4 rfl) rfl) rfl ?_
      rw [← HRS.out, HE2.out]
      exact ⟨_, _, _, rfl, HF.sel 5 [2, 3, 0]⟩
end
end Bk
end Go.Proofs.Ytcofcikdknmggaa
