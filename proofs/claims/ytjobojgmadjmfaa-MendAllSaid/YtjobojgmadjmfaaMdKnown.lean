/-
  The statements' own functions: known.
-/
import Derived.Test.YtjobojgmadjmfaaMdLendH
import Derived.Test.YtjobojgmadjmfaaMdSameC
namespace Go.Proofs.Ytjobojgmadjmfaa
open Go.Hp Go.RowKit
set_option linter.unusedVariables false
set_option linter.unusedSimpArgs false
set_option maxRecDepth 100000
set_option maxHeartbeats 4000000
namespace Md

@[irreducible] def tupc (v : Value) : Value := match v with | .tuple a => a.getD 0 undef | _ => undef
theorem tupc_mk (a b c : Value) : tupc (.tuple #[a, b, c]) = a := by unfold tupc; rfl
def MsR (m : Mg) (v : Value) : HProp := fun hp => v = .agg (mgV m (comp v 15) (comp v 26) (comp v 27) (comp v 28)) ∧ Stars (msgR m (comp v 15) (comp v 26) (comp v 27) (comp v 28)) hp
def TkR (x : List Cg × Mg × Bool) (v : Value) : HProp := fun hp => v = .tuple #[tupc v, .agg (mgV x.2.1 nl nl nl nl), .bool x.2.2] ∧ HoldC (tupc v) x.1 hp

theorem tkr_mk {x : List Cg × Mg × Bool} {v : Value} {hp : Hp} (h : HoldC v x.1 hp) : TkR x (.tuple #[v, .agg (mgV x.2.1 nl nl nl nl), .bool x.2.2]) hp := by
  unfold TkR
  rw [tupc_mk]
  exact ⟨rfl, h⟩

def hb0 : Hd := ⟨0, 0, [], 0, [], [], []⟩
def xCm : Cm := ⟨4, 1, 2, ⟨#[]⟩, 0, 0, 0, 0, 0⟩
def hbB : Hd := ⟨4, 1, [9], 0, [], [], [⟨1, [.int .i64 0, .int .i64 0, .int .i64 0, .int .i64 0], xCm.cells, true⟩]⟩
def mA1 : Mg := askM 1 2 1 1 2 3 0
def mH1 : Mg := { haveM mA1 with sn := 4, sc := 1, blk := [9] }
def mA2 : Mg := askM 1 2 2 0 0 0 1
def mH2 : Mg := { haveM mA2 with sn := 1, cmds := [xCm.cells] }
def xT1 : List Cg × Mg × Bool := ([chB mH1], mg0, false)
def xT2 : List Cg × Mg × Bool := ([chN 0 1 xCm], mg0, false)

theorem ask_1 : askS 1 2 1 1 2 3 hb0 = mA1 := rfl
theorem ask_2 : askS 1 2 2 0 0 0 hb0 = mA2 := rfl
theorem have_mH1 : haveS mA1 hbB = mH1 := rfl
theorem have_mH2 : haveS mA2 hbB = mH2 := rfl
theorem take_mH1 : takeS mH1 hb0 = xT1 := rfl
theorem take_mH2 : takeS mH2 hb0 = xT2 := rfl

theorem may_hb0 : May hb0 := ⟨by decide, by decide, fun i j p q _ hp => by simp [hb0] at hp, fun p hp => by simp [hb0] at hp, fun p hp => by simp [hb0] at hp, fun _ => ⟨rfl, rfl⟩, fun p hp => by simp [hb0] at hp⟩
theorem ok0 : hb0.Ok := ⟨⟨by decide, by decide⟩, ⟨by decide, by decide⟩, ⟨by decide, by decide⟩, fun r hr => by simp [hb0] at hr, fun r hr => by simp [hb0] at hr, fun r hr => by simp [hb0] at hr⟩
theorem may_hbB : May hbB := by
  refine ⟨by decide, by decide, ?_, ?_, ?_, fun _ => ⟨rfl, rfl⟩, ?_⟩
  · intro i j p q hij hp hq
    have := (List.getElem?_eq_some_iff.1 hq).1
    simp [hbB] at this
    omega
  · intro p hp
    simp [hbB] at hp
    subst hp
    decide
  · intro p hp
    simp [hbB] at hp
    subst hp
    decide
  · intro p hp
    simp [hbB] at hp
    subst hp
    intro _ h
    simp [xCm, Cm.cells, zc] at h
theorem okB : hbB.Ok := by
  refine ⟨⟨by decide, by decide⟩, ⟨by decide, by decide⟩, ⟨by decide, by decide⟩, fun r hr => by simp [hbB] at hr, fun r hr => by simp [hbB] at hr, fun p hp => ?_⟩
  simp [hbB] at hp
  subst hp
  exact ⟨⟨by decide, by decide⟩, ⟨⟨_, rfl⟩, ⟨_, rfl⟩, ⟨_, rfl⟩, ⟨_, rfl⟩, trivial⟩, xCm.fits⟩
theorem ok_mH1 : mH1.Ok := by
  constructor
  all_goals first | exact ⟨by decide, by decide⟩ | (intro r hr; simp [mH1, haveM, mA1, askM, mg0] at hr)
theorem ok_mH2 : mH2.Ok := by
  constructor
  all_goals first | exact ⟨by decide, by decide⟩ | (intro r hr; simp [mH2, haveM, mA2, askM, mg0] at hr; done) | (intro r hr; simp [mH2] at hr; subst hr; exact xCm.fits)
theorem zz25 : zeroT Try.prog 25 = some (.agg #[.int .i64 0, .int .i64 0, .int .i64 0, .int .i64 0]) := by kernel_rfl
theorem hd0_at {w : World} : HdAt w hb0 nl nl nl nl := ⟨nil_row (n := 0), nil_recs, nil_recs, nil_recs⟩

theorem msr_at {w0 w : World} {L : List HProp} {m : Mg} {v : Value} (H : At w0 (MsR m v :: L) w) (hf : (∀ r ∈ m.ents, r.length = 4) ∧ (∀ r ∈ m.lasts, r.length = 7) ∧ (∀ r ∈ m.cmds, r.length = 9)) : MgAt w m (comp v 15) (comp v 26) (comp v 27) (comp v 28) := by
  have HS : At w0 (Hold _ _ _ :: Hold _ _ _ :: Hold _ _ _ :: Hold _ _ _ :: L) w := At.flat (At.and H).2
  exact ⟨hold_at HS, ⟨hold_at (HS.pick 1 rfl), hf.1⟩, ⟨hold_at (HS.pick 2 rfl), hf.2.1⟩, ⟨hold_at (HS.pick 3 rfl), hf.2.2⟩⟩

theorem len_mH1 : (∀ r ∈ mH1.ents, r.length = 4) ∧ (∀ r ∈ mH1.lasts, r.length = 7) ∧ (∀ r ∈ mH1.cmds, r.length = 9) := ⟨fun r hr => by simp [mH1, haveM, mA1, askM, mg0] at hr, fun r hr => by simp [mH1, haveM, mA1, askM, mg0] at hr, fun r hr => by simp [mH1, haveM, mA1, askM, mg0] at hr⟩
theorem len_mH2 : (∀ r ∈ mH2.ents, r.length = 4) ∧ (∀ r ∈ mH2.lasts, r.length = 7) ∧ (∀ r ∈ mH2.cmds, r.length = 9) := ⟨fun r hr => by simp [mH2, haveM, mA2, askM, mg0] at hr, fun r hr => by simp [mH2, haveM, mA2, askM, mg0] at hr, fun r hr => by simp [mH2] at hr; subst hr; rfl⟩

theorem ChsAt.ext {w w' : World} {v : Value} {l : List Cg} (h : ChsAt w v l) (he : Ext w w') : ChsAt w' v l := by
  obtain ⟨rs, h1, h2, h3⟩ := h
  refine ⟨rs, h1.ext he, h2, fun i c r hc hr => ?_⟩
  obtain ⟨va, ve, vl, q1, q2, q3, q4⟩ := h3 i c r hc hr
  exact ⟨va, ve, vl, q1, q2.ext he, q3.ext he, q4.ext he⟩

theorem run_eql_self {t : TypeId} {ks : List Ck} (f : flatT Try.prog 9 t = some ks) (a : aggT Try.prog t = true) {xs : List Value} (hx : Fits ks xs) (w : World) : (binOp .eql t (.agg xs.toArray) (.agg xs.toArray)).run Try.prog w = .ok (.bool true) w := by
  obtain ⟨r, h1, h2, _⟩ := run_two f a hx hx
  rw [h2 w, h1.2 rfl]

theorem row9 {w0 w : World} {L : List HProp} {g : Nat} {t : TypeId} {fr : Nat × Nat} (H : At w0 (Blk g (.cells #[.int .u8 9] t fr) :: L) w) : RowAt w (.slice (some ⟨g, 0, none⟩) 1 1) ([9] : List UInt8).length (bv [9]) :=
  ⟨_, _, rfl, Nat.le_refl _, by simp [maxLen], fun _ => ⟨_, rfl⟩, fun b hb j u hj => by cases hb; exact cells_of (c := [.int .u8 9]) H.get0 j u hj⟩

/-- One change, cell by cell. -/
theorem chs_cells {w : World} {v : Value} {c : Cg} (h : ChsAt w v [c]) : ∃ b cap va ve vl, v = .slice (some b) 1 cap ∧ (∀ (j : Nat) (u : Value), (c.cells va ve vl)[j]? = some u → w.cell? (b.add j) = some u) ∧ RowAt w va c.blk.length (bv c.blk) := by
  obtain ⟨rs, R, n, f⟩ := h
  obtain ⟨ad, cap, hv, c1, c2, c3⟩ := R.value
  rw [n] at hv c3
  obtain ⟨b, rfl⟩ := c3 (by simp)
  obtain ⟨r, hr⟩ : ∃ r, rs[0]? = some r := ⟨_, List.getElem?_eq_getElem (by rw [n]; simp)⟩
  obtain ⟨va, ve, vl, rfl, q2, q3, q4⟩ := f 0 c r rfl hr
  refine ⟨b, cap, va, ve, vl, hv, fun j u hj => ?_, q2⟩
  have := R.cell (by rw [n]; exact hv) hr hj
  rwa [Nat.zero_mul, Nat.zero_add] at this

section
variable {P : Program} {o : Oper} {Tm : Array Value} {ds : List Deferred} {w w0 : World} {K : Act → World → Prop} {Q : Exit → Act → World → Prop} {L : List HProp}
theorem op_litV {cs : Array Value} {e : TypeId} (H : At w0 L w) (hr : (execOp (Act.eval ⟨Tm, ds⟩) o).run P w = .ok (.value (.slice (some ⟨w.heap.size, 0, none⟩) 1 1)) (w.alloc (.cells cs e)))
    (h : ∀ x w', At w0 (SlBlk x cs e :: L) w' → K (Act.put ⟨Tm, ds⟩ o.dst x) w') : o.wp P ⟨Tm, ds⟩ w K Q :=
  op_value (v := .slice (some ⟨w.heap.size, 0, none⟩) 1 1) (w' := w.alloc (.cells cs e)) hr (h _ _ ((H.alloc _).imp fun _ hh => ⟨_, rfl, hh⟩))
end

section
variable {w0 w : World} {L : List HProp}

theorem known (H : At w0 L w) : Calls Try.prog 8 #[] w (fun e w' => e = .returned (.bool true) ∧ At w0 L w') := by
  obtain ⟨W, rfl⟩ : ∃ W : World, W = w := ⟨_, rfl⟩
  have HF := At.of W
  have H0 := Lib.hid H
  clear H
  have tok : True := trivial
  go_enter Try.func8, Try.ntmps8
  go_wp2_with (first | ((with_reducible refine k_alloc (T := 25) ?_); refine st_alloc rfl _ rfl _ zz25 _ rfl HF ?_; (clear HF; intro g1 w HF K hK; simp only [Value.cells] at HF; go_simp)) | ((with_reducible refine k_alloc (T := 32) ?_); refine st_alloc rfl _ rfl _ z32 _ rfl HF ?_; (clear HF; intro g2 w HF K hK; simp only [Value.cells] at HF; go_simp)) | ((with_reducible refine k_alloc (T := 49) ?_); (have _t := tok); refine st_alloc rfl _ rfl _ z49 _ rfl HF ?_; (clear HF tok _t; intro g3 w HF K hK; simp only [Value.cells] at HF; go_simp)) | ((with_reducible refine k_alloc (T := 49) ?_); refine st_alloc rfl _ rfl _ z49 _ rfl HF ?_; (clear HF; intro g4 w HF K hK; simp only [Value.cells] at HF; go_simp)) | ((with_reducible refine k_load (T := 32) ?_); (first | refine st_row rfl _ _ rfl _ rfl a32 9 s32 HF 2 rfl rfl ?_ | refine st_row rfl _ _ rfl _ rfl a32 9 s32 HF 3 rfl rfl ?_); (intro K hK; go_simp)) | ((with_reducible refine k_load (T := 32) ?_); (first | refine st_loads rfl _ _ rfl _ _ rfl a32 9 s32 HF 2 rfl ?_ ?_ | refine st_loads rfl _ _ rfl _ _ rfl a32 9 s32 HF 3 rfl ?_ ?_); (simp); (intro K hK; go_simp))      | ((with_reducible refine k_store (T := 49) ?_); refine st_put rfl _ _ _ rfl _ rfl _ rfl ?_ s49 HF 0 rfl rfl ?_; (simp [Value.oneCell']); (clear HF; intro w HF K hK; simp only [List.set_cons_zero, List.set_cons_succ, Act.eval, Value.cells, Array.getD_eq_getD_getElem?, List.getElem?_toArray, List.getElem?_cons_succ, List.getElem?_cons_zero, Option.getD_some] at HF; go_simp)) | ((with_reducible refine k_store (T := 25) ?_); refine st_put rfl _ _ _ rfl _ rfl _ rfl ?_ s25 HF 0 rfl rfl ?_; (simp [Value.oneCell']); (clear HF; intro w HF K hK; simp only [List.set_cons_zero, List.set_cons_succ, Act.eval, Value.cells, Array.getD_eq_getD_getElem?, List.getElem?_toArray, List.getElem?_cons_succ, List.getElem?_cons_zero, Option.getD_some] at HF; go_simp)) | ((with_reducible refine k_store (T := 32) ?_); refine st_put rfl _ _ _ rfl _ rfl _ rfl ?_ s32 HF 0 rfl rfl ?_; (simp [Value.oneCell']); (clear HF; intro w HF K hK; simp only [List.set_cons_zero, List.set_cons_succ, Act.eval, Value.cells, Array.getD_eq_getD_getElem?, List.getElem?_toArray, List.getElem?_cons_succ, List.getElem?_cons_zero, Option.getD_some] at HF; go_simp))      | ((with_reducible refine k_lit (T := 28) ?_); refine st_lit rfl _ _ _ rfl #[.int .u8 9] 5 1 HF ?_ ?_; (go_simp); (clear HF; intro gb w HF K hK; go_simp))      | ((with_reducible refine k_lit (T := 47) ?_); refine st_lit1 rfl _ _ rfl ([.int .i64 1, .int .i64 0, .int .i64 0, .int .i64 0, .int .i64 0, .int .i64 4, .int .i64 1, .int .i64 2, .string ⟨#[]⟩, .int .i64 0, .int .i64 0, .int .i64 0, .int .i64 0, .int .i64 0, .bool true] : List Value).toArray rfl 86 Try.underlying47 15 s86 _ z86 rfl rfl (by decide) (by decide) HF ?_; (clear HF; intro gp w HF K hK; go_simp)))
  obtain ⟨W4, rfl⟩ : ∃ W4 : World, W4 = w := ⟨_, rfl⟩
  have F1 := Lib.hid (cells_of (c := [.int .i64 1, .int .i64 1, .int .i64 2, .int .i64 3]) (HF.get 5 rfl))
  have F2 := Lib.hid (cells_of (c := [.int .i64 4, .int .i64 1, .int .i64 2, .string ⟨#[]⟩, .int .i64 0, .int .i64 0, .int .i64 0, .int .i64 0, .int .i64 0]) (HF.get 4 rfl))
  have F3 := Lib.hid (cells_of (c := [.int .i64 0, .int .i64 0, .slice none 0 0, .int .i64 0, .slice none 0 0, .slice none 0 0, .slice none 0 0]) (HF.get 3 rfl))
  have F4 := Lib.hid (cells_of (c := [.int .i64 4, .int .i64 1, .slice (some ⟨gb, 0, none⟩) 1 1, .int .i64 0, .slice none 0 0, .slice none 0 0, .slice (some ⟨gp, 0, none⟩) 1 1]) (HF.get 0 rfl))
  have HB : RowKit.Hid (HdAt W4 hbB (.slice (some ⟨gb, 0, none⟩) 1 1) nl nl (.slice (some ⟨gp, 0, none⟩) 1 1)) := Lib.hid ⟨⟨_, _, rfl, Nat.le_refl _, by simp [maxLen], fun _ => ⟨_, rfl⟩, fun b hb j u hj => by cases hb; exact cells_of (HF.get 2 rfl) j u hj⟩, nil_recs, nil_recs,
    ⟨⟨_, _, rfl, Nat.le_refl _, by simp [maxLen], fun _ => ⟨_, rfl⟩, fun b hb j u hj => by cases hb; exact cells_of (HF.get 1 rfl) j u hj⟩, fun r hr => by simp [hbB] at hr; subst hr; rfl⟩⟩
  have H4 := Lib.hid ((HF.sel 7 [6]).lift0 H0.out)
  clear HF H0
  apply wp_region_eff [4, 6, 11, 13] (fun i => (#[[], [], [], [], [], [], [4], [4, 6], [4, 6], [4, 6], [4, 6], [], [4, 6], [4, 6, 11], [4, 6]] : Array (List Nat)).getD i []) (fun val i => ((_ :: _ :: _ :: _ :: val 4 :: _ :: val 6 :: _ :: _ :: _ :: _ :: val 11 :: _ :: val 13 :: _ :: []) : List Value).toArray.getD i undef) (fun E val => At W4 ((if E 6 = true then TkR xT1 (val 6) else emp) :: (if E 4 = true then MsR mH1 (val 4) else emp) :: (if E 11 = true then PtrBlk (val 11) (.cells (if E 13 = true then mgV mg0 nl nl nl nl else #[.int .i64 0, .bool false, .int .i64 0, .bool false, .int .i64 0, .int .i64 0, .int .i64 0, .int .i64 0, .int .i64 0, .int .i64 0, .int .i64 0, .int .i64 0, .int .i64 0, .int .i64 0, .int .i64 0, .slice none 0 0, .int .i64 0, .int .i64 0, .int .i64 0, .string ⟨#[]⟩, .int .i64 0, .int .i64 0, .int .i64 0, .int .i64 0, .int .i64 0, .int .i64 0, .slice none 0 0, .slice none 0 0, .slice none 0 0, .bool false]) 39 (0, 0)) else emp) :: Arg W4 :: [])) (by kernel_rfl) (by kernel_rfl) (by kernel_rfl) (by kernel_rfl) ((At.of _).addEmp.addEmp.addEmp)
  case step =>
    iterate 4 (refine ⟨eff_pl rfl (fun _ => by rfl) fun E val hn T ds w K H hk ho hK => ?_, ?_⟩; rotate_left)
    refine ⟨eff_mk rfl (fun _ => by rfl) fun E val hE0 hcl hn T ds w K H hk ho hK => ?_, ?_⟩; rotate_left
    refine ⟨eff_pl rfl (fun _ => by rfl) fun E val hn T ds w K H hk ho hK => ?_, ?_⟩; rotate_left
    refine ⟨eff_mk rfl (fun _ => by rfl) fun E val hE0 hcl hn T ds w K H hk ho hK => ?_, ?_⟩; rotate_left
    iterate 4 (refine ⟨eff_pl rfl (fun _ => by rfl) fun E val hn T ds w K H hk ho hK => ?_, ?_⟩; rotate_left)
    refine ⟨eff_mk rfl (fun _ => by rfl) fun E val hE0 hcl hn T ds w K H hk ho hK => ?_, ?_⟩; rotate_left
    refine ⟨eff_pl rfl (fun _ => by rfl) fun E val hn T ds w K H hk ho hK => ?_, ?_⟩; rotate_left
    refine ⟨eff_mk rfl (fun _ => by rfl) fun E val hE0 hcl hn T ds w K H hk ho hK => ?_, ?_⟩; rotate_left
    refine ⟨eff_pl rfl (fun _ => by rfl) fun E val hn T ds w K H hk ho hK => ?_, ?_⟩; rotate_left
    exact trivial
    · have o1 := ho 1 (by kernel_rfl); clear ho; simp [know, dstAt, Region.binds] at hk o1
      (refine op_cellsT (vs := [.int .i64 1, .int .i64 1, .int .i64 2, .int .i64 3]) rfl o1 a25 s25 (fun j u hj => (H.ext 3 rfl).cell (F1.out j u hj)) ?_; exact hK _ H)
    · have o3 := ho 3 (by kernel_rfl); clear ho; simp [know, dstAt, Region.binds] at hk o3
      (refine op_cellsT (vs := [.int .i64 0, .int .i64 0, .slice none 0 0, .int .i64 0, .slice none 0 0, .slice none 0 0, .slice none 0 0]) rfl o3 a49 s49 (fun j u hj => (H.ext 3 rfl).cell (F3.out j u hj)) ?_; exact hK _ H)
    · clear ho; simp [know, dstAt, Region.binds] at hk
      (go_simp; refine (ask may_hb0 ok0 (by decide) nil_recs 1 2 1 1 2 3 H).mono ?_; rintro e w' ⟨rfl, _, H⟩; rw [ask_1]; exact hK _ H)
    · have o4 := ho 4 (by kernel_rfl); clear ho; simp [know, dstAt, Region.binds] at hk o4
      (refine op_cellsT (vs := [.int .i64 4, .int .i64 1, .slice (some ⟨gb, 0, none⟩) 1 1, .int .i64 0, .slice none 0 0, .slice none 0 0, .slice (some ⟨gp, 0, none⟩) 1 1]) rfl o4 a49 s49 (fun j u hj => (H.ext 3 rfl).cell (F4.out j u hj)) ?_; exact hK _ H)
    · clear ho; simp [know, dstAt, Region.binds] at hk
      (have q6 : E 6 = false := (by cases h : E 6 with | false => rfl | true => (have h2 := hcl 6 (by decide) h 4 (by decide); rw [hE0] at h2; cases h2))); (simp only [hE0, q6, Bool.false_eq_true, if_false] at H); go_simp; refine (have_ (a := mA1) (h := hbB) may_hbB okB (by decide) (HB.out.ext (H.ext 3 rfl)) (by decide) (by decide) (by decide) (H.sel 2 [])).mono ?_; rintro e w' ⟨vb', ve', vl', vc', rfl, H⟩; refine hK _ _ ?_; have t4 : updE E 4 4 = true := rfl; have t6 : updE E 4 6 = false := q6; simp only [t4, t6, Bool.false_eq_true, if_false, if_true]; rw [have_mH1] at H ⊢; exact ((At.imp (At.fold (M := msgR _ _ _ _ _) H) fun _ hh => ⟨rfl, hh⟩ : At W4 (MsR mH1 (.agg (mgV mH1 vb' ve' vl' vc')) :: _) w')).addEmp
    · have o3 := ho 3 (by kernel_rfl); clear ho; simp [know, dstAt, Region.binds] at hk o3
      (refine op_cellsT (vs := [.int .i64 0, .int .i64 0, .slice none 0 0, .int .i64 0, .slice none 0 0, .slice none 0 0, .slice none 0 0]) rfl o3 a49 s49 (fun j u hj => (H.ext 3 rfl).cell (F3.out j u hj)) ?_; exact hK _ H)
    · clear ho; simp [know, dstAt, Region.binds] at hk
      (have e4 := hn 4 (by decide)); (simp only [hE0, e4, Bool.false_eq_true, if_false, if_true] at H); (have hv4 := (At.and (H.pick 1 rfl)).1); (have HM := msr_at (H.pick 1 rfl) len_mH1); have q1 := hk.1.trans hv4; have q2 := hk.2.1; clear hk hv4; go_simp; refine (take (m := mH1) HM (ok_mH1) (by decide) (by decide) (by decide) (by decide) may_hb0 ok0 (by decide) hd0_at H.drop).mono ?_; rintro e w' ⟨v', rfl, H⟩; refine hK _ _ ?_; have t4 : updE E 6 4 = true := e4; have t6 : updE E 6 6 = true := rfl; simp only [t4, t6, if_true]; rw [take_mH1] at H ⊢; exact (At.imp H fun _ hh => tkr_mk hh)
    · clear ho; simp [know, dstAt, Region.binds] at hk
      first | (go_simp; exact hK _ H) | (have e6 := hn 6 (by decide); simp only [e6, if_true] at H; have hv6 := (At.and (H.pick 0 rfl)).1; have hk2 := hk.trans hv6; clear hk hv6; go_simp; exact hK _ (by simp only [e6, if_true]; exact H))
    · clear ho; simp [know, dstAt, Region.binds] at hk
      first | (have e6 := hn 6 (by decide); simp only [e6, if_true] at H; have hv6 := (At.and (H.pick 0 rfl)).1; have hk2 := hk.trans hv6; clear hk hv6; go_simp; exact hK _ (by simp only [e6, if_true]; exact H)) | (go_simp; exact hK _ H)
    · clear ho; simp [know, dstAt, Region.binds] at hk
      first | (have e6 := hn 6 (by decide); simp only [e6, if_true] at H; have hv6 := (At.and (H.pick 0 rfl)).1; have hk2 := hk.trans hv6; clear hk hv6; go_simp; exact hK _ (by simp only [e6, if_true]; exact H)) | (go_simp; exact hK _ H)
    · clear ho; simp [know, dstAt, Region.binds] at hk
      first | (have e6 := hn 6 (by decide); simp only [e6, if_true] at H; have hv6 := (At.and (H.pick 0 rfl)).1; have hk2 := hk.trans hv6; clear hk hv6; go_simp; exact hK _ (by simp only [e6, if_true]; exact H)) | (go_simp; exact hK _ H)
    · clear ho; simp [know, dstAt, Region.binds] at hk
      (have q13 : E 13 = false := (by cases h : E 13 with | false => rfl | true => (have h2 := hcl 13 (by decide) h 11 (by decide); rw [hE0] at h2; cases h2))); (simp only [hE0, Bool.false_eq_true, if_false] at H); refine op_allocT rfl z39 rfl (H.sel 3 [0, 1]) ?_; (intro x w' H; refine hK _ _ ?_; have t11 : updE E 11 11 = true := rfl; have t13 : updE E 11 13 = false := q13; simp only [t11, t13, Bool.false_eq_true, if_true, if_false]; exact H.sel 3 [1, 2, 0])
    · clear ho; simp [know, dstAt, Region.binds] at hk
      first | (have e6 := hn 6 (by decide); simp only [e6, if_true] at H; have hv6 := (At.and (H.pick 0 rfl)).1; have hk2 := hk.trans hv6; clear hk hv6; go_simp; exact hK _ (by simp only [e6, if_true]; exact H)) | (go_simp; exact hK _ H)
    · clear ho; simp [know, dstAt, Region.binds] at hk
      (have e11 := hn 11 (by decide)); (simp only [hE0, e11, Bool.false_eq_true, if_true, if_false] at H); (obtain ⟨g, hv11, HS⟩ := ptr_ex (H.pick 2 rfl)); refine op_putT rfl (hk.1.trans hv11) hk.2.1 ?_ s39 HS 0 rfl rfl rfl ?_; (simp [mgV, nl, mg0, cm0, Value.oneCell']); (intro w' H; refine hK _ _ ?_; have t11 : updE E 13 11 = true := e11; have t13 : updE E 13 13 = true := rfl; simp only [t11, t13, if_true]; exact (At.imp H fun _ hh => (⟨g, hv11, hh⟩ : PtrBlk (val 11) _ _)).sel 3 [1, 2, 0])
    · clear ho; simp [know, dstAt, Region.binds] at hk
      first | (have e6 := hn 6 (by decide); simp only [e6, if_true] at H; have hv6 := (At.and (H.pick 0 rfl)).1; have hk2 := hk.trans hv6; clear hk hv6; go_simp; exact hK _ (by simp only [e6, if_true]; exact H)) | (go_simp; exact hK _ H)
  case ins =>
    iterate 4 (refine ⟨ins_pl rfl (fun _ _ _ => rfl), ?_⟩)
    refine ⟨ins_mk rfl (fun _ => rfl), ?_⟩
    refine ⟨ins_pl rfl (fun _ _ _ => rfl), ?_⟩
    refine ⟨ins_mk rfl (fun _ => rfl), ?_⟩
    iterate 4 (refine ⟨ins_pl rfl (fun val val' h => by first | rfl | ((have h4 := h 4 (by decide)); (have h6 := h 6 (by decide)); first | (simp only [h4, h6]; done) | (simp only [h4, h6]; rfl))), ?_⟩)
    refine ⟨ins_mk rfl (fun _ => rfl), ?_⟩
    refine ⟨ins_pl rfl (fun val val' h => by first | rfl | ((have h4 := h 4 (by decide)); (have h6 := h 6 (by decide)); first | (simp only [h4, h6]; done) | (simp only [h4, h6]; rfl))), ?_⟩
    refine ⟨ins_mk rfl (fun _ => rfl), ?_⟩
    refine ⟨ins_pl rfl (fun val val' h => by first | rfl | ((have h4 := h 4 (by decide)); (have h6 := h 6 (by decide)); first | (simp only [h4, h6]; done) | (simp only [h4, h6]; rfl))), ?_⟩
    exact trivial
  case jns =>
    iterate 4 (refine ⟨j_pl (fun _ _ _ => rfl), ?_⟩)
    refine ⟨j_mk rfl, ?_⟩
    refine ⟨j_pl (fun _ _ _ => rfl), ?_⟩
    refine ⟨j_mk rfl, ?_⟩
    iterate 4 (refine ⟨j_pl (fun _ _ _ => rfl), ?_⟩)
    refine ⟨j_mk rfl, ?_⟩
    refine ⟨j_pl (fun _ _ _ => rfl), ?_⟩
    refine ⟨j_mk rfl, ?_⟩
    refine ⟨j_pl (fun _ _ _ => rfl), ?_⟩
    exact trivial
  case fin =>
    intro E val w5 hE H
    have e4 := hE 4 (by decide)
    have e6 := hE 6 (by decide)
    have e11 := hE 11 (by decide)
    have e13 := hE 13 (by decide)
    simp only [e4, e6, e11, e13, if_true] at H
    clear hE e4 e6 e11 e13
    obtain ⟨hv6, HF⟩ := At.and H
    obtain ⟨g6, hv11, HG⟩ := ptr_ex (H.pick 2 rfl)
    have HF2 := HF
    generalize hv5 : tupc (val 6) = v5 at *
    have C1 := holdc_at HF
    have H5 := Lib.hid ((HF.sel 4 [3]).lift0 H4.out)
    have hx := HF.ext 3 rfl
    clear hv5 HG HF2 HF H
    obtain ⟨W5, rfl⟩ : ∃ W5 : World, W5 = w5 := ⟨_, rfl⟩
    replace F1 := Lib.hid (fun j u hj => hx.cell (F1.out j u hj))
    replace F2 := Lib.hid (fun j u hj => hx.cell (F2.out j u hj))
    replace F3 := Lib.hid (fun j u hj => hx.cell (F3.out j u hj))
    replace F4 := Lib.hid (fun j u hj => hx.cell (F4.out j u hj))
    replace HB := Lib.hid (HB.out.ext hx)
    simp [putAll, Act.put, hv11]
    have HC1 := Lib.hid C1
    clear hx hv6 hv11 C1 H4
    go_wp2_with fail
    apply wp_region_eff [4, 6, 11, 13] (fun i => (#[[], [], [], [], [], [], [4], [4, 6], [4, 6], [4, 6], [4, 6], [], [4, 6], [4, 6, 11], [4, 6]] : Array (List Nat)).getD i []) (fun val i => ((_ :: _ :: _ :: _ :: val 4 :: _ :: val 6 :: _ :: _ :: _ :: _ :: val 11 :: _ :: val 13 :: _ :: []) : List Value).toArray.getD i undef) (fun E val => At W5 ((if E 6 = true then TkR xT2 (val 6) else emp) :: (if E 4 = true then MsR mH2 (val 4) else emp) :: (if E 11 = true then PtrBlk (val 11) (.cells (if E 13 = true then mgV mg0 nl nl nl nl else #[.int .i64 0, .bool false, .int .i64 0, .bool false, .int .i64 0, .int .i64 0, .int .i64 0, .int .i64 0, .int .i64 0, .int .i64 0, .int .i64 0, .int .i64 0, .int .i64 0, .int .i64 0, .int .i64 0, .slice none 0 0, .int .i64 0, .int .i64 0, .int .i64 0, .string ⟨#[]⟩, .int .i64 0, .int .i64 0, .int .i64 0, .int .i64 0, .int .i64 0, .int .i64 0, .slice none 0 0, .slice none 0 0, .slice none 0 0, .bool false]) 39 (0, 0)) else emp) :: Arg W5 :: [])) (by kernel_rfl) (by kernel_rfl) (by kernel_rfl) (by kernel_rfl) ((At.of _).addEmp.addEmp.addEmp)
    case step =>
      iterate 4 (refine ⟨eff_pl rfl (fun _ => by rfl) fun E val hn T ds w K H hk ho hK => ?_, ?_⟩; rotate_left)
      refine ⟨eff_mk rfl (fun _ => by rfl) fun E val hE0 hcl hn T ds w K H hk ho hK => ?_, ?_⟩; rotate_left
      refine ⟨eff_pl rfl (fun _ => by rfl) fun E val hn T ds w K H hk ho hK => ?_, ?_⟩; rotate_left
      refine ⟨eff_mk rfl (fun _ => by rfl) fun E val hE0 hcl hn T ds w K H hk ho hK => ?_, ?_⟩; rotate_left
      iterate 4 (refine ⟨eff_pl rfl (fun _ => by rfl) fun E val hn T ds w K H hk ho hK => ?_, ?_⟩; rotate_left)
      refine ⟨eff_mk rfl (fun _ => by rfl) fun E val hE0 hcl hn T ds w K H hk ho hK => ?_, ?_⟩; rotate_left
      refine ⟨eff_pl rfl (fun _ => by rfl) fun E val hn T ds w K H hk ho hK => ?_, ?_⟩; rotate_left
      refine ⟨eff_mk rfl (fun _ => by rfl) fun E val hE0 hcl hn T ds w K H hk ho hK => ?_, ?_⟩; rotate_left
      refine ⟨eff_pl rfl (fun _ => by rfl) fun E val hn T ds w K H hk ho hK => ?_, ?_⟩; rotate_left
      exact trivial
      · clear ho; simp [know, dstAt, Region.binds] at hk; go_simp; exact hK _ H
      · have o3 := ho 3 (by kernel_rfl); clear ho; simp [know, dstAt, Region.binds] at hk o3
        (refine op_cellsT (vs := [.int .i64 0, .int .i64 0, .slice none 0 0, .int .i64 0, .slice none 0 0, .slice none 0 0, .slice none 0 0]) rfl o3 a49 s49 (fun j u hj => (H.ext 3 rfl).cell (F3.out j u hj)) ?_; exact hK _ H)
      · clear ho; simp [know, dstAt, Region.binds] at hk
        (go_simp; refine (ask may_hb0 ok0 (by decide) nil_recs 1 2 2 0 0 0 H).mono ?_; rintro e w' ⟨rfl, _, H⟩; rw [ask_2]; exact hK _ H)
      · have o4 := ho 4 (by kernel_rfl); clear ho; simp [know, dstAt, Region.binds] at hk o4
        (refine op_cellsT (vs := [.int .i64 4, .int .i64 1, .slice (some ⟨gb, 0, none⟩) 1 1, .int .i64 0, .slice none 0 0, .slice none 0 0, .slice (some ⟨gp, 0, none⟩) 1 1]) rfl o4 a49 s49 (fun j u hj => (H.ext 3 rfl).cell (F4.out j u hj)) ?_; exact hK _ H)
      · clear ho; simp [know, dstAt, Region.binds] at hk
        (have q6 : E 6 = false := (by cases h : E 6 with | false => rfl | true => (have h2 := hcl 6 (by decide) h 4 (by decide); rw [hE0] at h2; cases h2))); (simp only [hE0, q6, Bool.false_eq_true, if_false] at H); go_simp; refine (have_ (a := mA2) (h := hbB) may_hbB okB (by decide) (HB.out.ext (H.ext 3 rfl)) (by decide) (by decide) (by decide) (H.sel 2 [])).mono ?_; rintro e w' ⟨vb', ve', vl', vc', rfl, H⟩; refine hK _ _ ?_; have t4 : updE E 4 4 = true := rfl; have t6 : updE E 4 6 = false := q6; simp only [t4, t6, Bool.false_eq_true, if_false, if_true]; rw [have_mH2] at H ⊢; exact ((At.imp (At.fold (M := msgR _ _ _ _ _) H) fun _ hh => ⟨rfl, hh⟩ : At W5 (MsR mH2 (.agg (mgV mH2 vb' ve' vl' vc')) :: _) w')).addEmp
      · have o3 := ho 3 (by kernel_rfl); clear ho; simp [know, dstAt, Region.binds] at hk o3
        (refine op_cellsT (vs := [.int .i64 0, .int .i64 0, .slice none 0 0, .int .i64 0, .slice none 0 0, .slice none 0 0, .slice none 0 0]) rfl o3 a49 s49 (fun j u hj => (H.ext 3 rfl).cell (F3.out j u hj)) ?_; exact hK _ H)
      · clear ho; simp [know, dstAt, Region.binds] at hk
        (have e4 := hn 4 (by decide)); (simp only [hE0, e4, Bool.false_eq_true, if_false, if_true] at H); (have hv4 := (At.and (H.pick 1 rfl)).1); (have HM := msr_at (H.pick 1 rfl) len_mH2); have q1 := hk.1.trans hv4; have q2 := hk.2.1; clear hk hv4; go_simp; refine (take (m := mH2) HM (ok_mH2) (by decide) (by decide) (by decide) (by decide) may_hb0 ok0 (by decide) hd0_at H.drop).mono ?_; rintro e w' ⟨v', rfl, H⟩; refine hK _ _ ?_; have t4 : updE E 6 4 = true := e4; have t6 : updE E 6 6 = true := rfl; simp only [t4, t6, if_true]; rw [take_mH2] at H ⊢; exact (At.imp H fun _ hh => tkr_mk hh)
      · clear ho; simp [know, dstAt, Region.binds] at hk
        first | (go_simp; exact hK _ H) | (have e6 := hn 6 (by decide); simp only [e6, if_true] at H; have hv6 := (At.and (H.pick 0 rfl)).1; have hk2 := hk.trans hv6; clear hk hv6; go_simp; exact hK _ (by simp only [e6, if_true]; exact H))
      · clear ho; simp [know, dstAt, Region.binds] at hk
        first | (have e6 := hn 6 (by decide); simp only [e6, if_true] at H; have hv6 := (At.and (H.pick 0 rfl)).1; have hk2 := hk.trans hv6; clear hk hv6; go_simp; exact hK _ (by simp only [e6, if_true]; exact H)) | (go_simp; exact hK _ H)
      · clear ho; simp [know, dstAt, Region.binds] at hk
        first | (have e6 := hn 6 (by decide); simp only [e6, if_true] at H; have hv6 := (At.and (H.pick 0 rfl)).1; have hk2 := hk.trans hv6; clear hk hv6; go_simp; exact hK _ (by simp only [e6, if_true]; exact H)) | (go_simp; exact hK _ H)
      · clear ho; simp [know, dstAt, Region.binds] at hk
        first | (have e6 := hn 6 (by decide); simp only [e6, if_true] at H; have hv6 := (At.and (H.pick 0 rfl)).1; have hk2 := hk.trans hv6; clear hk hv6; go_simp; exact hK _ (by simp only [e6, if_true]; exact H)) | (go_simp; exact hK _ H)
      · clear ho; simp [know, dstAt, Region.binds] at hk
        (have q13 : E 13 = false := (by cases h : E 13 with | false => rfl | true => (have h2 := hcl 13 (by decide) h 11 (by decide); rw [hE0] at h2; cases h2))); (simp only [hE0, Bool.false_eq_true, if_false] at H); refine op_allocT rfl z39 rfl (H.sel 3 [0, 1]) ?_; (intro x w' H; refine hK _ _ ?_; have t11 : updE E 11 11 = true := rfl; have t13 : updE E 11 13 = false := q13; simp only [t11, t13, Bool.false_eq_true, if_true, if_false]; exact H.sel 3 [1, 2, 0])
      · clear ho; simp [know, dstAt, Region.binds] at hk
        first | (have e6 := hn 6 (by decide); simp only [e6, if_true] at H; have hv6 := (At.and (H.pick 0 rfl)).1; have hk2 := hk.trans hv6; clear hk hv6; go_simp; exact hK _ (by simp only [e6, if_true]; exact H)) | (go_simp; exact hK _ H)
      · clear ho; simp [know, dstAt, Region.binds] at hk
        (have e11 := hn 11 (by decide)); (simp only [hE0, e11, Bool.false_eq_true, if_true, if_false] at H); (obtain ⟨g, hv11, HS⟩ := ptr_ex (H.pick 2 rfl)); refine op_putT rfl (hk.1.trans hv11) hk.2.1 ?_ s39 HS 0 rfl rfl rfl ?_; (simp [mgV, nl, mg0, cm0, Value.oneCell']); (intro w' H; refine hK _ _ ?_; have t11 : updE E 13 11 = true := e11; have t13 : updE E 13 13 = true := rfl; simp only [t11, t13, if_true]; exact (At.imp H fun _ hh => (⟨g, hv11, hh⟩ : PtrBlk (val 11) _ _)).sel 3 [1, 2, 0])
      · clear ho; simp [know, dstAt, Region.binds] at hk
        first | (have e6 := hn 6 (by decide); simp only [e6, if_true] at H; have hv6 := (At.and (H.pick 0 rfl)).1; have hk2 := hk.trans hv6; clear hk hv6; go_simp; exact hK _ (by simp only [e6, if_true]; exact H)) | (go_simp; exact hK _ H)
    case ins =>
      iterate 4 (refine ⟨ins_pl rfl (fun _ _ _ => rfl), ?_⟩)
      refine ⟨ins_mk rfl (fun _ => rfl), ?_⟩
      refine ⟨ins_pl rfl (fun _ _ _ => rfl), ?_⟩
      refine ⟨ins_mk rfl (fun _ => rfl), ?_⟩
      iterate 4 (refine ⟨ins_pl rfl (fun val val' h => by first | rfl | ((have h4 := h 4 (by decide)); (have h6 := h 6 (by decide)); first | (simp only [h4, h6]; done) | (simp only [h4, h6]; rfl))), ?_⟩)
      refine ⟨ins_mk rfl (fun _ => rfl), ?_⟩
      refine ⟨ins_pl rfl (fun val val' h => by first | rfl | ((have h4 := h 4 (by decide)); (have h6 := h 6 (by decide)); first | (simp only [h4, h6]; done) | (simp only [h4, h6]; rfl))), ?_⟩
      refine ⟨ins_mk rfl (fun _ => rfl), ?_⟩
      refine ⟨ins_pl rfl (fun val val' h => by first | rfl | ((have h4 := h 4 (by decide)); (have h6 := h 6 (by decide)); first | (simp only [h4, h6]; done) | (simp only [h4, h6]; rfl))), ?_⟩
      exact trivial
    case jns =>
      iterate 4 (refine ⟨j_pl (fun _ _ _ => rfl), ?_⟩)
      refine ⟨j_mk rfl, ?_⟩
      refine ⟨j_pl (fun _ _ _ => rfl), ?_⟩
      refine ⟨j_mk rfl, ?_⟩
      iterate 4 (refine ⟨j_pl (fun _ _ _ => rfl), ?_⟩)
      refine ⟨j_mk rfl, ?_⟩
      refine ⟨j_pl (fun _ _ _ => rfl), ?_⟩
      refine ⟨j_mk rfl, ?_⟩
      refine ⟨j_pl (fun _ _ _ => rfl), ?_⟩
      exact trivial
    case fin =>
      intro E val w5 hE H
      have e4 := hE 4 (by decide)
      have e6 := hE 6 (by decide)
      have e11 := hE 11 (by decide)
      have e13 := hE 13 (by decide)
      simp only [e4, e6, e11, e13, if_true] at H
      clear hE e4 e6 e11 e13
      obtain ⟨hv6, HF⟩ := At.and H
      obtain ⟨g6, hv11, HG⟩ := ptr_ex (H.pick 2 rfl)
      generalize hv8 : tupc (val 6) = v8 at *
      have C2 := holdc_at HF
      have H6 := Lib.hid ((HF.sel 4 [3]).lift0 H5.out)
      have hx := HF.ext 3 rfl
      clear hv8 HG HF H
      obtain ⟨W6, rfl⟩ : ∃ W6 : World, W6 = w5 := ⟨_, rfl⟩
      replace F1 := Lib.hid (fun j u hj => hx.cell (F1.out j u hj))
      replace F2 := Lib.hid (fun j u hj => hx.cell (F2.out j u hj))
      obtain ⟨b1, cap1, va1, ve1, vl1, rfl, q1, ra1⟩ := chs_cells (HC1.out.ext hx)
      obtain ⟨b2, cap2, va2, ve2, vl2, rfl, q2, ra2⟩ := chs_cells C2
      have RA := Lib.hid ra1
      simp only [Cg.cells, chB, chN, mH1, haveM, mA1, askM, mg0, cm0, xCm] at q1 q2
      have K1 := Lib.hid (cells_sub (pre := []) (mid := [.int .i64 1, .int .i64 1, .int .i64 2, .int .i64 3]) q1 rfl 0 rfl)
      have D1 := Lib.hid (q1 6 va1 rfl)
      have K2 := Lib.hid (cells_sub (pre := []) (mid := [.int .i64 3, .int .i64 0, .int .i64 1, .int .i64 0]) q2 rfl 0 rfl)
      have I2 := Lib.hid (cells_sub (pre := [.int .i64 3, .int .i64 0, .int .i64 1, .int .i64 0, .int .i64 0, .int .i64 0, va2]) (mid := [.int .i64 0, .int .i64 0, .int .i64 0, .int .i64 0, .int .i64 4, .int .i64 1, .int .i64 2, .string ⟨#[]⟩, .int .i64 0, .int .i64 0, .int .i64 0, .int .i64 0, .int .i64 0, .bool true]) q2 rfl 7 rfl)
      simp [putAll, Act.put, hv11]
      clear hx hv6 hv11 C2 H5 HC1 q1 q2 ra1 ra2
      have hzK1 := run_eql_self fKey a25 (xs := [.int .i64 1, .int .i64 1, .int .i64 2, .int .i64 3]) ⟨⟨_, rfl⟩, ⟨_, rfl⟩, ⟨_, rfl⟩, ⟨_, rfl⟩, trivial⟩
      have hzK2 := run_eql_self fKey a25 (xs := [.int .i64 3, .int .i64 0, .int .i64 1, .int .i64 0]) ⟨⟨_, rfl⟩, ⟨_, rfl⟩, ⟨_, rfl⟩, ⟨_, rfl⟩, trivial⟩
      have hzI := run_eql_self fInst a69 (xs := [.int .i64 0, .int .i64 0, .int .i64 0, .int .i64 0, .int .i64 4, .int .i64 1, .int .i64 2, .string ⟨#[]⟩, .int .i64 0, .int .i64 0, .int .i64 0, .int .i64 0, .int .i64 0, .bool true]) ⟨⟨_, rfl⟩, ⟨_, rfl⟩, ⟨_, rfl⟩, ⟨_, rfl⟩, ⟨_, rfl⟩, ⟨_, rfl⟩, ⟨_, rfl⟩, ⟨_, rfl⟩, ⟨_, rfl⟩, ⟨_, rfl⟩, ⟨_, rfl⟩, ⟨_, rfl⟩, ⟨_, rfl⟩, ⟨_, rfl⟩, trivial⟩
      go_wp2_with fail
      apply wp_region_eff [17] (fun i => (#[[], [], [], [], [], [], [], [], [], [], [], [], [], [], [], [], [], [], [17], [17], [17], [17], [17], [17], [17], [17], [17], [17], [17], [17], [17], [17], [17], [17], [17], [17], [17], [17], [17], [17], [17], [17], [17], [17], [17], [17], [17], [17], [17], [17], [17]] : Array (List Nat)).getD i []) (fun val i => ((_ :: _ :: _ :: .bool true :: _ :: _ :: _ :: _ :: _ :: _ :: _ :: .bool true :: _ :: _ :: _ :: _ :: _ :: val 17 :: _ :: _ :: .bool true :: _ :: _ :: _ :: .bool true :: _ :: _ :: _ :: _ :: .bool true :: _ :: _ :: _ :: _ :: _ :: _ :: _ :: .bool true :: _ :: _ :: _ :: _ :: _ :: _ :: _ :: _ :: .bool true :: _ :: _ :: _ :: _ :: []) : List Value).toArray.getD i undef) (fun E val => At W6 ((if E 17 = true then SlBlk (val 17) #[.int .u8 9] 5 else emp) :: Arg W6 :: [])) (by kernel_rfl) (by kernel_rfl) (by kernel_rfl) (by kernel_rfl) ((At.of _).addEmp)
      case step =>
        iterate 17 (refine ⟨eff_pl rfl (fun _ => by rfl) fun E val hn T ds w K H hk ho hK => ?_, ?_⟩; rotate_left)
        refine ⟨eff_mk rfl (fun _ => by rfl) fun E val hE0 hcl hn T ds w K H hk ho hK => ?_, ?_⟩; rotate_left
        iterate 33 (refine ⟨eff_pl rfl (fun _ => by rfl) fun E val hn T ds w K H hk ho hK => ?_, ?_⟩; rotate_left)
        exact trivial
        · have o5 := ho 5 (by kernel_rfl); clear ho; simp [know, dstAt, Region.binds] at hk o5; go_simp; exact hK _ H
        · clear ho; simp [know, dstAt, Region.binds] at hk; go_simp; exact hK _ H
        · clear ho; simp [know, dstAt, Region.binds] at hk; go_simp; exact hK _ H
        · clear ho; simp [know, dstAt, Region.binds] at hk; go_simp; exact hK _ H
        · have o5 := ho 5 (by kernel_rfl); clear ho; simp [know, dstAt, Region.binds] at hk o5; go_simp; exact hK _ H
        · clear ho; simp [know, dstAt, Region.binds] at hk; go_simp; exact hK _ H
        · clear ho; simp [know, dstAt, Region.binds] at hk; go_simp; exact hK _ H
        · clear ho; simp [know, dstAt, Region.binds] at hk
          first | (refine op_cellsT (vs := [.int .i64 1, .int .i64 1, .int .i64 2, .int .i64 3]) rfl hk.1 a25 s25 (fun j u hj => (H.ext 1 rfl).cell (K1.out j u hj)) ?_; exact hK _ H) | (refine op_cellsT (vs := [.int .i64 3, .int .i64 0, .int .i64 1, .int .i64 0]) rfl hk.1 a25 s25 (fun j u hj => (H.ext 1 rfl).cell (K2.out j u hj)) ?_; exact hK _ H)
        · have o1 := ho 1 (by kernel_rfl); clear ho; simp [know, dstAt, Region.binds] at hk o1
          first | (refine op_cellsT (vs := [.int .i64 1, .int .i64 1, .int .i64 2, .int .i64 3]) rfl o1 a25 s25 (fun j u hj => (H.ext 1 rfl).cell (F1.out j u hj)) ?_; exact hK _ H) | (refine op_cellsT (vs := [.int .i64 1, .int .i64 1, .int .i64 2, .int .i64 3]) rfl hk.1 a25 s25 (fun j u hj => (H.ext 1 rfl).cell (K1.out j u hj)) ?_; exact hK _ H) | (refine op_cellsT (vs := [.int .i64 3, .int .i64 0, .int .i64 1, .int .i64 0]) rfl hk.1 a25 s25 (fun j u hj => (H.ext 1 rfl).cell (K2.out j u hj)) ?_; exact hK _ H)
        · clear ho; simp [know, dstAt, Region.binds] at hk; go_simp; exact hK _ H
        · clear ho; simp [know, dstAt, Region.binds] at hk; go_simp; exact hK _ H
        · clear ho; simp [know, dstAt, Region.binds] at hk; go_simp; exact hK _ H
        · have o5 := ho 5 (by kernel_rfl); clear ho; simp [know, dstAt, Region.binds] at hk o5; go_simp; exact hK _ H
        · clear ho; simp [know, dstAt, Region.binds] at hk; go_simp; exact hK _ H
        · clear ho; simp [know, dstAt, Region.binds] at hk; go_simp; exact hK _ H
        · clear ho; simp [know, dstAt, Region.binds] at hk; go_simp; exact hK _ H
        · clear ho; simp [know, dstAt, Region.binds] at hk
          (refine op_load1T (v := va1) rfl hk.1 (by kernel_rfl) ((H.ext 1 rfl).cell D1.out) ?_; exact hK _ H)
        · clear ho; simp [know, dstAt, Region.binds] at hk
          (simp only [hE0, Bool.false_eq_true, if_false] at H); refine op_litV (cs := #[.int .u8 9]) (e := 5) (H.sel 1 []) (by go_simp) ?_; (intro x w' H; refine hK _ _ ?_; have t17 : updE E 17 17 = true := rfl; simp only [t17, if_true]; exact H)
        · clear ho; simp [know, dstAt, Region.binds] at hk
          (have e17 := hn 17 (by decide); simp only [e17, if_true] at H; obtain ⟨g, hv17, HS⟩ := sl_ex H; have p1 := hk.1; have p2 := hk.2.1.trans hv17; clear hk; go_simp; refine (sameB (a := [9]) (b := [9]) (RA.out.ext (HS.ext 1 rfl)) (row9 HS) HS).mono ?_; rintro e w' ⟨rfl, H⟩; rw [show (([9] : List UInt8) == [9]) = true from rfl]; exact hK _ (by simp only [e17, if_true]; exact At.imp H fun _ hh => ⟨g, hv17, hh⟩))
        · clear ho; simp [know, dstAt, Region.binds] at hk
          first | (go_simp; exact hK _ H) | (have e17 := hn 17 (by decide); simp only [e17, if_true] at H; obtain ⟨g, hv17, HS⟩ := sl_ex H; have p1 := hk.1; have p2 := hk.2.1.trans hv17; clear hk; go_simp; refine (sameB (a := [9]) (b := [9]) (RA.out.ext (HS.ext 1 rfl)) (row9 HS) HS).mono ?_; rintro e w' ⟨rfl, H⟩; rw [show (([9] : List UInt8) == [9]) = true from rfl]; exact hK _ (by simp only [e17, if_true]; exact At.imp H fun _ hh => ⟨g, hv17, hh⟩))
        · clear ho; simp [know, dstAt, Region.binds] at hk
          first | (go_simp; exact hK _ H) | (have e17 := hn 17 (by decide); simp only [e17, if_true] at H; obtain ⟨g, hv17, HS⟩ := sl_ex H; have p1 := hk.1; have p2 := hk.2.1.trans hv17; clear hk; go_simp; refine (sameB (a := [9]) (b := [9]) (RA.out.ext (HS.ext 1 rfl)) (row9 HS) HS).mono ?_; rintro e w' ⟨rfl, H⟩; rw [show (([9] : List UInt8) == [9]) = true from rfl]; exact hK _ (by simp only [e17, if_true]; exact At.imp H fun _ hh => ⟨g, hv17, hh⟩))
        · have o7 := ho 7 (by kernel_rfl); clear ho; simp [know, dstAt, Region.binds] at hk o7
          first | (go_simp; exact hK _ H) | (have e17 := hn 17 (by decide); simp only [e17, if_true] at H; obtain ⟨g, hv17, HS⟩ := sl_ex H; have p1 := hk.1; have p2 := hk.2.1.trans hv17; clear hk; go_simp; refine (sameB (a := [9]) (b := [9]) (RA.out.ext (HS.ext 1 rfl)) (row9 HS) HS).mono ?_; rintro e w' ⟨rfl, H⟩; rw [show (([9] : List UInt8) == [9]) = true from rfl]; exact hK _ (by simp only [e17, if_true]; exact At.imp H fun _ hh => ⟨g, hv17, hh⟩))
        · clear ho; simp [know, dstAt, Region.binds] at hk
          first | (go_simp; exact hK _ H) | (have e17 := hn 17 (by decide); simp only [e17, if_true] at H; obtain ⟨g, hv17, HS⟩ := sl_ex H; have p1 := hk.1; have p2 := hk.2.1.trans hv17; clear hk; go_simp; refine (sameB (a := [9]) (b := [9]) (RA.out.ext (HS.ext 1 rfl)) (row9 HS) HS).mono ?_; rintro e w' ⟨rfl, H⟩; rw [show (([9] : List UInt8) == [9]) = true from rfl]; exact hK _ (by simp only [e17, if_true]; exact At.imp H fun _ hh => ⟨g, hv17, hh⟩))
        · clear ho; simp [know, dstAt, Region.binds] at hk
          first | (go_simp; exact hK _ H) | (have e17 := hn 17 (by decide); simp only [e17, if_true] at H; obtain ⟨g, hv17, HS⟩ := sl_ex H; have p1 := hk.1; have p2 := hk.2.1.trans hv17; clear hk; go_simp; refine (sameB (a := [9]) (b := [9]) (RA.out.ext (HS.ext 1 rfl)) (row9 HS) HS).mono ?_; rintro e w' ⟨rfl, H⟩; rw [show (([9] : List UInt8) == [9]) = true from rfl]; exact hK _ (by simp only [e17, if_true]; exact At.imp H fun _ hh => ⟨g, hv17, hh⟩))
        · clear ho; simp [know, dstAt, Region.binds] at hk
          first | (go_simp; exact hK _ H) | (have e17 := hn 17 (by decide); simp only [e17, if_true] at H; obtain ⟨g, hv17, HS⟩ := sl_ex H; have p1 := hk.1; have p2 := hk.2.1.trans hv17; clear hk; go_simp; refine (sameB (a := [9]) (b := [9]) (RA.out.ext (HS.ext 1 rfl)) (row9 HS) HS).mono ?_; rintro e w' ⟨rfl, H⟩; rw [show (([9] : List UInt8) == [9]) = true from rfl]; exact hK _ (by simp only [e17, if_true]; exact At.imp H fun _ hh => ⟨g, hv17, hh⟩))
        · have o8 := ho 8 (by kernel_rfl); clear ho; simp [know, dstAt, Region.binds] at hk o8
          first | (go_simp; exact hK _ H) | (have e17 := hn 17 (by decide); simp only [e17, if_true] at H; obtain ⟨g, hv17, HS⟩ := sl_ex H; have p1 := hk.1; have p2 := hk.2.1.trans hv17; clear hk; go_simp; refine (sameB (a := [9]) (b := [9]) (RA.out.ext (HS.ext 1 rfl)) (row9 HS) HS).mono ?_; rintro e w' ⟨rfl, H⟩; rw [show (([9] : List UInt8) == [9]) = true from rfl]; exact hK _ (by simp only [e17, if_true]; exact At.imp H fun _ hh => ⟨g, hv17, hh⟩))
        · clear ho; simp [know, dstAt, Region.binds] at hk; go_simp; exact hK _ H
        · clear ho; simp [know, dstAt, Region.binds] at hk
          first | (have e17 := hn 17 (by decide); simp only [e17, if_true] at H; obtain ⟨g, hv17, HS⟩ := sl_ex H; have p1 := hk.1; have p2 := hk.2.1.trans hv17; clear hk; go_simp; refine (sameB (a := [9]) (b := [9]) (RA.out.ext (HS.ext 1 rfl)) (row9 HS) HS).mono ?_; rintro e w' ⟨rfl, H⟩; rw [show (([9] : List UInt8) == [9]) = true from rfl]; exact hK _ (by simp only [e17, if_true]; exact At.imp H fun _ hh => ⟨g, hv17, hh⟩)) | (go_simp; exact hK _ H)
        · clear ho; simp [know, dstAt, Region.binds] at hk
          first | (go_simp; exact hK _ H) | (have e17 := hn 17 (by decide); simp only [e17, if_true] at H; obtain ⟨g, hv17, HS⟩ := sl_ex H; have p1 := hk.1; have p2 := hk.2.1.trans hv17; clear hk; go_simp; refine (sameB (a := [9]) (b := [9]) (RA.out.ext (HS.ext 1 rfl)) (row9 HS) HS).mono ?_; rintro e w' ⟨rfl, H⟩; rw [show (([9] : List UInt8) == [9]) = true from rfl]; exact hK _ (by simp only [e17, if_true]; exact At.imp H fun _ hh => ⟨g, hv17, hh⟩))
        · clear ho; simp [know, dstAt, Region.binds] at hk
          first | (go_simp; exact hK _ H) | (have e17 := hn 17 (by decide); simp only [e17, if_true] at H; obtain ⟨g, hv17, HS⟩ := sl_ex H; have p1 := hk.1; have p2 := hk.2.1.trans hv17; clear hk; go_simp; refine (sameB (a := [9]) (b := [9]) (RA.out.ext (HS.ext 1 rfl)) (row9 HS) HS).mono ?_; rintro e w' ⟨rfl, H⟩; rw [show (([9] : List UInt8) == [9]) = true from rfl]; exact hK _ (by simp only [e17, if_true]; exact At.imp H fun _ hh => ⟨g, hv17, hh⟩))
        · have o8 := ho 8 (by kernel_rfl); clear ho; simp [know, dstAt, Region.binds] at hk o8
          first | (go_simp; exact hK _ H) | (have e17 := hn 17 (by decide); simp only [e17, if_true] at H; obtain ⟨g, hv17, HS⟩ := sl_ex H; have p1 := hk.1; have p2 := hk.2.1.trans hv17; clear hk; go_simp; refine (sameB (a := [9]) (b := [9]) (RA.out.ext (HS.ext 1 rfl)) (row9 HS) HS).mono ?_; rintro e w' ⟨rfl, H⟩; rw [show (([9] : List UInt8) == [9]) = true from rfl]; exact hK _ (by simp only [e17, if_true]; exact At.imp H fun _ hh => ⟨g, hv17, hh⟩))
        · clear ho; simp [know, dstAt, Region.binds] at hk
          first | (go_simp; exact hK _ H) | (have e17 := hn 17 (by decide); simp only [e17, if_true] at H; obtain ⟨g, hv17, HS⟩ := sl_ex H; have p1 := hk.1; have p2 := hk.2.1.trans hv17; clear hk; go_simp; refine (sameB (a := [9]) (b := [9]) (RA.out.ext (HS.ext 1 rfl)) (row9 HS) HS).mono ?_; rintro e w' ⟨rfl, H⟩; rw [show (([9] : List UInt8) == [9]) = true from rfl]; exact hK _ (by simp only [e17, if_true]; exact At.imp H fun _ hh => ⟨g, hv17, hh⟩))
        · clear ho; simp [know, dstAt, Region.binds] at hk
          first | (go_simp; exact hK _ H) | (have e17 := hn 17 (by decide); simp only [e17, if_true] at H; obtain ⟨g, hv17, HS⟩ := sl_ex H; have p1 := hk.1; have p2 := hk.2.1.trans hv17; clear hk; go_simp; refine (sameB (a := [9]) (b := [9]) (RA.out.ext (HS.ext 1 rfl)) (row9 HS) HS).mono ?_; rintro e w' ⟨rfl, H⟩; rw [show (([9] : List UInt8) == [9]) = true from rfl]; exact hK _ (by simp only [e17, if_true]; exact At.imp H fun _ hh => ⟨g, hv17, hh⟩))
        · clear ho; simp [know, dstAt, Region.binds] at hk
          first | (refine op_cellsT (vs := [.int .i64 1, .int .i64 1, .int .i64 2, .int .i64 3]) rfl hk.1 a25 s25 (fun j u hj => (H.ext 1 rfl).cell (K1.out j u hj)) ?_; exact hK _ H) | (refine op_cellsT (vs := [.int .i64 3, .int .i64 0, .int .i64 1, .int .i64 0]) rfl hk.1 a25 s25 (fun j u hj => (H.ext 1 rfl).cell (K2.out j u hj)) ?_; exact hK _ H)
        · clear ho; simp [know, dstAt, Region.binds] at hk
          first | (have e17 := hn 17 (by decide); simp only [e17, if_true] at H; obtain ⟨g, hv17, HS⟩ := sl_ex H; have p1 := hk.1; have p2 := hk.2.1.trans hv17; clear hk; go_simp; refine (sameB (a := [9]) (b := [9]) (RA.out.ext (HS.ext 1 rfl)) (row9 HS) HS).mono ?_; rintro e w' ⟨rfl, H⟩; rw [show (([9] : List UInt8) == [9]) = true from rfl]; exact hK _ (by simp only [e17, if_true]; exact At.imp H fun _ hh => ⟨g, hv17, hh⟩)) | (go_simp; exact hK _ H)
        · clear ho; simp [know, dstAt, Region.binds] at hk
          first | (have e17 := hn 17 (by decide); simp only [e17, if_true] at H; obtain ⟨g, hv17, HS⟩ := sl_ex H; have p1 := hk.1; have p2 := hk.2.1.trans hv17; clear hk; go_simp; refine (sameB (a := [9]) (b := [9]) (RA.out.ext (HS.ext 1 rfl)) (row9 HS) HS).mono ?_; rintro e w' ⟨rfl, H⟩; rw [show (([9] : List UInt8) == [9]) = true from rfl]; exact hK _ (by simp only [e17, if_true]; exact At.imp H fun _ hh => ⟨g, hv17, hh⟩)) | (go_simp; exact hK _ H)
        · clear ho; simp [know, dstAt, Region.binds] at hk
          first | (go_simp; exact hK _ H) | (have e17 := hn 17 (by decide); simp only [e17, if_true] at H; obtain ⟨g, hv17, HS⟩ := sl_ex H; have p1 := hk.1; have p2 := hk.2.1.trans hv17; clear hk; go_simp; refine (sameB (a := [9]) (b := [9]) (RA.out.ext (HS.ext 1 rfl)) (row9 HS) HS).mono ?_; rintro e w' ⟨rfl, H⟩; rw [show (([9] : List UInt8) == [9]) = true from rfl]; exact hK _ (by simp only [e17, if_true]; exact At.imp H fun _ hh => ⟨g, hv17, hh⟩))
        · clear ho; simp [know, dstAt, Region.binds] at hk
          first | (go_simp; exact hK _ H) | (have e17 := hn 17 (by decide); simp only [e17, if_true] at H; obtain ⟨g, hv17, HS⟩ := sl_ex H; have p1 := hk.1; have p2 := hk.2.1.trans hv17; clear hk; go_simp; refine (sameB (a := [9]) (b := [9]) (RA.out.ext (HS.ext 1 rfl)) (row9 HS) HS).mono ?_; rintro e w' ⟨rfl, H⟩; rw [show (([9] : List UInt8) == [9]) = true from rfl]; exact hK _ (by simp only [e17, if_true]; exact At.imp H fun _ hh => ⟨g, hv17, hh⟩))
        · have o8 := ho 8 (by kernel_rfl); clear ho; simp [know, dstAt, Region.binds] at hk o8
          first | (go_simp; exact hK _ H) | (have e17 := hn 17 (by decide); simp only [e17, if_true] at H; obtain ⟨g, hv17, HS⟩ := sl_ex H; have p1 := hk.1; have p2 := hk.2.1.trans hv17; clear hk; go_simp; refine (sameB (a := [9]) (b := [9]) (RA.out.ext (HS.ext 1 rfl)) (row9 HS) HS).mono ?_; rintro e w' ⟨rfl, H⟩; rw [show (([9] : List UInt8) == [9]) = true from rfl]; exact hK _ (by simp only [e17, if_true]; exact At.imp H fun _ hh => ⟨g, hv17, hh⟩))
        · clear ho; simp [know, dstAt, Region.binds] at hk
          first | (go_simp; exact hK _ H) | (have e17 := hn 17 (by decide); simp only [e17, if_true] at H; obtain ⟨g, hv17, HS⟩ := sl_ex H; have p1 := hk.1; have p2 := hk.2.1.trans hv17; clear hk; go_simp; refine (sameB (a := [9]) (b := [9]) (RA.out.ext (HS.ext 1 rfl)) (row9 HS) HS).mono ?_; rintro e w' ⟨rfl, H⟩; rw [show (([9] : List UInt8) == [9]) = true from rfl]; exact hK _ (by simp only [e17, if_true]; exact At.imp H fun _ hh => ⟨g, hv17, hh⟩))
        · clear ho; simp [know, dstAt, Region.binds] at hk
          first | (go_simp; exact hK _ H) | (have e17 := hn 17 (by decide); simp only [e17, if_true] at H; obtain ⟨g, hv17, HS⟩ := sl_ex H; have p1 := hk.1; have p2 := hk.2.1.trans hv17; clear hk; go_simp; refine (sameB (a := [9]) (b := [9]) (RA.out.ext (HS.ext 1 rfl)) (row9 HS) HS).mono ?_; rintro e w' ⟨rfl, H⟩; rw [show (([9] : List UInt8) == [9]) = true from rfl]; exact hK _ (by simp only [e17, if_true]; exact At.imp H fun _ hh => ⟨g, hv17, hh⟩))
        · clear ho; simp [know, dstAt, Region.binds] at hk
          (refine op_cellsT (vs := [.int .i64 0, .int .i64 0, .int .i64 0, .int .i64 0, .int .i64 4, .int .i64 1, .int .i64 2, .string ⟨#[]⟩, .int .i64 0, .int .i64 0, .int .i64 0, .int .i64 0, .int .i64 0, .bool true]) rfl hk.1 a69 s69 (fun j u hj => (H.ext 1 rfl).cell (I2.out j u hj)) ?_; exact hK _ H)
        · have o2 := ho 2 (by kernel_rfl); clear ho; simp [know, dstAt, Region.binds] at hk o2
          (refine op_cellsT (vs := [.int .i64 4, .int .i64 1, .int .i64 2, .string ⟨#[]⟩, .int .i64 0, .int .i64 0, .int .i64 0, .int .i64 0, .int .i64 0]) rfl o2 a32 s32 (fun j u hj => (H.ext 1 rfl).cell (F2.out j u hj)) ?_; exact hK _ H)
        · clear ho; simp [know, dstAt, Region.binds] at hk
          first | (have e17 := hn 17 (by decide); simp only [e17, if_true] at H; obtain ⟨g, hv17, HS⟩ := sl_ex H; have p1 := hk.1; have p2 := hk.2.1.trans hv17; clear hk; go_simp; refine (sameB (a := [9]) (b := [9]) (RA.out.ext (HS.ext 1 rfl)) (row9 HS) HS).mono ?_; rintro e w' ⟨rfl, H⟩; rw [show (([9] : List UInt8) == [9]) = true from rfl]; exact hK _ (by simp only [e17, if_true]; exact At.imp H fun _ hh => ⟨g, hv17, hh⟩)) | (go_simp; exact hK _ H)
        · clear ho; simp [know, dstAt, Region.binds] at hk
          first | (have e17 := hn 17 (by decide); simp only [e17, if_true] at H; obtain ⟨g, hv17, HS⟩ := sl_ex H; have p1 := hk.1; have p2 := hk.2.1.trans hv17; clear hk; go_simp; refine (sameB (a := [9]) (b := [9]) (RA.out.ext (HS.ext 1 rfl)) (row9 HS) HS).mono ?_; rintro e w' ⟨rfl, H⟩; rw [show (([9] : List UInt8) == [9]) = true from rfl]; exact hK _ (by simp only [e17, if_true]; exact At.imp H fun _ hh => ⟨g, hv17, hh⟩)) | (go_simp; exact hK _ H)
        · clear ho; simp [know, dstAt, Region.binds] at hk
          first | (go_simp; exact hK _ H) | (have e17 := hn 17 (by decide); simp only [e17, if_true] at H; obtain ⟨g, hv17, HS⟩ := sl_ex H; have p1 := hk.1; have p2 := hk.2.1.trans hv17; clear hk; go_simp; refine (sameB (a := [9]) (b := [9]) (RA.out.ext (HS.ext 1 rfl)) (row9 HS) HS).mono ?_; rintro e w' ⟨rfl, H⟩; rw [show (([9] : List UInt8) == [9]) = true from rfl]; exact hK _ (by simp only [e17, if_true]; exact At.imp H fun _ hh => ⟨g, hv17, hh⟩))
        · clear ho; simp [know, dstAt, Region.binds] at hk
          first | (go_simp; exact hK _ H) | (have e17 := hn 17 (by decide); simp only [e17, if_true] at H; obtain ⟨g, hv17, HS⟩ := sl_ex H; have p1 := hk.1; have p2 := hk.2.1.trans hv17; clear hk; go_simp; refine (sameB (a := [9]) (b := [9]) (RA.out.ext (HS.ext 1 rfl)) (row9 HS) HS).mono ?_; rintro e w' ⟨rfl, H⟩; rw [show (([9] : List UInt8) == [9]) = true from rfl]; exact hK _ (by simp only [e17, if_true]; exact At.imp H fun _ hh => ⟨g, hv17, hh⟩))
        · have o10 := ho 10 (by kernel_rfl); clear ho; simp [know, dstAt, Region.binds] at hk o10
          first | (go_simp; exact hK _ H) | (have e17 := hn 17 (by decide); simp only [e17, if_true] at H; obtain ⟨g, hv17, HS⟩ := sl_ex H; have p1 := hk.1; have p2 := hk.2.1.trans hv17; clear hk; go_simp; refine (sameB (a := [9]) (b := [9]) (RA.out.ext (HS.ext 1 rfl)) (row9 HS) HS).mono ?_; rintro e w' ⟨rfl, H⟩; rw [show (([9] : List UInt8) == [9]) = true from rfl]; exact hK _ (by simp only [e17, if_true]; exact At.imp H fun _ hh => ⟨g, hv17, hh⟩))
        · clear ho; simp [know, dstAt, Region.binds] at hk
          first | (go_simp; exact hK _ H) | (have e17 := hn 17 (by decide); simp only [e17, if_true] at H; obtain ⟨g, hv17, HS⟩ := sl_ex H; have p1 := hk.1; have p2 := hk.2.1.trans hv17; clear hk; go_simp; refine (sameB (a := [9]) (b := [9]) (RA.out.ext (HS.ext 1 rfl)) (row9 HS) HS).mono ?_; rintro e w' ⟨rfl, H⟩; rw [show (([9] : List UInt8) == [9]) = true from rfl]; exact hK _ (by simp only [e17, if_true]; exact At.imp H fun _ hh => ⟨g, hv17, hh⟩))
        · clear ho; simp [know, dstAt, Region.binds] at hk
          first | (go_simp; exact hK _ H) | (have e17 := hn 17 (by decide); simp only [e17, if_true] at H; obtain ⟨g, hv17, HS⟩ := sl_ex H; have p1 := hk.1; have p2 := hk.2.1.trans hv17; clear hk; go_simp; refine (sameB (a := [9]) (b := [9]) (RA.out.ext (HS.ext 1 rfl)) (row9 HS) HS).mono ?_; rintro e w' ⟨rfl, H⟩; rw [show (([9] : List UInt8) == [9]) = true from rfl]; exact hK _ (by simp only [e17, if_true]; exact At.imp H fun _ hh => ⟨g, hv17, hh⟩))
        · clear ho; simp [know, dstAt, Region.binds] at hk
          first | (have e17 := hn 17 (by decide); simp only [e17, if_true] at H; obtain ⟨g, hv17, HS⟩ := sl_ex H; have p1 := hk.1; have p2 := hk.2.1.trans hv17; clear hk; go_simp; refine (sameB (a := [9]) (b := [9]) (RA.out.ext (HS.ext 1 rfl)) (row9 HS) HS).mono ?_; rintro e w' ⟨rfl, H⟩; rw [show (([9] : List UInt8) == [9]) = true from rfl]; exact hK _ (by simp only [e17, if_true]; exact At.imp H fun _ hh => ⟨g, hv17, hh⟩)) | (go_simp; exact hK _ H)
      case ins =>
        iterate 17 (refine ⟨ins_pl rfl (fun _ _ _ => rfl), ?_⟩)
        refine ⟨ins_mk rfl (fun _ => rfl), ?_⟩
        iterate 33 (refine ⟨ins_pl rfl (fun val val' h => by first | rfl | ((have h17 := h 17 (by decide)); first | (simp only [h17]; done) | (simp only [h17]; rfl))), ?_⟩)
        exact trivial
      case jns =>
        iterate 17 (refine ⟨j_pl (fun _ _ _ => rfl), ?_⟩)
        refine ⟨j_mk rfl, ?_⟩
        iterate 33 (refine ⟨j_pl (fun _ _ _ => rfl), ?_⟩)
        exact trivial
      case fin =>
        intro E val w7 hE H
        have HF := H.sel 2 [1]
        clear hE H
        simp [putAll, Act.put]
        go_wp2_with fail
        go_ret
        exact ⟨rfl, HF.lift0 H6.out⟩
end
end Md
end Go.Proofs.Ytjobojgmadjmfaa
