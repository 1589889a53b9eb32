/-
  mend.haveBucket.
-/
import Derived.Test.YtjobojgmadjmfaaMdAsk
import Derived.Test.YtjobojgmadjmfaaEng
namespace Go.Proofs.Ytjobojgmadjmfaa
open Go.Hp Go.RowKit
set_option linter.unusedVariables false
set_option linter.unusedSimpArgs false
set_option maxRecDepth 100000
set_option maxHeartbeats 4000000
namespace Md

/-- What is decided of an instance, or nothing. -/
def decC (h : Hd) (n : Int) : List Value := (decS h n).getD zc

def lastS (h : Hd) (from_ : Int) : Int := if topS h ≤ from_ + 64 - 1 then topS h else from_ + 64 - 1

def cmdsS (h : Hd) (from_ : Int) (k : Nat) : List (List Value) := (List.range k).map fun (i : Nat) => decC h (from_ + (i : Int))

def haveB (m : Mg) (from_ : Int) (h : Hd) : Mg :=
  if from_ ≤ h.upto then { m with upto := h.upto, ents := h.ents, lasts := h.lasts, more := decide (h.upto < topS h) }
  else { m with sn := from_, cmds := cmdsS h from_ (lastS h from_ - from_ + 1).toNat, more := decide (lastS h from_ < topS h) }

/-- A message that is made of the base alone. -/
structure Base (m : Mg) : Prop where
  b : m.blk = []
  e : m.ents = []
  l : m.lasts = []
  c : m.cmds = []

theorem hold_nil {w0 w : World} {L : List HProp} (H : At w0 L w) : At w0 (Hold nl 0 [] :: L) w := hold_of own_nil0 H.addEmp

/-- A value that is a bucket of the call's own. -/
def TwH (h : Hd) (v : Value) : HProp := fun hp => v = .agg #[.int .i64 h.upto, comp v 1, comp v 2] ∧ Stars [Hold (comp v 1) h.ents.length h.ents.flatten, Hold (comp v 2) h.lasts.length h.lasts.flatten] hp

section
variable {w0 w : World} {L : List HProp}

def hb1 (m : Mg) (h : Hd) (E : Nat → Bool) (v : Value) (t : Int) : Array Value :=
  #[.int .i64 m.kind, .bool m.fc, .int .i64 m.fi, .bool m.tc, .int .i64 m.ti, .int .i64 m.op, .int .i64 m.rd, .int .i64 m.kk, .int .i64 m.ka, .int .i64 m.kb, .int .i64 m.kc,
    .int .i64 m.sn, .int .i64 m.sc, .int .i64 m.hn, .int .i64 m.hc, nl, .int .i64 m.cmd.k, .int .i64 m.cmd.cl, .int .i64 m.cmd.op, .string m.cmd.nm, .int .i64 m.cmd.f1, .int .i64 m.cmd.f2, .int .i64 m.cmd.n1, .int .i64 m.cmd.n2, .int .i64 m.cmd.sz,
    (if E 9 = true then .int .i64 h.upto else .int .i64 m.upto), (if E 9 = true then comp v 1 else nl), (if E 9 = true then comp v 2 else nl), nl, (if E 11 = true then .bool (decide (h.upto < t)) else .bool m.more)]

theorem top_bound {h : Hd} (hm : May h) : topS h ≤ 1048576 := by
  unfold topS
  cases hf : h.row.reverse.find? (·.dec) with
  | none => exact hm.u1
  | some p => exact hm.hi p (by simpa using List.mem_of_find?_eq_some hf)

theorem decC_len {h : Hd} (hok : h.Ok) (n : Int) : (decC h n).length = 9 := by
  unfold decC
  cases hd : decS h n with
  | none => rfl
  | some c => exact (decS_fits hok hd).len
theorem decC_one {h : Hd} (hok : h.Ok) (n : Int) : ∀ v ∈ decC h n, v.oneCell' = true := by
  unfold decC
  cases hd : decS h n with
  | none => simp [zc, Value.oneCell']
  | some c => exact (decS_fits hok hd).one
theorem decV_eq (h : Hd) (n : Int) : decV (decS h n) = .tuple #[.agg (decC h n).toArray, .bool (decS h n).isSome] := by
  unfold decC
  cases decS h n <;> rfl
theorem cmdsS_succ (h : Hd) (n : Int) (k : Nat) : (cmdsS h n (k + 1)).flatten = (cmdsS h n k).flatten ++ decC h (n + k) := by
  unfold cmdsS
  rw [List.range_succ, List.map_append, List.flatten_append]
  simp
theorem own_one {w0 w : World} {L : List HProp} {e : TypeId} {size n : Nat} {v : Value} {xs : List Value} (H : At w0 (OwnRow e size v n xs :: L) w) : v.oneCell' = true := row_one (own_own _ _ _ H)

theorem hb1_off {m : Mg} {h : Hd} {E E' : Nat → Bool} {v v' : Value} {t : Int} (h1 : E 9 = false) (h2 : E' 9 = false) (h3 : E' 11 = E 11) : hb1 m h E v t = hb1 m h E' v' t := by simp [hb1, h1, h2, h3]

theorem hb {m : Mg} (hbm : Base m) {h : Hd} {vd ve vl vr : Value} (hm : May h) (hok : h.Ok) (hsz : h.row.length ≤ 140737488355328) (hv : HdAt w h vd ve vl vr) (be : h.ents.length * 40 ≤ 140737488355328) (bl : h.lasts.length * 56 ≤ 140737488355328) (n : Int) (hn1 : 1 ≤ n) (hn2 : n ≤ 1048577) (H : At w0 L w) :
    Calls Try.prog 36 #[.agg (mgV m nl nl nl nl), .int .i64 n, .agg (hdV h vd ve vl vr)] w (MkPost w0 L (haveB m n h)) := by
  obtain ⟨W, rfl⟩ : ∃ W : World, W = w := ⟨_, rfl⟩
  have HF := At.of W
  have H0 := Lib.hid H
  have Hm := Lib.hid hm
  have Hv := Lib.hid hv
  have Hb := Lib.hid hbm
  clear hm hv H hbm
  unfold haveB
  simp only [mgV, hdV]
  by_cases hge : n ≤ h.upto
  · rw [if_pos hge]
    generalize ht : topS h = t
    have Ht := Lib.hid ht
    clear ht
    go_enter Try.func36, Try.ntmps36
    go_wp2_with (first | ((with_reducible refine k_box (T := 39) ?_); refine st_box rfl _ _ rfl _ rfl HF ?_; (clear HF; intro gm w HF K hK; simp only [Value.cells, Act.eval, Value.cells, Array.getD_eq_getD_getElem?, List.getElem?_toArray, List.getElem?_cons_succ, List.getElem?_cons_zero, Option.getD_some] at HF; go_simp)) | ((with_reducible refine k_box (T := 49) ?_); refine st_box rfl _ _ rfl _ rfl HF ?_; (clear HF; intro gh w HF K hK; simp only [Value.cells, Act.eval, Value.cells, Array.getD_eq_getD_getElem?, List.getElem?_toArray, List.getElem?_cons_succ, List.getElem?_cons_zero, Option.getD_some] at HF; go_simp)) | ((with_reducible refine k_alloc (T := 39) ?_); refine st_alloc rfl _ rfl _ z39 _ rfl HF ?_; (clear HF; intro gr w HF K hK; simp only [Value.cells] at HF; go_simp)) | ((with_reducible refine k_load (T := 39) ?_); (first | refine st_row rfl _ _ rfl _ rfl a39 30 s39 HF 0 rfl rfl ?_ | refine st_row rfl _ _ rfl _ rfl a39 30 s39 HF 1 rfl rfl ?_ | refine st_row rfl _ _ rfl _ rfl a39 30 s39 HF 2 rfl rfl ?_); (intro K hK; go_simp)) | ((with_reducible refine k_load (T := 39) ?_); (first | refine st_loads rfl _ _ rfl _ _ rfl a39 30 s39 HF 0 rfl ?_ ?_ | refine st_loads rfl _ _ rfl _ _ rfl a39 30 s39 HF 1 rfl ?_ ?_ | refine st_loads rfl _ _ rfl _ _ rfl a39 30 s39 HF 2 rfl ?_ ?_); (simp); (intro K hK; go_simp)) | ((with_reducible refine k_load (T := 49) ?_); (first | refine st_row rfl _ _ rfl _ rfl a49 7 s49 HF 0 rfl rfl ?_ | refine st_row rfl _ _ rfl _ rfl a49 7 s49 HF 1 rfl rfl ?_ | refine st_row rfl _ _ rfl _ rfl a49 7 s49 HF 2 rfl rfl ?_); (intro K hK; go_simp)) | ((with_reducible refine k_load (T := 49) ?_); (first | refine st_loads rfl _ _ rfl _ _ rfl a49 7 s49 HF 0 rfl ?_ ?_ | refine st_loads rfl _ _ rfl _ _ rfl a49 7 s49 HF 1 rfl ?_ ?_ | refine st_loads rfl _ _ rfl _ _ rfl a49 7 s49 HF 2 rfl ?_ ?_); (simp); (intro K hK; go_simp)) | ((with_reducible refine k_load ?_); (first | refine st_load rfl _ _ rfl _ _ rfl ?_ HF 0 rfl rfl ?_ | refine st_load rfl _ _ rfl _ _ rfl ?_ HF 1 rfl rfl ?_ | refine st_load rfl _ _ rfl _ _ rfl ?_ HF 2 rfl rfl ?_ | refine st_load rfl _ _ rfl _ _ rfl ?_ HF 3 rfl rfl ?_); (kernel_rfl); (intro K hK; go_simp)))
    refine (top hok hsz (Hv.out.r.ext (HF.ext 3 rfl)) HF).mono ?_
    rintro e w1 ⟨rfl, _, H1⟩
    replace HF := H1
    clear H1
    rw [Ht.out]
    go_wp2_with (first | ((with_reducible refine k_load ?_); (first | refine st_load rfl _ _ rfl _ _ rfl ?_ HF 0 rfl rfl ?_ | refine st_load rfl _ _ rfl _ _ rfl ?_ HF 1 rfl rfl ?_ | refine st_load rfl _ _ rfl _ _ rfl ?_ HF 2 rfl rfl ?_ | refine st_load rfl _ _ rfl _ _ rfl ?_ HF 3 rfl rfl ?_); (kernel_rfl); (intro K hK; go_simp)))
    apply wp_region_eff [2, 9, 11] (fun i => (#[[], [], [], [], [], [], [], [], [], [2], [], []] : Array (List Nat)).getD i []) (fun val i => ((_ :: _ :: val 2 :: _ :: _ :: _ :: _ :: _ :: _ :: val 9 :: _ :: val 11 :: []) : List Value).toArray.getD i undef) (fun E val => At W (Blk gm (.cells (hb1 m h E (val 2) t) 39 (0, 0)) :: Blk gh (.cells #[.int .i64 h.sn, .int .i64 h.sc, vd, .int .i64 h.upto, ve, vl, vr] 49 (0, 0)) :: Blk gr (.cells #[.int .i64 0, .bool false, .int .i64 0, .bool false, .int .i64 0, .int .i64 0, .int .i64 0, .int .i64 0, .int .i64 0, .int .i64 0, .int .i64 0, .int .i64 0, .int .i64 0, .int .i64 0, .int .i64 0, .slice none 0 0, .int .i64 0, .int .i64 0, .int .i64 0, .string ⟨#[]⟩, .int .i64 0, .int .i64 0, .int .i64 0, .int .i64 0, .int .i64 0, .int .i64 0, .slice none 0 0, .slice none 0 0, .slice none 0 0, .bool false] 39 (0, 0)) :: (if E 2 = true then TwH h (val 2) else emp) :: Arg W :: [])) (by kernel_rfl) (by kernel_rfl) (by kernel_rfl) (by kernel_rfl) ((HF.addEmp).sel 5 [3, 2, 1, 0, 4])
    case step =>
      iterate 2 (refine ⟨eff_pl rfl (fun _ => by rfl) fun E val hn T ds w K H hk ho hK => ?_, ?_⟩; rotate_left)
      refine ⟨eff_mk rfl (fun _ => by rfl) fun E val hE0 hcl hn T ds w K H hk ho hK => ?_, ?_⟩; rotate_left
      iterate 6 (refine ⟨eff_pl rfl (fun _ => by rfl) fun E val hn T ds w K H hk ho hK => ?_, ?_⟩; rotate_left)
      refine ⟨eff_mk rfl (fun _ => by rfl) fun E val hE0 hcl hn T ds w K H hk ho hK => ?_, ?_⟩; rotate_left
      refine ⟨eff_pl rfl (fun _ => by rfl) fun E val hn T ds w K H hk ho hK => ?_, ?_⟩; rotate_left
      refine ⟨eff_mk rfl (fun _ => by rfl) fun E val hE0 hcl hn T ds w K H hk ho hK => ?_, ?_⟩; rotate_left
      exact trivial
      · have o5 := ho 5 (by kernel_rfl); clear ho; simp [know, dstAt, Region.binds] at hk o5; go_simp; exact hK _ H
      · clear ho; simp [know, dstAt, Region.binds] at hk
        (refine op_loadsT (T := 36) (n := 3) rfl hk a36 s36 H 1 rfl rfl rfl ?_; exact hK _ H)
      · clear ho; simp [know, dstAt, Region.binds] at hk
        (have q9 : E 9 = false := (by cases h : E 9 with | false => rfl | true => (have h2 := hcl 9 (by decide) h 2 (by decide); rw [hE0] at h2; cases h2))); (simp only [hE0, Bool.false_eq_true, if_false] at H); go_simp; refine (twin (Hv.out.e.ext (H.ext 4 rfl)) (Hv.out.l.ext (H.ext 4 rfl)) hok.ents hok.lasts be bl (H.sel 4 [0, 1, 2])).mono ?_; rintro e w' ⟨ve', vl', rfl, H⟩; refine hK _ _ ?_; have q9' : updE E 2 9 = false := q9; rw [hb1_off (E := updE E 2) (E' := E) (v' := val 2) q9' q9 rfl]; exact (At.imp (At.fold (M := [_, _]) H) fun _ hh => ⟨rfl, hh⟩ : At W (TwH h (.agg #[.int .i64 h.upto, ve', vl']) :: _) w').sel 5 [1, 2, 3, 0, 4]
      · have o7 := ho 7 (by kernel_rfl); clear ho; simp [know, dstAt, Region.binds] at hk o7; go_simp; exact hK _ H
      · have o5 := ho 5 (by kernel_rfl); clear ho; simp [know, dstAt, Region.binds] at hk o5; go_simp; exact hK _ H
      · clear ho; simp [know, dstAt, Region.binds] at hk; go_simp; exact hK _ H
      · clear ho; simp [know, dstAt, Region.binds] at hk
        (refine op_loadT rfl hk ?_ H 1 rfl rfl ?_; (kernel_rfl); exact hK _ H)
      · clear ho; simp [know, dstAt, Region.binds] at hk; go_simp; exact hK _ H
      · have o3 := ho 3 (by kernel_rfl); clear ho; simp [know, dstAt, Region.binds] at hk o3; go_simp; exact hK _ H
      · clear ho; simp [know, dstAt, Region.binds] at hk
        (have e2 := hn 2 (by decide)); (simp only [e2, if_true] at H); (obtain ⟨hv2, HT⟩ := At.and (H.pick 3 rfl)); (replace HT := At.flat HT); refine op_storesT rfl hk.1 (hk.2.1.trans hv2) ?_ s36 rfl H 0 rfl (show 25 + 3 ≤ 30 by decide) ?_; (intro v hv; simp at hv; rcases hv with rfl | rfl | rfl; (rfl); (exact row_one (hold_at HT)); (exact row_one (hold_at (HT.pick 1 rfl)))); (intro w' H2; refine hK _ _ ?_; have t2 : updE E 9 2 = true := e2; have e : ((hb1 m h E (val 2) t).toList.take 25 ++ #[Value.int .i64 h.upto, comp (val 2) 1, comp (val 2) 2].toList ++ (hb1 m h E (val 2) t).toList.drop (25 + 3)).toArray = hb1 m h (updE E 9) (val 2) t := (by simp [hb1, updE, hE0]); replace H2 : At W (Blk gm (.cells ((hb1 m h E (val 2) t).toList.take 25 ++ #[Value.int .i64 h.upto, comp (val 2) 1, comp (val 2) 2].toList ++ (hb1 m h E (val 2) t).toList.drop (25 + 3)).toArray 39 (0, 0)) :: _) w' := H2; rw [e] at H2; simp only [t2, if_true]; exact H2)
      · have o3 := ho 3 (by kernel_rfl); clear ho; simp [know, dstAt, Region.binds] at hk o3; go_simp; exact hK _ H
      · clear ho; simp [know, dstAt, Region.binds] at hk
        refine op_storeT rfl hk.1 hk.2.1 rfl (by kernel_rfl) H 0 rfl (show 29 < 30 by decide) ?_; (intro w' H2; refine hK _ _ ?_; have e : (hb1 m h E (val 2) t).setIfInBounds 29 (.bool (decide (h.upto < t))) = hb1 m h (updE E 11) (val 2) t := (by simp [hb1, updE, hE0]); replace H2 : At W (Blk gm (.cells ((hb1 m h E (val 2) t).setIfInBounds 29 (.bool (decide (h.upto < t)))) 39 (0, 0)) :: _) w' := H2; rw [e] at H2; exact H2)
    case ins =>
      iterate 2 (refine ⟨ins_pl rfl (fun _ _ _ => rfl), ?_⟩)
      refine ⟨ins_mk rfl (fun _ => rfl), ?_⟩
      iterate 6 (refine ⟨ins_pl rfl (fun _ _ _ => rfl), ?_⟩)
      refine ⟨ins_mk rfl (fun _ => rfl), ?_⟩
      refine ⟨ins_pl rfl (fun _ _ _ => rfl), ?_⟩
      refine ⟨ins_mk rfl (fun _ => rfl), ?_⟩
      exact trivial
    case jns =>
      iterate 2 (refine ⟨j_pl (fun _ _ _ => rfl), ?_⟩)
      refine ⟨j_mk rfl, ?_⟩
      iterate 6 (refine ⟨j_pl (fun _ _ _ => rfl), ?_⟩)
      refine ⟨j_mk rfl, ?_⟩
      refine ⟨j_pl (fun _ _ _ => rfl), ?_⟩
      refine ⟨j_mk rfl, ?_⟩
      exact trivial
    case fin =>
      intro E val w2 hE H
      have e2 := hE 2 (by decide)
      have e9 := hE 9 (by decide)
      have e11 := hE 11 (by decide)
      simp only [hb1, e2, e9, e11, if_true] at H
      obtain ⟨hv2, HT1⟩ := At.and (H.pick 3 rfl)
      have HT := At.flat HT1
      clear HT1 H HF hE e2 e9 e11
      generalize comp (val 2) 1 = x1 at *
      generalize comp (val 2) 2 = x2 at *
      have o1 := row_one (hold_at HT)
      have o2 := row_one (hold_at (HT.pick 1 rfl))
      simp [putAll, Act.put, hv2]
      clear hv2
      replace HF : At W (Hold x1 h.ents.length h.ents.flatten :: Hold x2 h.lasts.length h.lasts.flatten :: Blk gm _ :: Blk gh _ :: Blk gr _ :: Arg W :: []) w2 := HT
      clear HT
      go_wp2_with (first | ((with_reducible refine k_load (T := 39) ?_); refine st_row rfl _ _ rfl _ rfl a39 30 s39 HF 2 rfl rfl ?_; (intro K hK; go_simp)) | ((with_reducible refine k_load (T := 39) ?_); refine st_loads rfl _ _ rfl _ _ rfl a39 30 s39 HF 2 rfl ?_ ?_; (simp); (intro K hK; go_simp)) | ((with_reducible refine k_store (T := 39) ?_); refine st_put rfl _ _ _ rfl _ rfl _ rfl ?_ s39 HF 4 rfl rfl ?_; (repeat' (first | exact List.forall_mem_nil _ | refine List.forall_mem_cons.2 ⟨(by first | rfl | assumption), ?_⟩)); (clear HF; intro w HF K hK; simp only [List.set_cons_zero, List.set_cons_succ, Act.eval, Value.cells, Array.getD_eq_getD_getElem?, List.getElem?_toArray, List.getElem?_cons_succ, List.getElem?_cons_zero, Option.getD_some] at HF; go_simp)))
      refine bodyPost_ret (results_cell rfl rfl a39 s39 (HF.get 4 rfl) rfl) rfl ?_
      have hbb := Hb.out.b
      have hbc := Hb.out.c
      refine ⟨nl, x1, x2, nl, rfl, ?_⟩
      unfold msgR
      simp only [hbb, hbc]
      exact (show At W ([Hold nl 0 [], Hold x1 h.ents.length h.ents.flatten, Hold x2 h.lasts.length h.lasts.flatten, Hold nl 0 []] ++ [Arg W]) _ from (hold_nil (hold_nil HF)).sel 8 [0, 2, 3, 1, 7]).lift H0.out
  · rw [if_neg hge]
    by_cases htl : topS h ≤ n + 64 - 1
    · have hLV : lastS h n = topS h := if_pos htl
      have HLV := Lib.hid hLV
      rw [hLV]
      have hK1 : topS h ≤ n + 63 := by omega
      have hK2 : topS h ≤ topS h := by omega
      clear hLV
      have hTb := Lib.hid (top_bound Hm.out)
      have hT1 : topS h ≤ 1048576 := hTb.out
      generalize hKK : (topS h - n + 1).toNat = KK
      have HKK := Lib.hid (show (KK : Int) = if n ≤ topS h then topS h - n + 1 else 0 by rw [← hKK]; split <;> omega)
      clear hKK
      go_enter Try.func36, Try.ntmps36
      go_wp2_with (first | ((with_reducible refine k_box (T := 39) ?_); refine st_box rfl _ _ rfl _ rfl HF ?_; (clear HF; intro gm w HF K hK; simp only [Value.cells, Act.eval, Value.cells, Array.getD_eq_getD_getElem?, List.getElem?_toArray, List.getElem?_cons_succ, List.getElem?_cons_zero, Option.getD_some] at HF; go_simp)) | ((with_reducible refine k_box (T := 49) ?_); refine st_box rfl _ _ rfl _ rfl HF ?_; (clear HF; intro gh w HF K hK; simp only [Value.cells, Act.eval, Value.cells, Array.getD_eq_getD_getElem?, List.getElem?_toArray, List.getElem?_cons_succ, List.getElem?_cons_zero, Option.getD_some] at HF; go_simp)) | ((with_reducible refine k_alloc (T := 39) ?_); refine st_alloc rfl _ rfl _ z39 _ rfl HF ?_; (clear HF; intro gr w HF K hK; simp only [Value.cells] at HF; go_simp)) | ((with_reducible refine k_load (T := 39) ?_); (first | refine st_row rfl _ _ rfl _ rfl a39 30 s39 HF 0 rfl rfl ?_ | refine st_row rfl _ _ rfl _ rfl a39 30 s39 HF 1 rfl rfl ?_ | refine st_row rfl _ _ rfl _ rfl a39 30 s39 HF 2 rfl rfl ?_); (intro K hK; go_simp)) | ((with_reducible refine k_load (T := 39) ?_); (first | refine st_loads rfl _ _ rfl _ _ rfl a39 30 s39 HF 0 rfl ?_ ?_ | refine st_loads rfl _ _ rfl _ _ rfl a39 30 s39 HF 1 rfl ?_ ?_ | refine st_loads rfl _ _ rfl _ _ rfl a39 30 s39 HF 2 rfl ?_ ?_); (simp); (intro K hK; go_simp)) | ((with_reducible refine k_load (T := 49) ?_); (first | refine st_row rfl _ _ rfl _ rfl a49 7 s49 HF 0 rfl rfl ?_ | refine st_row rfl _ _ rfl _ rfl a49 7 s49 HF 1 rfl rfl ?_ | refine st_row rfl _ _ rfl _ rfl a49 7 s49 HF 2 rfl rfl ?_); (intro K hK; go_simp)) | ((with_reducible refine k_load (T := 49) ?_); (first | refine st_loads rfl _ _ rfl _ _ rfl a49 7 s49 HF 0 rfl ?_ ?_ | refine st_loads rfl _ _ rfl _ _ rfl a49 7 s49 HF 1 rfl ?_ ?_ | refine st_loads rfl _ _ rfl _ _ rfl a49 7 s49 HF 2 rfl ?_ ?_); (simp); (intro K hK; go_simp)) | ((with_reducible refine k_load ?_); (first | refine st_load rfl _ _ rfl _ _ rfl ?_ HF 0 rfl rfl ?_ | refine st_load rfl _ _ rfl _ _ rfl ?_ HF 1 rfl rfl ?_ | refine st_load rfl _ _ rfl _ _ rfl ?_ HF 2 rfl rfl ?_ | refine st_load rfl _ _ rfl _ _ rfl ?_ HF 3 rfl rfl ?_); (kernel_rfl); (intro K hK; go_simp)))
      refine (top hok hsz (Hv.out.r.ext (HF.ext 3 rfl)) HF).mono ?_
      rintro e w1 ⟨rfl, _, H1⟩
      replace HF := H1
      clear H1
      go_wp2_with (first | ((with_reducible refine k_load (T := 49) ?_); refine st_row rfl _ _ rfl _ rfl a49 7 s49 HF 1 rfl rfl ?_; (intro K hK; go_simp)) | ((with_reducible refine k_load (T := 49) ?_); refine st_loads rfl _ _ rfl _ _ rfl a49 7 s49 HF 1 rfl ?_ ?_; (simp); (intro K hK; go_simp)) | ((with_reducible refine k_load ?_); (first | refine st_load rfl _ _ rfl _ _ rfl ?_ HF 0 rfl rfl ?_ | refine st_load rfl _ _ rfl _ _ rfl ?_ HF 1 rfl rfl ?_ | refine st_load rfl _ _ rfl _ _ rfl ?_ HF 2 rfl rfl ?_ | refine st_load rfl _ _ rfl _ _ rfl ?_ HF 3 rfl rfl ?_); (kernel_rfl); (intro K hK; go_simp)))
      refine (dec h vd ve vl vr HF).mono ?_
      rintro e w2 ⟨gd, rfl, H1⟩
      replace HF := H1
      clear H1
      go_wp2_with fail
      replace HF : At W (OwnRow 32 9 nl 0 (cmdsS h n 0).flatten :: Blk gm (.cells ((fun vc : Value => (#[.int .i64 m.kind, .bool m.fc, .int .i64 m.fi, .bool m.tc, .int .i64 m.ti, .int .i64 m.op, .int .i64 m.rd, .int .i64 m.kk, .int .i64 m.ka, .int .i64 m.kb, .int .i64 m.kc, .int .i64 m.sn, .int .i64 m.sc, .int .i64 m.hn, .int .i64 m.hc, nl, .int .i64 m.cmd.k, .int .i64 m.cmd.cl, .int .i64 m.cmd.op, .string m.cmd.nm, .int .i64 m.cmd.f1, .int .i64 m.cmd.f2, .int .i64 m.cmd.n1, .int .i64 m.cmd.n2, .int .i64 m.cmd.sz, .int .i64 m.upto, nl, nl, vc, .bool m.more] : Array Value)) nl) 39 (0, 0)) :: HdBlk gd h vd ve vl vr :: Blk gr (.cells #[.int .i64 0, .bool false, .int .i64 0, .bool false, .int .i64 0, .int .i64 0, .int .i64 0, .int .i64 0, .int .i64 0, .int .i64 0, .int .i64 0, .int .i64 0, .int .i64 0, .int .i64 0, .int .i64 0, .slice none 0 0, .int .i64 0, .int .i64 0, .int .i64 0, .string ⟨#[]⟩, .int .i64 0, .int .i64 0, .int .i64 0, .int .i64 0, .int .i64 0, .int .i64 0, .slice none 0 0, .slice none 0 0, .slice none 0 0, .bool false] 39 (0, 0)) :: Arg W :: []) w2 := (own_nil HF 32 9).sel 6 [0, 4, 1, 2, 5]
      dsimp only at HF
      go_loopw [10] (fun a wr => ∃ k : Nat, a = .int .i64 (n + k) ∧ k ≤ KK ∧ ∃ vc, At W (OwnRow 32 9 vc k (cmdsS h n k).flatten :: Blk gm (.cells #[.int .i64 m.kind, .bool m.fc, .int .i64 m.fi, .bool m.tc, .int .i64 m.ti, .int .i64 m.op, .int .i64 m.rd, .int .i64 m.kk, .int .i64 m.ka, .int .i64 m.kb, .int .i64 m.kc, .int .i64 m.sn, .int .i64 m.sc, .int .i64 m.hn, .int .i64 m.hc, nl, .int .i64 m.cmd.k, .int .i64 m.cmd.cl, .int .i64 m.cmd.op, .string m.cmd.nm, .int .i64 m.cmd.f1, .int .i64 m.cmd.f2, .int .i64 m.cmd.n1, .int .i64 m.cmd.n2, .int .i64 m.cmd.sz, .int .i64 m.upto, nl, nl, vc, .bool m.more] 39 (0, 0)) :: HdBlk gd h vd ve vl vr :: Blk gr (.cells #[.int .i64 0, .bool false, .int .i64 0, .bool false, .int .i64 0, .int .i64 0, .int .i64 0, .int .i64 0, .int .i64 0, .int .i64 0, .int .i64 0, .int .i64 0, .int .i64 0, .int .i64 0, .int .i64 0, .slice none 0 0, .int .i64 0, .int .i64 0, .int .i64 0, .string ⟨#[]⟩, .int .i64 0, .int .i64 0, .int .i64 0, .int .i64 0, .int .i64 0, .int .i64 0, .slice none 0 0, .slice none 0 0, .slice none 0 0, .bool false] 39 (0, 0)) :: Arg W :: []) wr) (fun a _ => KK - (intOf a - n).toNat)
      case atStart => exact ⟨0, by simp, Nat.zero_le _, nl, HF⟩
      case round =>
        clear HF
        obtain ⟨k, rfl, hk, vc, HF⟩ := hrel
        have hkk := HKK.out
        by_cases hlt : k < KK
        · have g1 : n + k ≤ topS h := by split at hkk <;> omega
          have b1 : n + k ≤ 1048576 := by omega
          clear hkk
          go_wp2_with fail
          refine (dec1 Hm.out.rise hok hsz (Hv.out.r.ext (HF.ext 4 rfl)) (n + k) (HF.pick 2 rfl)).mono ?_
          rintro e w3 ⟨rfl, _, H1⟩
          rw [decV_eq]
          replace HF : At W (OwnRow 32 9 vc k (cmdsS h n k).flatten :: Blk gm (.cells #[.int .i64 m.kind, .bool m.fc, .int .i64 m.fi, .bool m.tc, .int .i64 m.ti, .int .i64 m.op, .int .i64 m.rd, .int .i64 m.kk, .int .i64 m.ka, .int .i64 m.kb, .int .i64 m.kc, .int .i64 m.sn, .int .i64 m.sc, .int .i64 m.hn, .int .i64 m.hc, nl, .int .i64 m.cmd.k, .int .i64 m.cmd.cl, .int .i64 m.cmd.op, .string m.cmd.nm, .int .i64 m.cmd.f1, .int .i64 m.cmd.f2, .int .i64 m.cmd.n1, .int .i64 m.cmd.n2, .int .i64 m.cmd.sz, .int .i64 m.upto, nl, nl, vc, .bool m.more] 39 (0, 0)) :: HdBlk gd h vd ve vl vr :: Blk gr (.cells #[.int .i64 0, .bool false, .int .i64 0, .bool false, .int .i64 0, .int .i64 0, .int .i64 0, .int .i64 0, .int .i64 0, .int .i64 0, .int .i64 0, .int .i64 0, .int .i64 0, .int .i64 0, .int .i64 0, .slice none 0 0, .int .i64 0, .int .i64 0, .int .i64 0, .string ⟨#[]⟩, .int .i64 0, .int .i64 0, .int .i64 0, .int .i64 0, .int .i64 0, .int .i64 0, .slice none 0 0, .slice none 0 0, .slice none 0 0, .bool false] 39 (0, 0)) :: Arg W :: []) w3 := H1.sel 5 [1, 2, 0, 3, 4]
          clear H1
          have Hl := Lib.hid (decC_len hok (n + k))
          have Ho := Lib.hid (decC_one hok (n + k))
          have Hs := Lib.hid (cmdsS_succ h n k)
          generalize decC h (n + k) = c at *
          generalize (decS h (n + k)).isSome = bb at *
          obtain ⟨va, vcap, hvc, _⟩ := own_value HF
          subst hvc
          go_wp2_with (first | ((with_reducible refine k_alloc ?_); refine st_alloc rfl _ rfl (.agg zc.toArray) ?_ zc.toArray rfl HF ?_; (kernel_rfl); (clear HF; intro gc w4 HF K hK; go_simp))        | ((with_reducible refine k_store (T := 32) ?_); refine st_put rfl _ _ _ rfl _ rfl _ rfl ?_ ?_ HF 0 rfl ?_ ?_; (exact Ho.out); (rw [List.size_toArray, Hl.out]; exact s32); (rw [List.size_toArray, Hl.out]; rfl); (clear HF; intro w5 HF K hK; go_simp))        | ((with_reducible refine k_load (T := 32) ?_); refine st_row rfl _ _ rfl _ rfl a32 9 s32 HF 0 rfl ?_ ?_; (rw [List.size_toArray, Hl.out]); (intro K hK; go_simp))        | ((with_reducible refine k_load (T := 37) ?_); refine st_load rfl _ _ rfl _ _ rfl ?_ HF 2 rfl rfl ?_; (kernel_rfl); (intro K hK; go_simp))        | ((with_reducible refine k_lit ?_); refine st_lit1 rfl _ _ rfl c.toArray rfl 32 Try.underlying37 9 s32 zc.toArray ?_ rfl ?_ (by decide) (by decide) HF ?_; (kernel_rfl); (rw [List.size_toArray, Hl.out]); (clear HF; intro gl w6 HF K hK; replace HF := HF.pick 2 rfl; go_simp))        | ((with_reducible refine k_builtin ?_); refine st_append rfl _ _ _ rfl 32 Try.underlying37 9 s32 80 ?_ (.agg zc.toArray) ?_ rfl _ _ _ rfl HF (some ⟨gl, 0, none⟩) 1 1 c rfl ?_ ?_ Ho.out ?_ ?_ ?_; (kernel_rfl); (kernel_rfl); (rw [Hl.out]); (intro _; exact ⟨_, rfl, cells_of (HF.get 1 rfl)⟩); (simp only [maxLen]; omega); (omega); (clear HF; intro vc2 w7 HF K hK; have ho2 := own_one HF; go_simp))        | ((with_reducible refine k_store (T := 37) ?_); refine st_store rfl _ _ _ rfl _ _ rfl _ rfl ho2 ?_ HF 3 rfl ?_ ?_; (kernel_rfl); (simp); (clear HF; intro w8 HF K hK; simp only [List.set_cons_zero, List.set_cons_succ, List.setIfInBounds_toArray, Act.eval, Value.cells, Array.getD_eq_getD_getElem?, List.getElem?_toArray, List.getElem?_cons_succ, List.getElem?_cons_zero, Option.getD_some] at HF; go_simp)))
          go_roundw
          case rel =>
            rw [← Hs.out] at HF
            exact ⟨k + 1, by go_num, by omega, _, HF.sel 7 [0, 3, 4, 5, 6]⟩
          case measure => simp [intOf]; omega
        · have hkK : k = KK := by omega
          have g1 : ¬ n + k ≤ topS h := by split at hkk <;> omega
          clear hkk
          obtain ⟨va, vcap, hvc, _⟩ := own_value HF
          subst hvc
          have HkK := Lib.hid hkK
          clear hkK
          go_wp2_with (first | ((with_reducible refine k_store ?_); refine st_store rfl _ _ _ rfl _ _ rfl _ rfl rfl ?_ HF 1 rfl ?_ ?_; (kernel_rfl); (simp); (clear HF; intro w HF K hK; simp only [List.set_cons_zero, List.set_cons_succ, List.setIfInBounds_toArray, Act.eval, Value.cells, Array.getD_eq_getD_getElem?, List.getElem?_toArray, List.getElem?_cons_succ, List.getElem?_cons_zero, Option.getD_some] at HF; go_simp)) | ((with_reducible refine k_load (T := 39) ?_); refine st_row rfl _ _ rfl _ rfl a39 30 s39 HF 1 rfl rfl ?_; (intro K hK; go_simp)) | ((with_reducible refine k_load (T := 39) ?_); refine st_loads rfl _ _ rfl _ _ rfl a39 30 s39 HF 1 rfl ?_ ?_; (simp); (intro K hK; go_simp)) | ((with_reducible refine k_store (T := 39) ?_); refine st_put rfl _ _ _ rfl _ rfl _ rfl ?_ s39 HF 3 rfl rfl ?_; (repeat' (first | exact List.forall_mem_nil _ | refine List.forall_mem_cons.2 ⟨(by first | rfl | assumption), ?_⟩)); (clear HF; intro w HF K hK; simp only [List.set_cons_zero, List.set_cons_succ, Act.eval, Value.cells, Array.getD_eq_getD_getElem?, List.getElem?_toArray, List.getElem?_cons_succ, List.getElem?_cons_zero, Option.getD_some] at HF; go_simp)))
          refine bodyPost_ret (results_cell rfl rfl a39 s39 (HF.get 3 rfl) rfl) rfl ?_
          have hbb := Hb.out.b
          have hbe := Hb.out.e
          have hbl := Hb.out.l
          have hlen : (cmdsS h n KK).length = KK := by simp [cmdsS]
          rw [HkK.out] at HF ⊢
          refine ⟨nl, nl, nl, .slice va KK vcap, rfl, ?_⟩
          unfold msgR
          simp only [hbb, hbe, hbl, hlen]
          exact (show At W ([Hold nl 0 [], Hold nl 0 [], Hold nl 0 [], Hold (.slice va KK vcap) KK (cmdsS h n KK).flatten] ++ [Arg W]) _ from (hold_nil (hold_nil (hold_nil (hold_of own_own HF)))).sel 8 [0, 1, 2, 3, 7]).lift H0.out
    · have hLV : lastS h n = n + 64 - 1 := if_neg htl
      have HLV := Lib.hid hLV
      rw [hLV]
      have hK1 : n + 64 - 1 ≤ n + 63 := by omega
      have hK2 : n + 64 - 1 ≤ topS h := by omega
      clear hLV
      have hTb := Lib.hid (top_bound Hm.out)
      have hT1 : topS h ≤ 1048576 := hTb.out
      generalize hKK : (n + 64 - 1 - n + 1).toNat = KK
      have HKK := Lib.hid (show (KK : Int) = if n ≤ n + 64 - 1 then n + 64 - 1 - n + 1 else 0 by rw [← hKK]; split <;> omega)
      clear hKK
      go_enter Try.func36, Try.ntmps36
      go_wp2_with (first | ((with_reducible refine k_box (T := 39) ?_); refine st_box rfl _ _ rfl _ rfl HF ?_; (clear HF; intro gm w HF K hK; simp only [Value.cells, Act.eval, Value.cells, Array.getD_eq_getD_getElem?, List.getElem?_toArray, List.getElem?_cons_succ, List.getElem?_cons_zero, Option.getD_some] at HF; go_simp)) | ((with_reducible refine k_box (T := 49) ?_); refine st_box rfl _ _ rfl _ rfl HF ?_; (clear HF; intro gh w HF K hK; simp only [Value.cells, Act.eval, Value.cells, Array.getD_eq_getD_getElem?, List.getElem?_toArray, List.getElem?_cons_succ, List.getElem?_cons_zero, Option.getD_some] at HF; go_simp)) | ((with_reducible refine k_alloc (T := 39) ?_); refine st_alloc rfl _ rfl _ z39 _ rfl HF ?_; (clear HF; intro gr w HF K hK; simp only [Value.cells] at HF; go_simp)) | ((with_reducible refine k_load (T := 39) ?_); (first | refine st_row rfl _ _ rfl _ rfl a39 30 s39 HF 0 rfl rfl ?_ | refine st_row rfl _ _ rfl _ rfl a39 30 s39 HF 1 rfl rfl ?_ | refine st_row rfl _ _ rfl _ rfl a39 30 s39 HF 2 rfl rfl ?_); (intro K hK; go_simp)) | ((with_reducible refine k_load (T := 39) ?_); (first | refine st_loads rfl _ _ rfl _ _ rfl a39 30 s39 HF 0 rfl ?_ ?_ | refine st_loads rfl _ _ rfl _ _ rfl a39 30 s39 HF 1 rfl ?_ ?_ | refine st_loads rfl _ _ rfl _ _ rfl a39 30 s39 HF 2 rfl ?_ ?_); (simp); (intro K hK; go_simp)) | ((with_reducible refine k_load (T := 49) ?_); (first | refine st_row rfl _ _ rfl _ rfl a49 7 s49 HF 0 rfl rfl ?_ | refine st_row rfl _ _ rfl _ rfl a49 7 s49 HF 1 rfl rfl ?_ | refine st_row rfl _ _ rfl _ rfl a49 7 s49 HF 2 rfl rfl ?_); (intro K hK; go_simp)) | ((with_reducible refine k_load (T := 49) ?_); (first | refine st_loads rfl _ _ rfl _ _ rfl a49 7 s49 HF 0 rfl ?_ ?_ | refine st_loads rfl _ _ rfl _ _ rfl a49 7 s49 HF 1 rfl ?_ ?_ | refine st_loads rfl _ _ rfl _ _ rfl a49 7 s49 HF 2 rfl ?_ ?_); (simp); (intro K hK; go_simp)) | ((with_reducible refine k_load ?_); (first | refine st_load rfl _ _ rfl _ _ rfl ?_ HF 0 rfl rfl ?_ | refine st_load rfl _ _ rfl _ _ rfl ?_ HF 1 rfl rfl ?_ | refine st_load rfl _ _ rfl _ _ rfl ?_ HF 2 rfl rfl ?_ | refine st_load rfl _ _ rfl _ _ rfl ?_ HF 3 rfl rfl ?_); (kernel_rfl); (intro K hK; go_simp)))
      refine (top hok hsz (Hv.out.r.ext (HF.ext 3 rfl)) HF).mono ?_
      rintro e w1 ⟨rfl, _, H1⟩
      replace HF := H1
      clear H1
      go_wp2_with (first | ((with_reducible refine k_load (T := 49) ?_); refine st_row rfl _ _ rfl _ rfl a49 7 s49 HF 1 rfl rfl ?_; (intro K hK; go_simp)) | ((with_reducible refine k_load (T := 49) ?_); refine st_loads rfl _ _ rfl _ _ rfl a49 7 s49 HF 1 rfl ?_ ?_; (simp); (intro K hK; go_simp)) | ((with_reducible refine k_load ?_); (first | refine st_load rfl _ _ rfl _ _ rfl ?_ HF 0 rfl rfl ?_ | refine st_load rfl _ _ rfl _ _ rfl ?_ HF 1 rfl rfl ?_ | refine st_load rfl _ _ rfl _ _ rfl ?_ HF 2 rfl rfl ?_ | refine st_load rfl _ _ rfl _ _ rfl ?_ HF 3 rfl rfl ?_); (kernel_rfl); (intro K hK; go_simp)))
      refine (dec h vd ve vl vr HF).mono ?_
      rintro e w2 ⟨gd, rfl, H1⟩
      replace HF := H1
      clear H1
      go_wp2_with fail
      replace HF : At W (OwnRow 32 9 nl 0 (cmdsS h n 0).flatten :: Blk gm (.cells ((fun vc : Value => (#[.int .i64 m.kind, .bool m.fc, .int .i64 m.fi, .bool m.tc, .int .i64 m.ti, .int .i64 m.op, .int .i64 m.rd, .int .i64 m.kk, .int .i64 m.ka, .int .i64 m.kb, .int .i64 m.kc, .int .i64 m.sn, .int .i64 m.sc, .int .i64 m.hn, .int .i64 m.hc, nl, .int .i64 m.cmd.k, .int .i64 m.cmd.cl, .int .i64 m.cmd.op, .string m.cmd.nm, .int .i64 m.cmd.f1, .int .i64 m.cmd.f2, .int .i64 m.cmd.n1, .int .i64 m.cmd.n2, .int .i64 m.cmd.sz, .int .i64 m.upto, nl, nl, vc, .bool m.more] : Array Value)) nl) 39 (0, 0)) :: HdBlk gd h vd ve vl vr :: Blk gr (.cells #[.int .i64 0, .bool false, .int .i64 0, .bool false, .int .i64 0, .int .i64 0, .int .i64 0, .int .i64 0, .int .i64 0, .int .i64 0, .int .i64 0, .int .i64 0, .int .i64 0, .int .i64 0, .int .i64 0, .slice none 0 0, .int .i64 0, .int .i64 0, .int .i64 0, .string ⟨#[]⟩, .int .i64 0, .int .i64 0, .int .i64 0, .int .i64 0, .int .i64 0, .int .i64 0, .slice none 0 0, .slice none 0 0, .slice none 0 0, .bool false] 39 (0, 0)) :: Arg W :: []) w2 := (own_nil HF 32 9).sel 6 [0, 4, 1, 2, 5]
      dsimp only at HF
      go_loopw [10] (fun a wr => ∃ k : Nat, a = .int .i64 (n + k) ∧ k ≤ KK ∧ ∃ vc, At W (OwnRow 32 9 vc k (cmdsS h n k).flatten :: Blk gm (.cells #[.int .i64 m.kind, .bool m.fc, .int .i64 m.fi, .bool m.tc, .int .i64 m.ti, .int .i64 m.op, .int .i64 m.rd, .int .i64 m.kk, .int .i64 m.ka, .int .i64 m.kb, .int .i64 m.kc, .int .i64 m.sn, .int .i64 m.sc, .int .i64 m.hn, .int .i64 m.hc, nl, .int .i64 m.cmd.k, .int .i64 m.cmd.cl, .int .i64 m.cmd.op, .string m.cmd.nm, .int .i64 m.cmd.f1, .int .i64 m.cmd.f2, .int .i64 m.cmd.n1, .int .i64 m.cmd.n2, .int .i64 m.cmd.sz, .int .i64 m.upto, nl, nl, vc, .bool m.more] 39 (0, 0)) :: HdBlk gd h vd ve vl vr :: Blk gr (.cells #[.int .i64 0, .bool false, .int .i64 0, .bool false, .int .i64 0, .int .i64 0, .int .i64 0, .int .i64 0, .int .i64 0, .int .i64 0, .int .i64 0, .int .i64 0, .int .i64 0, .int .i64 0, .int .i64 0, .slice none 0 0, .int .i64 0, .int .i64 0, .int .i64 0, .string ⟨#[]⟩, .int .i64 0, .int .i64 0, .int .i64 0, .int .i64 0, .int .i64 0, .int .i64 0, .slice none 0 0, .slice none 0 0, .slice none 0 0, .bool false] 39 (0, 0)) :: Arg W :: []) wr) (fun a _ => KK - (intOf a - n).toNat)
      case atStart => exact ⟨0, by simp, Nat.zero_le _, nl, HF⟩
      case round =>
        clear HF
        obtain ⟨k, rfl, hk, vc, HF⟩ := hrel
        have hkk := HKK.out
        by_cases hlt : k < KK
        · have g1 : n + k ≤ n + 64 - 1 := by split at hkk <;> omega
          have b1 : n + k ≤ 1048576 := by omega
          clear hkk
          go_wp2_with fail
          refine (dec1 Hm.out.rise hok hsz (Hv.out.r.ext (HF.ext 4 rfl)) (n + k) (HF.pick 2 rfl)).mono ?_
          rintro e w3 ⟨rfl, _, H1⟩
          rw [decV_eq]
          replace HF : At W (OwnRow 32 9 vc k (cmdsS h n k).flatten :: Blk gm (.cells #[.int .i64 m.kind, .bool m.fc, .int .i64 m.fi, .bool m.tc, .int .i64 m.ti, .int .i64 m.op, .int .i64 m.rd, .int .i64 m.kk, .int .i64 m.ka, .int .i64 m.kb, .int .i64 m.kc, .int .i64 m.sn, .int .i64 m.sc, .int .i64 m.hn, .int .i64 m.hc, nl, .int .i64 m.cmd.k, .int .i64 m.cmd.cl, .int .i64 m.cmd.op, .string m.cmd.nm, .int .i64 m.cmd.f1, .int .i64 m.cmd.f2, .int .i64 m.cmd.n1, .int .i64 m.cmd.n2, .int .i64 m.cmd.sz, .int .i64 m.upto, nl, nl, vc, .bool m.more] 39 (0, 0)) :: HdBlk gd h vd ve vl vr :: Blk gr (.cells #[.int .i64 0, .bool false, .int .i64 0, .bool false, .int .i64 0, .int .i64 0, .int .i64 0, .int .i64 0, .int .i64 0, .int .i64 0, .int .i64 0, .int .i64 0, .int .i64 0, .int .i64 0, .int .i64 0, .slice none 0 0, .int .i64 0, .int .i64 0, .int .i64 0, .string ⟨#[]⟩, .int .i64 0, .int .i64 0, .int .i64 0, .int .i64 0, .int .i64 0, .int .i64 0, .slice none 0 0, .slice none 0 0, .slice none 0 0, .bool false] 39 (0, 0)) :: Arg W :: []) w3 := H1.sel 5 [1, 2, 0, 3, 4]
          clear H1
          have Hl := Lib.hid (decC_len hok (n + k))
          have Ho := Lib.hid (decC_one hok (n + k))
          have Hs := Lib.hid (cmdsS_succ h n k)
          generalize decC h (n + k) = c at *
          generalize (decS h (n + k)).isSome = bb at *
          obtain ⟨va, vcap, hvc, _⟩ := own_value HF
          subst hvc
          go_wp2_with (first | ((with_reducible refine k_alloc ?_); refine st_alloc rfl _ rfl (.agg zc.toArray) ?_ zc.toArray rfl HF ?_; (kernel_rfl); (clear HF; intro gc w4 HF K hK; go_simp))        | ((with_reducible refine k_store (T := 32) ?_); refine st_put rfl _ _ _ rfl _ rfl _ rfl ?_ ?_ HF 0 rfl ?_ ?_; (exact Ho.out); (rw [List.size_toArray, Hl.out]; exact s32); (rw [List.size_toArray, Hl.out]; rfl); (clear HF; intro w5 HF K hK; go_simp))        | ((with_reducible refine k_load (T := 32) ?_); refine st_row rfl _ _ rfl _ rfl a32 9 s32 HF 0 rfl ?_ ?_; (rw [List.size_toArray, Hl.out]); (intro K hK; go_simp))        | ((with_reducible refine k_load (T := 37) ?_); refine st_load rfl _ _ rfl _ _ rfl ?_ HF 2 rfl rfl ?_; (kernel_rfl); (intro K hK; go_simp))        | ((with_reducible refine k_lit ?_); refine st_lit1 rfl _ _ rfl c.toArray rfl 32 Try.underlying37 9 s32 zc.toArray ?_ rfl ?_ (by decide) (by decide) HF ?_; (kernel_rfl); (rw [List.size_toArray, Hl.out]); (clear HF; intro gl w6 HF K hK; replace HF := HF.pick 2 rfl; go_simp))        | ((with_reducible refine k_builtin ?_); refine st_append rfl _ _ _ rfl 32 Try.underlying37 9 s32 80 ?_ (.agg zc.toArray) ?_ rfl _ _ _ rfl HF (some ⟨gl, 0, none⟩) 1 1 c rfl ?_ ?_ Ho.out ?_ ?_ ?_; (kernel_rfl); (kernel_rfl); (rw [Hl.out]); (intro _; exact ⟨_, rfl, cells_of (HF.get 1 rfl)⟩); (simp only [maxLen]; omega); (omega); (clear HF; intro vc2 w7 HF K hK; have ho2 := own_one HF; go_simp))        | ((with_reducible refine k_store (T := 37) ?_); refine st_store rfl _ _ _ rfl _ _ rfl _ rfl ho2 ?_ HF 3 rfl ?_ ?_; (kernel_rfl); (simp); (clear HF; intro w8 HF K hK; simp only [List.set_cons_zero, List.set_cons_succ, List.setIfInBounds_toArray, Act.eval, Value.cells, Array.getD_eq_getD_getElem?, List.getElem?_toArray, List.getElem?_cons_succ, List.getElem?_cons_zero, Option.getD_some] at HF; go_simp)))
          go_roundw
          case rel =>
            rw [← Hs.out] at HF
            exact ⟨k + 1, by go_num, by omega, _, HF.sel 7 [0, 3, 4, 5, 6]⟩
          case measure => simp [intOf]; omega
        · have hkK : k = KK := by omega
          have g1 : ¬ n + k ≤ n + 64 - 1 := by split at hkk <;> omega
          clear hkk
          obtain ⟨va, vcap, hvc, _⟩ := own_value HF
          subst hvc
          have HkK := Lib.hid hkK
          clear hkK
          go_wp2_with (first | ((with_reducible refine k_store ?_); refine st_store rfl _ _ _ rfl _ _ rfl _ rfl rfl ?_ HF 1 rfl ?_ ?_; (kernel_rfl); (simp); (clear HF; intro w HF K hK; simp only [List.set_cons_zero, List.set_cons_succ, List.setIfInBounds_toArray, Act.eval, Value.cells, Array.getD_eq_getD_getElem?, List.getElem?_toArray, List.getElem?_cons_succ, List.getElem?_cons_zero, Option.getD_some] at HF; go_simp)) | ((with_reducible refine k_load (T := 39) ?_); refine st_row rfl _ _ rfl _ rfl a39 30 s39 HF 1 rfl rfl ?_; (intro K hK; go_simp)) | ((with_reducible refine k_load (T := 39) ?_); refine st_loads rfl _ _ rfl _ _ rfl a39 30 s39 HF 1 rfl ?_ ?_; (simp); (intro K hK; go_simp)) | ((with_reducible refine k_store (T := 39) ?_); refine st_put rfl _ _ _ rfl _ rfl _ rfl ?_ s39 HF 3 rfl rfl ?_; (repeat' (first | exact List.forall_mem_nil _ | refine List.forall_mem_cons.2 ⟨(by first | rfl | assumption), ?_⟩)); (clear HF; intro w HF K hK; simp only [List.set_cons_zero, List.set_cons_succ, Act.eval, Value.cells, Array.getD_eq_getD_getElem?, List.getElem?_toArray, List.getElem?_cons_succ, List.getElem?_cons_zero, Option.getD_some] at HF; go_simp)))
          refine bodyPost_ret (results_cell rfl rfl a39 s39 (HF.get 3 rfl) rfl) rfl ?_
          have hbb := Hb.out.b
          have hbe := Hb.out.e
          have hbl := Hb.out.l
          have hlen : (cmdsS h n KK).length = KK := by simp [cmdsS]
          rw [HkK.out] at HF ⊢
          refine ⟨nl, nl, nl, .slice va KK vcap, rfl, ?_⟩
          unfold msgR
          simp only [hbb, hbe, hbl, hlen]
          exact (show At W ([Hold nl 0 [], Hold nl 0 [], Hold nl 0 [], Hold (.slice va KK vcap) KK (cmdsS h n KK).flatten] ++ [Arg W]) _ from (hold_nil (hold_nil (hold_nil (hold_of own_own HF)))).sel 8 [0, 1, 2, 3, 7]).lift H0.out
end
end Md
end Go.Proofs.Ytjobojgmadjmfaa
