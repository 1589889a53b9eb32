/-
  The statements' own functions: what is held, lent.
-/
import Derived.Test.YtjobojgmadjmfaaMdTwo
namespace Go.Proofs.Ytjobojgmadjmfaa
open Go.Hp Go.RowKit
set_option linter.unusedVariables false
set_option linter.unusedSimpArgs false
set_option maxRecDepth 100000
set_option maxHeartbeats 4000000
namespace Md

def mkP (i : Int) : List Value := [.int .i64 (-i), .int .i64 0, .int .i64 0, .int .i64 0, .int .i64 0, .int .i64 0, .int .i64 0, .int .i64 0, .string ⟨#[]⟩, .int .i64 0, .int .i64 0, .int .i64 0, .int .i64 0, .int .i64 0, .bool false]
def zP : List Value := [.int .i64 0, .int .i64 0, .int .i64 0, .int .i64 0, .int .i64 0, .int .i64 0, .int .i64 0, .int .i64 0, .string ⟨#[]⟩, .int .i64 0, .int .i64 0, .int .i64 0, .int .i64 0, .int .i64 0, .bool false]
theorem z49 : zeroT Try.prog 49 = some (.agg #[.int .i64 0, .int .i64 0, .slice none 0 0, .int .i64 0, .slice none 0 0, .slice none 0 0, .slice none 0 0]) := by kernel_rfl
def lentP (rs : List (List Value)) : Array Value := (fillR rs.flatten (fun k => mkP ((rs.length : Int) + (k : Int))) zP 67 67).toArray

/-- The row that is lent, place by place. -/
def fP (h : Hd) (k : Nat) : List Value := match h.row[k]? with
  | some p => p.cells
  | none => mkP (k : Int)

def midP (f : Nat → List Value) (r z : List Value) (k m : Nat) : List Value := ((List.range k).map f).flatten ++ (r ++ (List.replicate (m - k - 1) z).flatten)

theorem fill_put {f : Nat → List Value} {r z : List Value} {k m size off : Nat} (hf : ∀ i, (f i).length = size) (hz : z.length = size) (h : k < m) (ho : off = k * size) :
    (fillR [] f z k m).take off ++ r ++ (fillR [] f z k m).drop (off + size) = midP f r z k m := by
  have hm : m - k = (m - k - 1) + 1 := by omega
  have hM : ((List.range k).map f).flatten.length = off := by rw [len_marks hf, ho]
  unfold fillR midP
  rw [List.nil_append, hm, List.replicate_succ, List.flatten_cons, List.take_left' hM, ← List.append_assoc, List.drop_left' (by rw [List.length_append, hM, hz]), Nat.add_sub_cancel]
  simp [List.append_assoc]

theorem mid_put {f : Nat → List Value} {r r2 z : List Value} {k m size off : Nat} (hf : ∀ i, (f i).length = size) (hr : r.length = size) (ho : off = k * size) :
    (midP f r z k m).take off ++ r2 ++ (midP f r z k m).drop (off + size) = midP f r2 z k m := by
  have hM : ((List.range k).map f).flatten.length = off := by rw [len_marks hf, ho]
  unfold midP
  rw [List.take_left' hM, ← List.append_assoc, List.drop_left' (by rw [List.length_append, hM, hr])]
  simp [List.append_assoc]

theorem mid_next {f : Nat → List Value} {z : List Value} {k m : Nat} : midP f (f k) z k m = fillR [] f z (k + 1) m := by
  unfold midP fillR
  rw [List.range_succ, List.map_append, List.flatten_append, Nat.sub_sub]
  simp [List.append_assoc]

theorem mid_len {f : Nat → List Value} {r z : List Value} {k m size : Nat} (hf : ∀ i, (f i).length = size) (hr : r.length = size) (hz : z.length = size) (h : k < m) : (midP f r z k m).length = m * size := by
  unfold midP
  rw [List.length_append, List.length_append, len_marks hf, hr, len_zeros hz]
  obtain ⟨d, rfl⟩ : ∃ d, m = k + 1 + d := ⟨m - k - 1, by omega⟩
  have e : k + 1 + d - k - 1 = d := by omega
  rw [e, Nat.add_mul, Nat.add_mul]
  omega

theorem fP_len {h : Hd} (hok : h.Ok) (k : Nat) : (fP h k).length = 15 := by
  unfold fP
  split
  · rename_i p hp
    have hpo := hok.row p (List.mem_of_getElem? hp)
    have e1 : p.pa.length = 4 := hpo.pa.len
    have e2 : p.cmd.length = 9 := hpo.cmd.len
    simp [Pl.cells, Pl.inst, e1, e2]
  · rfl

theorem fP_all (h : Hd) : (fillR [] (fP h) zP (h.row.length + 67) (h.row.length + 67)).toArray = lentP (h.row.map Pl.cells) := by
  have e1 : (List.range h.row.length).map (fP h) = h.row.map Pl.cells := by
    apply List.ext_getElem?
    intro i
    rw [List.getElem?_map, List.getElem?_map]
    by_cases hi : i < h.row.length
    · rw [List.getElem?_range hi, List.getElem?_eq_getElem hi]
      simp only [Option.map_some, fP, List.getElem?_eq_getElem hi]
    · rw [List.getElem?_eq_none (by simp; omega), List.getElem?_eq_none (by omega)]
      rfl
  have e2 : (List.range 67).map (fun k => fP h (h.row.length + k)) = (List.range 67).map (fun (k : Nat) => mkP ((h.row.length : Int) + (k : Int))) := by
    apply List.map_congr_left
    intro k _
    unfold fP
    rw [List.getElem?_eq_none (by omega)]
    simp
  unfold lentP fillR
  rw [List.length_map, List.range_add, List.map_append, e1, List.map_map]
  have e3 : (fP h ∘ fun x => h.row.length + x) = fun k => fP h (h.row.length + k) := rfl
  rw [e3, e2, List.flatten_append]
  simp

/-- The address that a slice has. -/
def adOf : Value → Option Addr
  | .slice a _ _ => a
  | _ => none

/-- Bytes, a bucket that are lent. -/
def LbR (l : List UInt8) (v : Value) : HProp := fun hp => v = .slice (adOf v) l.length (l.length + 67) ∧ ∃ g, adOf v = some ⟨g, 0, none⟩ ∧ Blk g (.cells (lentB l) 5 (0, 0)) hp
def LkR (h : Hd) (v : Value) : HProp := fun hp => v = .agg #[.int .i64 h.upto, .slice (adOf (comp v 1)) h.ents.length (h.ents.length + 67), .slice (adOf (comp v 2)) h.lasts.length (h.lasts.length + 67)] ∧
  ∃ ge gl, adOf (comp v 1) = some ⟨ge, 0, none⟩ ∧ adOf (comp v 2) = some ⟨gl, 0, none⟩ ∧ Stars [Blk ge (.cells (lentE h.ents) 101 (0, 0)), Blk gl (.cells (lentL h.lasts) 104 (0, 0))] hp

section
variable {w0 w : World} {L : List HProp}

theorem lendH {h : Hd} {vd ve vl vr : Value} (hok : h.Ok) (br : h.row.length * 128 ≤ 140737488355328) (hv : HdAt w h vd ve vl vr) (bd : h.data.length ≤ 140737488355328) (be : h.ents.length * 40 ≤ 140737488355328) (bl : h.lasts.length * 56 ≤ 140737488355328) (H : At w0 L w) :
    Calls Try.prog 10 #[.agg (hdV h vd ve vl vr)] w (fun e w' => ∃ gd ge gl gr, e = .returned (.agg (hdV h (.slice (some ⟨gd, 0, none⟩) h.data.length (h.data.length + 67)) (.slice (some ⟨ge, 0, none⟩) h.ents.length (h.ents.length + 67)) (.slice (some ⟨gl, 0, none⟩) h.lasts.length (h.lasts.length + 67)) (.slice (some ⟨gr, 0, none⟩) h.row.length (h.row.length + 67))))
      ∧ At w0 (Blk gd (.cells (lentB h.data) 5 (0, 0)) :: Blk ge (.cells (lentE h.ents) 101 (0, 0)) :: Blk gl (.cells (lentL h.lasts) 104 (0, 0)) :: Blk gr (.cells (lentP (h.row.map Pl.cells)) 86 (0, 0)) :: L) w') := by
  obtain ⟨W, rfl⟩ : ∃ W : World, W = w := ⟨_, rfl⟩
  have HF := At.of W
  have H0 := Lib.hid H
  have HV := Lib.hid hv
  have od := row_one hv.d
  have oe := row_one hv.e.1
  have ol := row_one hv.l.1
  obtain ⟨ad, cap, rfl, c1, c2, c3⟩ := hv.r.value
  rw [List.length_map] at c1 c3
  simp only [List.length_map] at hv HV ⊢
  have Hv := Lib.hid hv.r
  have C3 := Lib.hid c3
  have Hok := Lib.hid hok
  have Hfl := Lib.hid (fP_len hok)
  clear H hv c3 hok
  have hn : ((h.row.length : Int) + 67).toNat = h.row.length + 67 := by omega
  simp only [hdV]
  go_enter Try.func10, Try.ntmps10
  go_wp2_with (first | ((with_reducible refine k_box (T := 44) ?_); refine st_box rfl _ _ rfl _ rfl HF ?_; (clear HF; intro g1 w HF K hK; simp only [Value.cells, Act.eval, Value.cells, Array.getD_eq_getD_getElem?, List.getElem?_toArray, List.getElem?_cons_succ, List.getElem?_cons_zero, Option.getD_some] at HF; go_simp)) | ((with_reducible refine k_alloc (T := 49) ?_); refine st_alloc rfl _ rfl _ z49 _ rfl HF ?_; (clear HF; intro g2 w HF K hK; simp only [Value.cells] at HF; go_simp)) | ((with_reducible refine k_load ?_); refine st_load rfl _ _ rfl _ _ rfl ?_ HF 1 rfl rfl ?_; (kernel_rfl); (intro K hK; go_simp))      | ((with_reducible refine k_make ?_); refine st_make rfl _ _ _ rfl _ _ _ _ rfl rfl 86 Try.underlying47 128 ?_ 15 ?_ (.agg zP.toArray) ?_ ?_ ?_ ?_ ?_ HF ?_; (kernel_rfl); (kernel_rfl); (kernel_rfl); (omega); (omega); (omega); (omega);        (clear HF; intro gr w HF K hK; replace HF : At W (Blk gr (.cells (List.replicate (h.row.length + 67) zP).flatten.toArray 86 (0, 0)) :: Blk g2 (.cells #[.int .i64 0, .int .i64 0, .slice none 0 0, .int .i64 0, .slice none 0 0, .slice none 0 0, .slice none 0 0] 49 (0, 0)) :: Blk g1 (.cells #[.int .i64 h.sn, .int .i64 h.sc, vd, .int .i64 h.upto, ve, vl, .slice ad h.row.length cap] 44 (0, 0)) :: Arg W :: []) w := (by rw [← madeCells_recs zP (by decide)]; have e : ((h.row.length : Int) + 67).toNat * 15 = (h.row.length + 67) * zP.length := (by rw [hn]; rfl); rw [e] at HF; exact HF); go_simp)))
  have e0 : (List.replicate (h.row.length + 67) zP).flatten = fillR [] (fP h) zP 0 (h.row.length + 67) := by simp [fillR]
  rw [e0] at HF
  clear e0
  go_loopw [4] (fun i wr => ∃ k : Nat, k ≤ h.row.length + 67 ∧ i = .int .i64 k ∧ At W (Blk gr (.cells (fillR [] (fP h) zP k (h.row.length + 67)).toArray 86 (0, 0)) :: Blk g2 (.cells #[.int .i64 0, .int .i64 0, .slice none 0 0, .int .i64 0, .slice none 0 0, .slice none 0 0, .slice none 0 0] 49 (0, 0)) :: Blk g1 (.cells #[.int .i64 h.sn, .int .i64 h.sc, vd, .int .i64 h.upto, ve, vl, .slice ad h.row.length cap] 44 (0, 0)) :: Arg W :: []) wr) (fun i _ => h.row.length + 67 - (intOf i).toNat)
  case atStart => exact ⟨0, Nat.zero_le _, rfl, HF⟩
  case round =>
    clear HF
    obtain ⟨k, hk, rfl, HF⟩ := hrel
    by_cases hlt : k < h.row.length + 67
    · have Hset := Lib.hid (fun off ho => fill_put (r := mkP (k : Int)) (off := off) (z := zP) Hfl.out rfl hlt ho)
      have Hlen := Lib.hid (fillR_len (n := 0) (mk := fP h) (z := zP) (A := []) (by simp) Hfl.out rfl hk)
      have hlt2 : (k : Int) < (h.row.length : Int) + 67 := by omega
      by_cases hin : k < h.row.length
      · have g1x : (k : Int) < h.row.length := by omega
        obtain ⟨b, rfl⟩ := C3.out (by omega)
        obtain ⟨⟨pn, ppa, pcmd, pd⟩, hp⟩ : ∃ p, h.row[k]? = some p := ⟨_, List.getElem?_eq_getElem hin⟩
        have hpo := Hok.out.row _ (List.mem_of_getElem? hp)
        obtain ⟨a1, a2, a3, a4, hpa⟩ := pa_cases hpo.pa
        obtain ⟨⟨xk, xcl, xop, xnm, xf1, xf2, xn1, xn2, xsz⟩, hpc⟩ := cmd_cases hpo.cmd
        dsimp only at hpa hpc
        subst hpa hpc
        have hr : (h.row.map Pl.cells)[k]? = some [.int .i64 pn, .int .i64 a1, .int .i64 a2, .int .i64 a3, .int .i64 a4, .int .i64 xk, .int .i64 xcl, .int .i64 xop, .string xnm, .int .i64 xf1, .int .i64 xf2, .int .i64 xn1, .int .i64 xn2, .int .i64 xsz, .bool pd] := by rw [List.getElem?_map, hp]; rfl
        have HcN := Lib.hid (show W.cell? (b.add (k * 15)) = some (.int .i64 pn) from Hv.out.cell (by rw [List.length_map]) hr (j := 0) rfl)
        have HcI := Lib.hid (fun j u (hj : ([.int .i64 a1, .int .i64 a2, .int .i64 a3, .int .i64 a4, .int .i64 xk, .int .i64 xcl, .int .i64 xop, .string xnm, .int .i64 xf1, .int .i64 xf2, .int .i64 xn1, .int .i64 xn2, .int .i64 xsz, .bool pd] : List Value)[j]? = some u) => (show W.cell? (b.add (k * 15 + (1 + j))) = some u from Hv.out.cell (by rw [List.length_map]) hr (by rw [Nat.add_comm, List.getElem?_cons_succ]; exact hj)))
        have HfP := Lib.hid (show fP h k = [.int .i64 pn, .int .i64 a1, .int .i64 a2, .int .i64 a3, .int .i64 a4, .int .i64 xk, .int .i64 xcl, .int .i64 xop, .string xnm, .int .i64 xf1, .int .i64 xf2, .int .i64 xn1, .int .i64 xn2, .int .i64 xsz, .bool pd] by unfold fP; rw [hp]; rfl)
        have Hset2 := Lib.hid (fun r2 off ho => mid_put (f := fP h) (r := mkP (k : Int)) (r2 := r2) (k := k) (m := h.row.length + 67) (off := off) (z := zP) (size := 15) Hfl.out rfl ho)
        have Hlen2 := Lib.hid (mid_len (f := fP h) (r := mkP (k : Int)) (z := zP) Hfl.out rfl rfl hlt)
        clear hr hp hpo
        go_wp2_with (first | ((with_reducible refine k_load ?_); refine st_load rfl _ _ rfl _ _ rfl ?_ HF 2 rfl rfl ?_; (kernel_rfl); (intro K hK; go_simp))            | ((with_reducible refine k_store (T := 86) ?_); refine st_stores rfl _ _ _ rfl _ _ rfl (mkP (k : Int)).toArray rfl ?_ s86 HF 0 rfl ?_ ?_; (simp [mkP, Value.oneCell']); (simp only [List.size_toArray]; rw [Hlen.out]; show _ + 15 ≤ _; omega); (clear HF; intro w HF K hK; simp only [List.set_cons_zero, List.size_toArray] at HF; rw [show (mkP (k : Int)).length = 15 from rfl, Hset.out _ rfl] at HF; go_simp)))
        apply wp_region_eff [16] (fun i => (#[[], [], [], [], [], [], [], [], [], [], [], [], [], [], [], [], []] : Array (List Nat)).getD i []) (fun val i => ((_ :: _ :: _ :: _ :: _ :: _ :: _ :: _ :: _ :: _ :: _ :: _ :: _ :: _ :: _ :: _ :: val 16 :: []) : List Value).toArray.getD i undef) (fun E val => At W (Blk gr (.cells (midP (fP h) (if E 16 = true then [.int .i64 pn, .int .i64 a1, .int .i64 a2, .int .i64 a3, .int .i64 a4, .int .i64 xk, .int .i64 xcl, .int .i64 xop, .string xnm, .int .i64 xf1, .int .i64 xf2, .int .i64 xn1, .int .i64 xn2, .int .i64 xsz, .bool pd] else mkP (k : Int)) zP k (h.row.length + 67)).toArray 86 (0, 0)) :: Blk g2 (.cells #[.int .i64 0, .int .i64 0, .slice none 0 0, .int .i64 0, .slice none 0 0, .slice none 0 0, .slice none 0 0] 49 (0, 0)) :: Blk g1 (.cells #[.int .i64 h.sn, .int .i64 h.sc, vd, .int .i64 h.upto, ve, vl, .slice (some b) h.row.length cap] 44 (0, 0)) :: Arg W :: [])) (by kernel_rfl) (by kernel_rfl) (by kernel_rfl) (by kernel_rfl) (HF)
        case step =>
          iterate 16 (refine ⟨eff_pl rfl (fun _ => by rfl) fun E val hn T ds w K H hk ho hK => ?_, ?_⟩; rotate_left)
          refine ⟨eff_mk rfl (fun _ => by rfl) fun E val hE0 hcl hn T ds w K H hk ho hK => ?_, ?_⟩; rotate_left
          exact trivial
          · have o3 := ho 3 (by kernel_rfl); clear ho; simp [know, dstAt, Region.binds] at hk o3; go_simp; exact hK _ H
          · have o4 := ho 4 (by kernel_rfl); clear ho; simp [know, dstAt, Region.binds] at hk o4; go_simp; exact hK _ H
          · have o1 := ho 1 (by kernel_rfl); clear ho; simp [know, dstAt, Region.binds] at hk o1; go_simp; exact hK _ H
          · clear ho; simp [know, dstAt, Region.binds] at hk
            first | (refine op_loadT (v := .slice (some b) h.row.length cap) rfl hk (by kernel_rfl) H 2 rfl rfl ?_; exact hK _ H) | (refine op_load1T rfl hk (by kernel_rfl) ((H.ext 3 rfl).cell HcN.out) ?_; exact hK _ H)
          · have o4 := ho 4 (by kernel_rfl); clear ho; simp [know, dstAt, Region.binds] at hk o4; go_simp; exact hK _ H
          · clear ho; simp [know, dstAt, Region.binds] at hk; go_simp; exact hK _ H
          · clear ho; simp [know, dstAt, Region.binds] at hk; go_simp; exact hK _ H
          · clear ho; simp [know, dstAt, Region.binds] at hk
            first | (refine op_loadT (v := .slice (some b) h.row.length cap) rfl hk (by kernel_rfl) H 2 rfl rfl ?_; exact hK _ H) | (refine op_load1T rfl hk (by kernel_rfl) ((H.ext 3 rfl).cell HcN.out) ?_; exact hK _ H)
          · have o1 := ho 1 (by kernel_rfl); clear ho; simp [know, dstAt, Region.binds] at hk o1; go_simp; exact hK _ H
          · clear ho; simp [know, dstAt, Region.binds] at hk
            first | (refine op_loadT (v := .slice (some b) h.row.length cap) rfl hk (by kernel_rfl) H 2 rfl rfl ?_; exact hK _ H) | (refine op_load1T rfl hk (by kernel_rfl) ((H.ext 3 rfl).cell HcN.out) ?_; exact hK _ H)
          · have o4 := ho 4 (by kernel_rfl); clear ho; simp [know, dstAt, Region.binds] at hk o4; go_simp; exact hK _ H
          · clear ho; simp [know, dstAt, Region.binds] at hk; go_simp; exact hK _ H
          · clear ho; simp [know, dstAt, Region.binds] at hk; go_simp; exact hK _ H
          · clear ho; simp [know, dstAt, Region.binds] at hk
            (refine op_cellsT (vs := [.int .i64 a1, .int .i64 a2, .int .i64 a3, .int .i64 a4, .int .i64 xk, .int .i64 xcl, .int .i64 xop, .string xnm, .int .i64 xf1, .int .i64 xf2, .int .i64 xn1, .int .i64 xn2, .int .i64 xsz, .bool pd]) rfl hk a69 s69 (fun j u hj => (H.ext 3 rfl).cell (by have := HcI.out j u hj; rwa [← Addr.add_add, ← Addr.add_add] at this)) ?_; exact hK _ H)
          · clear ho; simp [know, dstAt, Region.binds] at hk; go_simp; exact hK _ H
          · clear ho; simp [know, dstAt, Region.binds] at hk; go_simp; exact hK _ H
          · clear ho; simp [know, dstAt, Region.binds] at hk
            (simp only [hE0, Bool.false_eq_true, if_false] at H); refine op_storesT rfl hk.1 hk.2.1 ?_ s86 rfl H 0 rfl (by simp only [List.size_toArray]; rw [Hlen2.out]; show _ + 15 ≤ _; omega) ?_; (simp [Value.oneCell']); (intro w' H; refine hK _ _ ?_; have t16 : updE E 16 16 = true := rfl; simp only [t16, if_true]; simp only [List.set_cons_zero] at H; replace H : At W (Blk gr (.cells ((midP (fP h) (mkP (k : Int)) zP k (h.row.length + 67)).take (k * 15) ++ ([.int .i64 pn, .int .i64 a1, .int .i64 a2, .int .i64 a3, .int .i64 a4, .int .i64 xk, .int .i64 xcl, .int .i64 xop, .string xnm, .int .i64 xf1, .int .i64 xf2, .int .i64 xn1, .int .i64 xn2, .int .i64 xsz, .bool pd] : List Value) ++ (midP (fP h) (mkP (k : Int)) zP k (h.row.length + 67)).drop (k * 15 + 15)).toArray 86 (0, 0)) :: _) w' := H; rw [Hset2.out _ _ rfl] at H; exact H)
        case ins =>
          iterate 16 (refine ⟨ins_pl rfl (fun _ _ _ => rfl), ?_⟩)
          refine ⟨ins_mk rfl (fun _ => rfl), ?_⟩
          exact trivial
        case jns =>
          iterate 16 (refine ⟨j_pl (fun _ _ _ => rfl), ?_⟩)
          refine ⟨j_mk rfl, ?_⟩
          exact trivial
        case fin =>
          intro E val w5 hE H
          have e16 := hE 16 (by decide)
          simp only [e16, if_true] at H
          clear HF hE e16
          have HF := H
          clear H
          simp [putAll, Act.put]
          go_wp2_with fail
          go_roundw
          case rel =>
            rw [← HfP.out, mid_next] at HF
            exact ⟨k + 1, by omega, rfl, HF⟩
          case measure => simp [intOf]; omega
      · have g1x : ¬ (k : Int) < h.row.length := by omega
        have HfP := Lib.hid (show fP h k = mkP (k : Int) by unfold fP; rw [List.getElem?_eq_none (by omega)])
        go_wp2_with (first | ((with_reducible refine k_load ?_); refine st_load rfl _ _ rfl _ _ rfl ?_ HF 2 rfl rfl ?_; (kernel_rfl); (intro K hK; go_simp))            | ((with_reducible refine k_store (T := 86) ?_); refine st_stores rfl _ _ _ rfl _ _ rfl (mkP (k : Int)).toArray rfl ?_ s86 HF 0 rfl ?_ ?_; (simp [mkP, Value.oneCell']); (simp only [List.size_toArray]; rw [Hlen.out]; show _ + 15 ≤ _; omega); (clear HF; intro w HF K hK; simp only [List.set_cons_zero, List.size_toArray] at HF; rw [show (mkP (k : Int)).length = 15 from rfl, Hset.out _ rfl] at HF; go_simp)))
        go_roundw
        case rel =>
          rw [← HfP.out, mid_next] at HF
          exact ⟨k + 1, by omega, rfl, HF⟩
        case measure => simp [intOf]; omega
    · have hk2 : k = h.row.length + 67 := by omega
      subst hk2
      rw [fP_all] at HF
      clear hlt hk
      have hno : ¬ (h.row.length : Int) + 67 < (h.row.length : Int) + 67 := by omega
      go_wp2_with (first | ((with_reducible refine k_load ?_); refine st_load rfl _ _ rfl _ _ rfl ?_ HF 2 rfl rfl ?_; (kernel_rfl); (intro K hK; go_simp)))
      apply wp_region_eff [6, 10, 17] (fun i => (#[[], [], [], [], [], [], [], [6], [], [], [], [], [], [], [], [], [6, 10], [6, 10]] : Array (List Nat)).getD i []) (fun val i => ((_ :: _ :: _ :: _ :: _ :: _ :: val 6 :: _ :: _ :: _ :: val 10 :: _ :: _ :: _ :: _ :: _ :: _ :: val 17 :: []) : List Value).toArray.getD i undef) (fun E val => At W ((if E 6 = true then LbR h.data (val 6) else emp) :: (if E 10 = true then LkR h (val 10) else emp) :: Blk gr (.cells (lentP (h.row.map Pl.cells)) 86 (0, 0)) :: Blk g2 (.cells (if E 17 = true then #[.int .i64 h.sn, .int .i64 h.sc, .slice (adOf (val 6)) h.data.length (h.data.length + 67), .int .i64 h.upto, .slice (adOf (comp (val 10) 1)) h.ents.length (h.ents.length + 67), .slice (adOf (comp (val 10) 2)) h.lasts.length (h.lasts.length + 67), .slice (some ⟨gr, 0, none⟩) h.row.length (h.row.length + 67)] else #[.int .i64 0, .int .i64 0, .slice none 0 0, .int .i64 0, .slice none 0 0, .slice none 0 0, .slice none 0 0]) 49 (0, 0)) :: Blk g1 (.cells #[.int .i64 h.sn, .int .i64 h.sc, vd, .int .i64 h.upto, ve, vl, .slice ad h.row.length cap] 44 (0, 0)) :: Arg W :: [])) (by kernel_rfl) (by kernel_rfl) (by kernel_rfl) (by kernel_rfl) (HF.addEmp.addEmp)
      case step =>
        iterate 6 (refine ⟨eff_pl rfl (fun _ => by rfl) fun E val hn T ds w K H hk ho hK => ?_, ?_⟩; rotate_left)
        refine ⟨eff_mk rfl (fun _ => by rfl) fun E val hE0 hcl hn T ds w K H hk ho hK => ?_, ?_⟩; rotate_left
        iterate 3 (refine ⟨eff_pl rfl (fun _ => by rfl) fun E val hn T ds w K H hk ho hK => ?_, ?_⟩; rotate_left)
        refine ⟨eff_mk rfl (fun _ => by rfl) fun E val hE0 hcl hn T ds w K H hk ho hK => ?_, ?_⟩; rotate_left
        iterate 6 (refine ⟨eff_pl rfl (fun _ => by rfl) fun E val hn T ds w K H hk ho hK => ?_, ?_⟩; rotate_left)
        refine ⟨eff_mk rfl (fun _ => by rfl) fun E val hE0 hcl hn T ds w K H hk ho hK => ?_, ?_⟩; rotate_left
        exact trivial
        · have o1 := ho 1 (by kernel_rfl); clear ho; simp [know, dstAt, Region.binds] at hk o1; go_simp; exact hK _ H
        · clear ho; simp [know, dstAt, Region.binds] at hk; go_simp; exact hK _ H
        · clear ho; simp [know, dstAt, Region.binds] at hk
          (refine op_loadsT (T := 27) (n := 2) rfl hk a27 s27 H 4 rfl rfl rfl ?_; exact hK _ H)
        · have o1 := ho 1 (by kernel_rfl); clear ho; simp [know, dstAt, Region.binds] at hk o1; go_simp; exact hK _ H
        · clear ho; simp [know, dstAt, Region.binds] at hk; go_simp; exact hK _ H
        · clear ho; simp [know, dstAt, Region.binds] at hk
          (refine op_loadT rfl hk ?_ H 4 rfl rfl ?_; (kernel_rfl); exact hK _ H)
        · clear ho; simp [know, dstAt, Region.binds] at hk
          (have q17 : E 17 = false := (by cases h : E 17 with | false => rfl | true => (have h2 := hcl 17 (by decide) h 6 (by decide); rw [hE0] at h2; cases h2))); (simp only [hE0, q17, Bool.false_eq_true, if_false] at H); go_simp; refine (lendB (HV.out.d.ext (H.ext 5 rfl)) bd (H.sel 1 [])).mono ?_; rintro e w' ⟨g, rfl, H⟩; refine hK _ _ ?_; have t6 : updE E 6 6 = true := rfl; have t17 : updE E 6 17 = false := q17; simp only [t6, t17, Bool.false_eq_true, if_false, if_true]; exact (At.imp H fun _ hh => ⟨rfl, g, rfl, hh⟩)
        · clear ho; simp [know, dstAt, Region.binds] at hk
          first | (refine op_sliceT rfl hk.1 hk.2 Try.underlying47 s86 (by omega) ?_; exact hK _ H) | (have e6 := hn 6 (by decide); simp only [e6, if_true] at H; have hv6 := (At.and (H.pick 0 rfl)).1; have q1 := hk.1; have q2 := hk.2.trans hv6; clear hk hv6; go_simp; exact hK _ (by simp only [e6, if_true]; exact H)) | (go_simp; exact hK _ H)
        · have o1 := ho 1 (by kernel_rfl); clear ho; simp [know, dstAt, Region.binds] at hk o1; go_simp; exact hK _ H
        · clear ho; simp [know, dstAt, Region.binds] at hk
          (refine op_loadsT (T := 36) (n := 3) rfl hk a36 s36 H 4 rfl rfl rfl ?_; exact hK _ H)
        · clear ho; simp [know, dstAt, Region.binds] at hk
          (have q17 : E 17 = false := (by cases h : E 17 with | false => rfl | true => (have h2 := hcl 17 (by decide) h 10 (by decide); rw [hE0] at h2; cases h2))); (simp only [hE0, q17, Bool.false_eq_true, if_false] at H); go_simp; refine (lendK (HV.out.e.ext (H.ext 5 rfl)) (HV.out.l.ext (H.ext 5 rfl)) Hok.out.ents Hok.out.lasts be bl (H.sel 2 [0])).mono ?_; rintro e w' ⟨ge, gl, rfl, H⟩; refine hK _ _ ?_; have t10 : updE E 10 10 = true := rfl; have t17 : updE E 10 17 = false := q17; simp only [t10, t17, Bool.false_eq_true, if_false, if_true]; exact (At.imp (At.fold (M := [_, _]) H) fun _ hh => ⟨rfl, ge, gl, rfl, rfl, hh⟩ : At W (LkR h (.agg #[.int .i64 h.upto, .slice (some ⟨ge, 0, none⟩) h.ents.length (h.ents.length + 67), .slice (some ⟨gl, 0, none⟩) h.lasts.length (h.lasts.length + 67)]) :: _) w').sel 2 [1, 0]
        · have o3 := ho 3 (by kernel_rfl); clear ho; simp [know, dstAt, Region.binds] at hk o3; go_simp; exact hK _ H
        · have o1 := ho 1 (by kernel_rfl); clear ho; simp [know, dstAt, Region.binds] at hk o1; go_simp; exact hK _ H
        · clear ho; simp [know, dstAt, Region.binds] at hk
          (refine op_loadT rfl hk ?_ H 4 rfl rfl ?_; (kernel_rfl); exact hK _ H)
        · clear ho; simp [know, dstAt, Region.binds] at hk; go_simp; exact hK _ H
        · clear ho; simp [know, dstAt, Region.binds] at hk
          first | (refine op_sliceT rfl hk.1 hk.2 Try.underlying47 s86 (by omega) ?_; exact hK _ H) | (go_simp; exact hK _ H)
        · clear ho; simp [know, dstAt, Region.binds] at hk
          first | (refine op_sliceT rfl hk.1 hk.2 Try.underlying47 s86 (by omega) ?_; exact hK _ H) | (have e6 := hn 6 (by decide); simp only [e6, if_true] at H; have hv6 := (At.and (H.pick 0 rfl)).1; have q1 := hk.1; have q2 := hk.2.trans hv6; clear hk hv6; go_simp; exact hK _ (by simp only [e6, if_true]; exact H)) | (have e10 := hn 10 (by decide); simp only [e10, if_true] at H; have hv10 := (At.and (H.pick 1 rfl)).1; have q1 := hk.1; have q2 := hk.2.1.trans hv10; have q3 := hk.2.2; clear hk hv10; go_simp; exact hK _ (by simp only [e10, if_true]; exact H)) | (go_simp; exact hK _ H)
        · have o2 := ho 2 (by kernel_rfl); clear ho; simp [know, dstAt, Region.binds] at hk o2
          (simp only [hE0, Bool.false_eq_true, if_false] at H); refine op_putT rfl o2 hk.1 ?_ s49 H 3 rfl rfl rfl ?_; (simp [Value.oneCell']); (intro w' H; refine hK _ _ ?_; exact H)
      case ins =>
        iterate 6 (refine ⟨ins_pl rfl (fun _ _ _ => rfl), ?_⟩)
        refine ⟨ins_mk rfl (fun _ => rfl), ?_⟩
        refine ⟨ins_pl rfl (fun val val' h => by first | rfl | ((have h6 := h 6 (by decide)); first | (simp only [h6]; done) | (simp only [h6]; rfl))), ?_⟩
        iterate 2 (refine ⟨ins_pl rfl (fun _ _ _ => rfl), ?_⟩)
        refine ⟨ins_mk rfl (fun _ => rfl), ?_⟩
        iterate 5 (refine ⟨ins_pl rfl (fun _ _ _ => rfl), ?_⟩)
        refine ⟨ins_pl rfl (fun val val' h => by first | rfl | ((have h6 := h 6 (by decide)); (have h10 := h 10 (by decide)); first | (simp only [h6, h10]; done) | (simp only [h6, h10]; rfl))), ?_⟩
        refine ⟨ins_mk rfl (fun _ => rfl), ?_⟩
        exact trivial
      case jns =>
        iterate 6 (refine ⟨j_pl (fun _ _ _ => rfl), ?_⟩)
        refine ⟨j_mk rfl, ?_⟩
        iterate 3 (refine ⟨j_pl (fun _ _ _ => rfl), ?_⟩)
        refine ⟨j_mk rfl, ?_⟩
        iterate 6 (refine ⟨j_pl (fun _ _ _ => rfl), ?_⟩)
        refine ⟨j_mk rfl, ?_⟩
        exact trivial
      case fin =>
        intro E val w5 hE H
        have e6 := hE 6 (by decide)
        have e10 := hE 10 (by decide)
        have e17 := hE 17 (by decide)
        simp only [e6, e10, e17, if_true] at H
        clear HF hE e6 e10 e17
        obtain ⟨hv6, HF⟩ := At.and H
        clear H
        obtain ⟨gd, HF⟩ := At.ex HF
        obtain ⟨a6, HF⟩ := At.and HF
        have HX := HF.pick 1 rfl
        clear HF
        obtain ⟨hv10, HF⟩ := At.and HX
        clear HX
        obtain ⟨ge, HF⟩ := At.ex HF
        obtain ⟨gl, HF⟩ := At.ex HF
        obtain ⟨a10, HF⟩ := At.and HF
        obtain ⟨b10, HF⟩ := At.and HF
        rw [a6, a10, b10] at HF
        have HX := At.flat HF
        clear HF a6 a10 b10 hv6 hv10
        have HF := HX
        clear HX
        simp [putAll, Act.put]
        go_wp2_with fail
        refine bodyPost_ret (results_cell rfl rfl a49 s49 (HF.get 4 rfl) rfl) rfl ?_
        exact ⟨gd, ge, gl, gr, rfl, (show At W ([_, _, _, _] ++ [Arg W]) _ from HF.sel 7 [2, 0, 1, 3, 6]).lift H0.out⟩
end
end Md
end Go.Proofs.Ytjobojgmadjmfaa
