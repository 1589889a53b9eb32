/-
  What MendRow's walk needs: keys as arguments, what is lent as one resource.
-/
import Derived.Test.YtjobojgmadjmfaaMdRowS
import Derived.Test.YtjobojgmadjmfaaMdRLaid
import Derived.Test.YtjobojgmadjmfaaMdRAsk
namespace Go.Proofs.Ytjobojgmadjmfaa
open Go.Hp Go.RowKit Go.ChangeShapes Go.Deep
set_option linter.unusedVariables false
set_option linter.unusedSimpArgs false
set_option maxRecDepth 100000
set_option maxHeartbeats 1000000
namespace Md

def keySh : List Sh := [i64K, i64K, i64K, i64K]
theorem sh25 : shT Try.prog 9 25 = some keySh := by kernel_rfl

theorem arg_Key {H : Type} {enc : TypeId × Value → H} {W : World} {base : Nat} {v : Value} {d : DataW H} {p : List MemPlace} (hv : Value.okWide Try.prog W .any base 25 v) (h : DataW.Trod enc Try.prog W 0 (fun _ => true) true 25 v d p) (hw : ((d.weights Try.prog 25).all (· ≤ reachBytes)) = true) :
    ∃ x : Int × Int × Int × Int, v = .agg #[.int .i64 x.1, .int .i64 x.2.1, .int .i64 x.2.2.1, .int .i64 x.2.2.2] ∧ In64 x.1 ∧ In64 x.2.1 ∧ In64 x.2.2.1 ∧ In64 x.2.2.2 := by
  obtain ⟨cs0, rfl, hf0⟩ := sh_arg Try.underlying25 sh25 hv h hw
  obtain ⟨a, cs1, rfl, q1, hf1⟩ := sh_int hf0
  obtain ⟨b, cs2, rfl, q2, hf2⟩ := sh_int hf1
  obtain ⟨c, cs3, rfl, q3, hf3⟩ := sh_int hf2
  obtain ⟨e, cs4, rfl, q4, hf4⟩ := sh_int hf3
  obtain rfl := sh_nil hf4
  exact ⟨(a, b, c, e), rfl, q1, q2, q3, q4⟩

/-- Sizes of what is held. -/
structure Hd.Sz (h : Hd) : Prop where
  bd : h.data.length ≤ 140737488355328
  be : h.ents.length * 40 ≤ 140737488355328
  bl : h.lasts.length * 56 ≤ 140737488355328
  br : h.row.length * 128 ≤ 140737488355328

theorem in_small {n : Int} (h1 : -9223372036854775808 ≤ n) (h2 : n ≤ 9223372036854775807) : In64 n := ⟨h1, h2⟩
theorem in0 : In64 0 := ⟨by decide, by decide⟩
theorem in1 : In64 1 := ⟨by decide, by decide⟩
theorem in2 : In64 2 := ⟨by decide, by decide⟩
theorem in21 : In64 21 := ⟨by decide, by decide⟩
theorem in22 : In64 22 := ⟨by decide, by decide⟩
theorem mg0_ok : mg0.Ok := ⟨in0, in0, in0, in0, in0, in0, in0, in0, in0, in0, in0, in0, in0, in0, fun r hr => absurd hr List.not_mem_nil, fun r hr => absurd hr List.not_mem_nil, fun r hr => absurd hr List.not_mem_nil⟩

theorem ask_okM {a : Hd} (hm : May a) {kk ka kb kc : Int} (q1 : In64 kk) (q2 : In64 ka) (q3 : In64 kb) (q4 : In64 kc) : (askS 1 2 kk ka kb kc a).Ok := by
  have hb := edge_bound hm
  have hu := hm.u0
  unfold askS
  split
  · exact { mg0_ok with kind := in21, fi := in1, ti := in2, kk := q1, ka := q2, kb := q3, kc := q4, sn := in0 }
  · split
    · exact { mg0_ok with kind := in21, fi := in1, ti := in2, kk := q1, ka := q2, kb := q3, kc := q4, sn := (in_small (by omega) (by omega) : In64 (edgeS a + 1)) }
    · exact mg0_ok

theorem haveM_ok {A : Mg} (hA : A.Ok) : (haveM A).Ok := { mg0_ok with kind := in22, fi := hA.ti, ti := hA.fi, kk := hA.kk, ka := hA.ka, kb := hA.kb, kc := hA.kc }

theorem have_okM {A : Mg} {b : Hd} (hA : A.Ok) (hok : b.Ok) : (haveS A b).Ok := by
  have hM := haveM_ok hA
  unfold haveS
  split
  · exact mg0_ok
  · split
    · split
      · exact hM
      · exact { hM with sn := hok.sn, sc := hok.sc }
    · split
      · unfold haveB
        split
        · exact { hM with upto := hok.upto, ents := hok.ents, lasts := hok.lasts }
        · refine { hM with sn := hA.sn, cmds := fun r hr => ?_ }
          obtain ⟨i, _, rfl⟩ := List.mem_map.1 hr
          exact decC_fits hok _
      · exact mg0_ok

theorem have_blk {A : Mg} {b : Hd} (bd : b.data.length ≤ 140737488355328) : (haveS A b).blk.length ≤ 140737488355328 := by
  unfold haveS
  split
  · exact Nat.zero_le _
  · split
    · split
      · exact Nat.zero_le _
      · exact bd
    · split
      · unfold haveB
        split <;> exact Nat.zero_le _
      · exact Nat.zero_le _

theorem take_okM {M : Mg} {a : Hd} (hM : M.Ok) (bc : M.cmds.length * 80 ≤ 140737488355328) : (takeS M a).2.1.Ok := by
  have hon : ∀ n : Int, In64 n → (onM M n).Ok := fun n hn => { mg0_ok with kind := in21, fi := hM.ti, ti := hM.fi, kk := hM.kk, ka := hM.ka, kb := hM.kb, kc := hM.kc, sn := hn }
  unfold takeS
  split
  · exact mg0_ok
  · split
    · split <;> exact mg0_ok
    · split
      · unfold takeBS
        split
        · exact mg0_ok
        · rename_i hb
          split
          · exact mg0_ok
          · refine hon _ ?_
            split
            · exact in_small (by omega) (by omega)
            · exact in_small (by omega) (by omega)
      · exact mg0_ok

/-- What is lent, in one. -/
def LhR (h : Hd) (v : Value) : HProp := fun hp => v = .agg (hdV h (.slice (adOf (comp v 2)) h.data.length (h.data.length + 67)) (.slice (adOf (comp v 4)) h.ents.length (h.ents.length + 67)) (.slice (adOf (comp v 5)) h.lasts.length (h.lasts.length + 67)) (.slice (adOf (comp v 6)) h.row.length (h.row.length + 67))) ∧
  ∃ gd ge gl gr, adOf (comp v 2) = some ⟨gd, 0, none⟩ ∧ adOf (comp v 4) = some ⟨ge, 0, none⟩ ∧ adOf (comp v 5) = some ⟨gl, 0, none⟩ ∧ adOf (comp v 6) = some ⟨gr, 0, none⟩ ∧ Stars [Blk gd (.cells (lentB h.data) 5 (0, 0)), Blk ge (.cells (lentE h.ents) 101 (0, 0)), Blk gl (.cells (lentL h.lasts) 104 (0, 0)), Blk gr (.cells (lentP (h.row.map Pl.cells)) 86 (0, 0))] hp

section
variable {w0 w : World} {L : List HProp}

theorem lhr_mk {h : Hd} {gd ge gl gr : Nat} (H : At w0 (Blk gd (.cells (lentB h.data) 5 (0, 0)) :: Blk ge (.cells (lentE h.ents) 101 (0, 0)) :: Blk gl (.cells (lentL h.lasts) 104 (0, 0)) :: Blk gr (.cells (lentP (h.row.map Pl.cells)) 86 (0, 0)) :: L) w) :
    At w0 (LhR h (.agg (hdV h (.slice (some ⟨gd, 0, none⟩) h.data.length (h.data.length + 67)) (.slice (some ⟨ge, 0, none⟩) h.ents.length (h.ents.length + 67)) (.slice (some ⟨gl, 0, none⟩) h.lasts.length (h.lasts.length + 67)) (.slice (some ⟨gr, 0, none⟩) h.row.length (h.row.length + 67)))) :: L) w :=
  At.imp (At.fold (M := [_, _, _, _]) H) fun _ hh => ⟨rfl, gd, ge, gl, gr, rfl, rfl, rfl, rfl, hh⟩

theorem lhr_open {h : Hd} {v : Value} (hok : h.Ok) (hs : h.Sz) (H : At w0 (LhR h v :: L) w) : ∃ vd ve vl vr, v = .agg (hdV h vd ve vl vr) ∧ HdAt w h vd ve vl vr := by
  obtain ⟨hv, H⟩ := At.and H
  obtain ⟨gd, H⟩ := At.ex H
  obtain ⟨ge, H⟩ := At.ex H
  obtain ⟨gl, H⟩ := At.ex H
  obtain ⟨gr, H⟩ := At.ex H
  obtain ⟨a1, H⟩ := At.and H
  obtain ⟨a2, H⟩ := At.and H
  obtain ⟨a3, H⟩ := At.and H
  obtain ⟨a4, H⟩ := At.and H
  have HS := At.flat H
  refine ⟨_, _, _, _, hv, ?_⟩
  rw [a1, a2, a3, a4]
  exact heldL hok hs.bd hs.be hs.bl hs.br HS

/-- What stays: from it two things held can be read, and the first world. -/
def Pool (W : World) (a : Hd) (vd ve vl vr : Value) (b : Hd) (vd2 ve2 vl2 vr2 : Value) (P : HProp) : Prop := ∀ (w0 w : World) (L : List HProp), At w0 (P :: L) w → HdAt w a vd ve vl vr ∧ HdAt w b vd2 ve2 vl2 vr2 ∧ At w0 (Arg W :: L) w
end
end Md
end Go.Proofs.Ytjobojgmadjmfaa
