/-
  What mend's statements need besides: what Have and Take tell is small and well-formed; what is lent reads so.
-/
import Derived.Test.YtjobojgmadjmfaaMdArgs
import Derived.Test.YtjobojgmadjmfaaMdMay
import Derived.Test.YtjobojgmadjmfaaMdLendM
import Derived.Test.YtjobojgmadjmfaaMdKnown
import Derived.Test.YtjobojgmadjmfaaMdTwo
namespace Go.Proofs.Ytjobojgmadjmfaa
open Go.Hp Go.RowKit
set_option linter.unusedVariables false
set_option linter.unusedSimpArgs false
set_option maxRecDepth 100000
set_option maxHeartbeats 1000000
namespace Md

/-- A message that the comparing function may be handed. -/
structure Mg.Fit (m : Mg) : Prop where
  fe : ∀ r ∈ m.ents, Fits entK r
  fl : ∀ r ∈ m.lasts, Fits lastK r
  fc : ∀ r ∈ m.cmds, Fits cmdK r
  be : m.ents.length * 40 ≤ 140737488355328
  bl : m.lasts.length * 56 ≤ 140737488355328
  bc : m.cmds.length * 80 ≤ 140737488355328

theorem fit_base {m : Mg} (hb : Base m) : m.Fit := by
  refine ⟨?_, ?_, ?_, ?_, ?_, ?_⟩
  · rw [hb.e]; intro r hr; cases hr
  · rw [hb.l]; intro r hr; cases hr
  · rw [hb.c]; intro r hr; cases hr
  · rw [hb.e]; simp
  · rw [hb.l]; simp
  · rw [hb.c]; simp

theorem decC_fits {h : Hd} (hok : h.Ok) (n : Int) : Fits cmdK (decC h n) := by
  unfold decC
  cases hd : decS h n with
  | none => exact cm0.fits
  | some c => exact decS_fits hok hd

theorem have_fit {a : Mg} {h : Hd} (hok : h.Ok) (be : h.ents.length * 40 ≤ 140737488355328) (bl : h.lasts.length * 56 ≤ 140737488355328) : (haveS a h).Fit := by
  unfold haveS
  split
  · exact fit_base ⟨rfl, rfl, rfl, rfl⟩
  · split
    · split
      · exact fit_base (base_haveM a)
      · exact ⟨fun r hr => absurd hr List.not_mem_nil, fun r hr => absurd hr List.not_mem_nil, fun r hr => absurd hr List.not_mem_nil, show ([] : List (List Value)).length * 40 ≤ 140737488355328 by decide, show ([] : List (List Value)).length * 56 ≤ 140737488355328 by decide, show ([] : List (List Value)).length * 80 ≤ 140737488355328 by decide⟩
    · split
      · unfold haveB
        split
        · exact ⟨hok.ents, hok.lasts, fun r hr => absurd hr List.not_mem_nil, be, bl, show ([] : List (List Value)).length * 80 ≤ 140737488355328 by decide⟩
        · refine ⟨fun r hr => absurd hr List.not_mem_nil, fun r hr => absurd hr List.not_mem_nil, fun r hr => ?_, show ([] : List (List Value)).length * 40 ≤ 140737488355328 by decide, show ([] : List (List Value)).length * 56 ≤ 140737488355328 by decide, ?_⟩
          · obtain ⟨i, _, rfl⟩ := List.mem_map.1 hr
            exact decC_fits hok _
          · have e : (cmdsS h a.sn (lastS h a.sn - a.sn + 1).toNat).length = (lastS h a.sn - a.sn + 1).toNat := by simp [cmdsS]
            have : lastS h a.sn ≤ a.sn + 63 := by unfold lastS; split <;> omega
            show (cmdsS h a.sn (lastS h a.sn - a.sn + 1).toNat).length * 80 ≤ _
            rw [e]
            omega
      · exact fit_base ⟨rfl, rfl, rfl, rfl⟩

section
variable {w0 w : World} {L : List HProp}

theorem len15 {h : Hd} (hok : h.Ok) : ∀ r ∈ h.row.map Pl.cells, r.length = 15 := by
  intro r hr
  obtain ⟨p, hp, rfl⟩ := List.mem_map.1 hr
  have e1 : p.pa.length = 4 := (hok.row p hp).pa.len
  have e2 : p.cmd.length = 9 := (hok.row p hp).cmd.len
  simp [Pl.cells, Pl.inst, e1, e2]

/-- What lies in the four blocks of what is lent. -/
theorem heldL {h : Hd} {gd ge gl gr : Nat} (hok : h.Ok) (bd : h.data.length ≤ 140737488355328) (be : h.ents.length * 40 ≤ 140737488355328) (bl : h.lasts.length * 56 ≤ 140737488355328) (br : h.row.length * 128 ≤ 140737488355328)
    (H : At w0 (Blk gd (.cells (lentB h.data) 5 (0, 0)) :: Blk ge (.cells (lentE h.ents) 101 (0, 0)) :: Blk gl (.cells (lentL h.lasts) 104 (0, 0)) :: Blk gr (.cells (lentP (h.row.map Pl.cells)) 86 (0, 0)) :: L) w) :
    HdAt w h (.slice (some ⟨gd, 0, none⟩) h.data.length (h.data.length + 67)) (.slice (some ⟨ge, 0, none⟩) h.ents.length (h.ents.length + 67)) (.slice (some ⟨gl, 0, none⟩) h.lasts.length (h.lasts.length + 67)) (.slice (some ⟨gr, 0, none⟩) h.row.length (h.row.length + 67)) := by
  have FP := (lent_of (mk := mkP) (len15 hok) (fun _ => rfl) (by rw [List.length_map]; omega) (H.pick 3 rfl)).1
  rw [List.length_map] at FP
  exact ⟨(lentB_of bd H).1, (lent_of (mk := mkE) (fun r hr => (hok.ents r hr).len) (fun _ => rfl) (by omega) (H.pick 1 rfl)).1, (lent_of (mk := mkL) (fun r hr => (hok.lasts r hr).len) (fun _ => rfl) (by omega) (H.pick 2 rfl)).1, FP⟩

theorem msgL {m : Mg} {gb ge gl gc : Nat} (hok : m.Ok) (bb : m.blk.length ≤ 140737488355328) (be : m.ents.length * 40 ≤ 140737488355328) (bl : m.lasts.length * 56 ≤ 140737488355328) (bc : m.cmds.length * 80 ≤ 140737488355328)
    (H : At w0 (Blk gb (.cells (lentB m.blk) 5 (0, 0)) :: Blk ge (.cells (lentE m.ents) 101 (0, 0)) :: Blk gl (.cells (lentL m.lasts) 104 (0, 0)) :: Blk gc (.cells (lentC m.cmds) 32 (0, 0)) :: L) w) :
    LentB w gb m.blk ∧ Lent w ge 4 mkE m.ents ∧ Lent w gl 7 mkL m.lasts ∧ Lent w gc 9 mkC m.cmds :=
  ⟨lentB_of bb H, lent_of (mk := mkE) (fun r hr => (hok.ents r hr).len) (fun _ => rfl) (by omega) (H.pick 1 rfl), lent_of (mk := mkL) (fun r hr => (hok.lasts r hr).len) (fun _ => rfl) (by omega) (H.pick 2 rfl), lent_of (mk := mkC) (fun r hr => (hok.cmds r hr).len) (fun _ => rfl) (by omega) (H.pick 3 rfl)⟩

/-- What a message of the call's own reads as. -/
theorem msgR_at {m : Mg} {vb ve vl vc : Value} (hf : m.Fit) (H : At w0 (msgR m vb ve vl vc ++ L) w) : MgAt w m vb ve vl vc :=
  have HS : At w0 (Hold _ _ _ :: Hold _ _ _ :: Hold _ _ _ :: Hold _ _ _ :: L) w := H
  ⟨hold_at HS, ⟨hold_at (HS.pick 1 rfl), fun r hr => (hf.fe r hr).len⟩, ⟨hold_at (HS.pick 2 rfl), fun r hr => (hf.fl r hr).len⟩, ⟨hold_at (HS.pick 3 rfl), fun r hr => (hf.fc r hr).len⟩⟩
end
end Md
end Go.Proofs.Ytjobojgmadjmfaa
