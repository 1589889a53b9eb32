/-
  A mend from its Ask to its end, as a function of the data: it ends, and what is laid down may be.
-/
import Derived.Test.YtjobojgmadjmfaaMdLaidS
import Derived.Test.YtjobojgmadjmfaaMdSaidT
namespace Go.Proofs.Ytjobojgmadjmfaa
open Go.Hp Go.RowKit
set_option linter.unusedVariables false
set_option linter.unusedSimpArgs false
namespace Md

def lcOf (c : Cg) : Lc := ⟨c.kk, c.ka, c.kb, c.kc, c.sn, c.sc, c.blk, 0, 0, 0, 0, c.cmd, c.dec, c.upto, c.ents, c.lasts⟩
theorem lcOf_cells (c : Cg) (va ve vl : Value) : (lcOf c).cells va ve vl = (c.cells va ve vl).toArray := rfl

def LayOk (h : Hd) (c : Lc) : Prop := (c.kk = 2 → 0 < c.upto ∧ c.upto ≤ 1048576) ∧ (c.kk ≠ 1 → c.kk ≠ 2 → h.upto < c.kb ∧ c.kb ≤ 1048576 ∧ (c.dec = true → c.cmd.cells ≠ zc))
def LayAll : Hd → List Lc → Prop
  | _, [] => True
  | h, c :: r => LayOk h c ∧ LayAll (laidS h c) r
def layS : Hd → List Lc → Hd
  | h, [] => h
  | h, c :: r => layS (laidS h c) r

theorem upto_inst {h : Hd} {c : Lc} (h2 : c.kk ≠ 2) : (laidS h c).upto = h.upto := by
  unfold laidS
  by_cases h1 : c.kk = 1
  · rw [if_pos h1]
  · rw [if_neg h1, if_neg h2]

theorem lay_insts : ∀ (l : List Lc) (h : Hd), (∀ c ∈ l, c.kk = 3 ∧ h.upto < c.kb ∧ c.kb ≤ 1048576 ∧ c.cmd.cells ≠ zc) → LayAll h l
  | [], _, _ => trivial
  | c :: l, h, hc => by
    obtain ⟨q1, q2, q3, q4⟩ := hc c (by simp)
    refine ⟨⟨fun e => by omega, fun _ _ => ⟨q2, q3, fun _ => q4⟩⟩, lay_insts l _ fun x hx => ?_⟩
    rw [upto_inst (by omega)]
    exact hc x (by simp [hx])

theorem cmOf_cells {c : List Value} (h : Fits cmdK c) : (cmOf c).cells = c := by
  obtain ⟨x, rfl⟩ := cmd_cases h
  rfl

theorem news_lay {m : Mg} {h : Hd} (hf : ∀ r ∈ m.cmds, Fits cmdK r) : ∀ k, ∀ c ∈ newsS m h k, h.upto < c.kb ∧ c.kb ≤ 1048576 ∧ c.cmd.cells ≠ zc
  | 0 => fun c hc => by cases hc
  | k + 1 => fun c hc => by
    rw [newsS] at hc
    rcases List.mem_append.1 hc with hc | hc
    · exact news_lay hf k c hc
    · cases hk : m.cmds[k]? with
      | none => rw [hk] at hc; cases hc
      | some x =>
        rw [hk] at hc
        dsimp only at hc
        split at hc
        · rename_i hb
          obtain rfl := List.mem_singleton.1 hc
          have hx := hf x (List.mem_of_getElem? hk)
          obtain ⟨y, rfl⟩ := cmd_cases hx
          simp only [brings, Bool.not_eq_true', Bool.or_eq_false_iff, decide_eq_false_iff_not] at hb
          refine ⟨by show h.upto < m.sn + k; omega, by show m.sn + k ≤ 1048576; omega, ?_⟩
          show (cmOf y.cells).cells ≠ zc
          rw [cmOf_cells hx]
          intro e
          have := (zcB_iff y).2 e
          rw [hb.2.1] at this
          cases this
        · cases hc

theorem take_lay {m : Mg} {h : Hd} (hm : May h) (hf : ∀ r ∈ m.cmds, Fits cmdK r) : LayAll h ((takeS m h).1.map lcOf) := by
  have h0 : LayAll h (([] : List Cg).map lcOf) := trivial
  have hN : LayAll h ((newsS m h m.cmds.length).map lcOf) := lay_insts _ _ fun c hc => by
    obtain ⟨x, hx, rfl⟩ := List.mem_map.1 hc
    exact ⟨newsS_kk m h _ x hx, news_lay hf _ x hx⟩
  unfold takeS
  split
  · exact h0
  · split
    · rename_i hk
      split
      · have e : (lcOf (chB m)).kk = m.kk := rfl
        exact ⟨⟨fun e2 => by omega, fun e1 _ => absurd (e.trans hk) e1⟩, trivial⟩
      · exact h0
    · split
      · rename_i hk
        have hK : ¬ (m.upto < 0 ∨ 1048576 < m.upto ∨ (m.upto = 0 ∧ ¬ (1 ≤ m.sn ∧ m.sn ≤ 1048577))) → ¬ m.upto = 0 → LayAll h ([chK m].map lcOf) := fun hb h0 => by
          have e : (lcOf (chK m)).kk = m.kk := rfl
          have e2 : (lcOf (chK m)).upto = m.upto := rfl
          exact ⟨⟨fun _ => by rw [e2]; omega, fun _ e3 => absurd (e.trans hk) e3⟩, trivial⟩
        unfold takeBS
        split
        · exact h0
        · rename_i hbad
          split
          · dsimp only
            split
            · exact hN
            · rename_i hu
              split
              · exact hK hbad hu
              · exact h0
          · dsimp only
            split
            · exact hN
            · rename_i hu
              split
              · exact hK hbad hu
              · exact h0
      · exact h0

/-- What the message that asks may be, in the r-th round. -/
def RndAsk (b : Hd) (r : Nat) (A : Mg) : Prop := Base A ∧ (1 ≤ r → A.kind = 21 ∧ A.kk = 2 ∧ A.sn ≤ 1048577 ∧ 64 * ((r : Int) - 1) + 2 ≤ A.sn ∧ b.upto < A.sn)

theorem rnd_ask {a b : Hd} (kk ka kb kc : Int) : RndAsk b 0 (askS 1 2 kk ka kb kc a) := by
  refine ⟨?_, fun h => absurd h (by decide)⟩
  unfold askS
  split
  · exact ⟨rfl, rfl, rfl, rfl⟩
  · split
    · exact ⟨rfl, rfl, rfl, rfl⟩
    · exact ⟨rfl, rfl, rfl, rfl⟩

theorem rnd_last {b : Hd} {A : Mg} (h : RndAsk b 17000 A) : False := by
  have := h.2 (by decide)
  omega

theorem rnd_step {a b : Hd} {A : Mg} {r : Nat} (hb : May b) (h : RndAsk b r A) (hmore : (takeS (haveS A b) a).2.2 = true) : RndAsk b (r + 1) (takeS (haveS A b) a).2.1 := by
  refine ⟨take_base _ _, fun _ => ?_⟩
  have hr := h.2
  have u0 := hb.u0
  have u1 := hb.u1
  have ht := top_bound hb
  revert hmore
  by_cases k1 : A.kind = 21
  · by_cases k2 : A.kk = 1
    · have e : (haveS A b).kk = 1 := by
        unfold haveS
        rw [if_neg (by simpa using k1), if_pos k2]
        split <;> exact k2
      unfold takeS
      by_cases k3 : (haveS A b).kind = 22
      · rw [if_neg (by simpa using k3), if_pos e]
        split <;> (intro hx; cases hx)
      · rw [if_pos k3]
        intro hx; cases hx
    · by_cases k3 : A.kk = 2 ∧ 1 ≤ A.sn ∧ A.sn ≤ 1048577
      · have e : haveS A b = haveB (haveM A) A.sn b := by
          unfold haveS
          rw [if_neg (by simpa using k1), if_neg k2, if_pos k3]
        rw [e]
        by_cases k4 : A.sn ≤ b.upto
        · have e2 : haveB (haveM A) A.sn b = { haveM A with upto := b.upto, ents := b.ents, lasts := b.lasts, more := decide (b.upto < topS b) } := by unfold haveB; rw [if_pos k4]
          rw [e2]
          have q : takeS { haveM A with upto := b.upto, ents := b.ents, lasts := b.lasts, more := decide (b.upto < topS b) } a = takeBS { haveM A with upto := b.upto, ents := b.ents, lasts := b.lasts, more := decide (b.upto < topS b) } a := by
            unfold takeS
            rw [if_neg (by simp [haveM]), if_neg (by show ¬ A.kk = 1; exact k2), if_pos (by show A.kk = 2; exact k3.1)]
          rw [q]
          unfold takeBS
          dsimp only
          rw [if_neg (by omega)]
          split
          · intro hx; cases hx
          · intro _
            dsimp only [onM]
            rw [if_neg (by omega)]
            have r0 : r = 0 := by
              rcases Nat.eq_zero_or_pos r with e | e
              · exact e
              · have := (hr e).2.2.2.2; omega
            subst r0
            exact ⟨rfl, k3.1, by omega, by simp; omega, by omega⟩
        · have e2 : haveB (haveM A) A.sn b = { haveM A with sn := A.sn, cmds := cmdsS b A.sn (lastS b A.sn - A.sn + 1).toNat, more := decide (lastS b A.sn < topS b) } := by unfold haveB; rw [if_neg k4]
          rw [e2]
          have q : takeS { haveM A with sn := A.sn, cmds := cmdsS b A.sn (lastS b A.sn - A.sn + 1).toNat, more := decide (lastS b A.sn < topS b) } a = takeBS { haveM A with sn := A.sn, cmds := cmdsS b A.sn (lastS b A.sn - A.sn + 1).toNat, more := decide (lastS b A.sn < topS b) } a := by
            unfold takeS
            rw [if_neg (by simp [haveM]), if_neg (by show ¬ A.kk = 1; exact k2), if_pos (by show A.kk = 2; exact k3.1)]
          rw [q]
          have eu : (haveM A).upto = 0 := rfl
          unfold takeBS
          dsimp only
          rw [eu, if_neg (by omega)]
          split
          · intro hx; cases hx
          · rename_i hmo
            intro _
            dsimp only [onM]
            rw [if_pos rfl]
            have hlt : lastS b A.sn < topS b := by
              rcases Decidable.em (lastS b A.sn < topS b) with hq | hq
              · exact hq
              · exact absurd (Or.inl (by simpa using hq)) hmo
            have hl : lastS b A.sn = A.sn + 63 := by
              unfold lastS at hlt ⊢
              split at hlt
              · omega
              · rw [if_neg (by assumption)]
                omega
            have hlen : ((cmdsS b A.sn (lastS b A.sn - A.sn + 1).toNat).length : Int) = 64 := by
              rw [hl]
              simp [cmdsS]
              omega
            rw [hlen]
            refine ⟨rfl, k3.1, by omega, ?_, by omega⟩
            rcases Nat.eq_zero_or_pos r with e0 | e0
            · subst e0
              simp
              omega
            · have := (hr e0).2.2.2.1
              push_cast
              omega
      · have e : haveS A b = mg0 := by
          unfold haveS
          rw [if_neg (by simpa using k1), if_neg k2, if_neg k3]
        rw [e]
        intro hx
        exact absurd hx (by unfold takeS; simp [mg0])
  · have e : haveS A b = mg0 := by
      unfold haveS
      rw [if_pos k1]
    rw [e]
    intro hx
    exact absurd hx (by unfold takeS; simp [mg0])
end Md
end Go.Proofs.Ytjobojgmadjmfaa
