/-
  What MendRow's inner loop needs: what is laid down is well-formed; a pool that holds the message too.
-/
import Derived.Test.YtjobojgmadjmfaaMdRowR
namespace Go.Proofs.Ytjobojgmadjmfaa
open Go.Hp Go.RowKit
set_option linter.unusedVariables false
set_option linter.unusedSimpArgs false
set_option maxRecDepth 100000
set_option maxHeartbeats 1000000
namespace Md

/-- Numbers of a change. -/
structure Cg.In (M : Mg) (c : Cg) : Prop where
  sn : In64 c.sn
  sc : In64 c.sc
  upto : In64 c.upto

theorem take_in {M : Mg} {a : Hd} (hM : M.Ok) : ∀ c ∈ (takeS M a).1, c.In M := by
  refine take_all (P := fun l => ∀ c ∈ l, c.In M) ?_ ?_ ?_ ?_
  · intro c hc; cases hc
  · intro c hc
    obtain rfl := List.mem_singleton.1 hc
    exact ⟨hM.sn, hM.sc, in0⟩
  · intro c hc
    obtain rfl := List.mem_singleton.1 hc
    exact ⟨in0, in0, hM.upto⟩
  · have : ∀ k, ∀ c ∈ newsS M a k, c.In M := by
      intro k
      induction k with
      | zero => intro c hc; cases hc
      | succ k ih =>
        intro c hc
        rw [newsS] at hc
        rcases List.mem_append.1 hc with hc | hc
        · exact ih c hc
        · revert hc
          cases M.cmds[k]? with
          | none => intro hc; cases hc
          | some x =>
            dsimp only
            split
            · intro hc
              obtain rfl := List.mem_singleton.1 hc
              exact ⟨in0, in0, in0⟩
            · intro hc; cases hc
    exact this _

theorem pl_ok {c : Cg} (hn : In64 c.kb) : (lcOf c).pl.Ok := ⟨hn, ⟨⟨_, rfl⟩, ⟨_, rfl⟩, ⟨_, rfl⟩, ⟨_, rfl⟩, trivial⟩, c.cmd.fits⟩

theorem laid_mem {u : Int} {p : Pl} {pl : Bool} {l : List Pl} : ∀ x ∈ laidRow u p pl l, x = p ∨ x ∈ l := by
  have hst : ∀ (l : List Pl) (st : Bool × List Pl), ∀ x ∈ (l.foldl (laidStep u p) st).2, x = p ∨ x ∈ l ∨ x ∈ st.2 := by
    intro l
    induction l with
    | nil => intro st x hx; exact .inr (.inr hx)
    | cons y l ih =>
      intro st x hx
      rw [List.foldl_cons] at hx
      rcases ih _ x hx with h | h | h
      · exact .inl h
      · exact .inr (.inl (by simp [h]))
      · have : x ∈ st.2 ∨ x = p ∨ x = y := by
          unfold laidStep at h
          split at h
          · split at h
            · simp at h; rcases h with h | h <;> simp [h]
            · dsimp only at h
              split at h
              · simp at h; rcases h with h | h | h <;> simp [h]
              · simp at h; rcases h with h | h <;> simp [h]
          · dsimp only at h
            split at h
            · simp at h; rcases h with h | h <;> simp [h]
            · exact .inl h
        rcases this with h | h | h
        · exact .inr (.inr h)
        · exact .inl h
        · exact .inr (.inl (by simp [h]))
  intro x hx
  unfold laidRow at hx
  dsimp only at hx
  split at hx
  · rcases hst l (pl, []) x hx with h | h | h
    · exact .inl h
    · exact .inr h
    · cases h
  · rcases List.mem_append.1 hx with hx | hx
    · rcases hst l (pl, []) x hx with h | h | h
      · exact .inl h
      · exact .inr h
      · cases h
    · exact .inl (List.mem_singleton.1 hx)

theorem laid_ok {M : Mg} {h : Hd} {c : Cg} (hm : May h) (hok : h.Ok) (hi : c.In M) (hc : c.Ok) (hl : LayOk h (lcOf c)) : (laidS h (lcOf c)).Ok := by
  have hu := hm.u0
  unfold laidS
  by_cases k1 : (lcOf c).kk = 1
  · rw [if_pos k1]
    exact ⟨hi.sn, hi.sc, hok.upto, hok.ents, hok.lasts, hok.row⟩
  · rw [if_neg k1]
    by_cases k2 : (lcOf c).kk = 2
    · rw [if_pos k2]
      refine ⟨hok.sn, hok.sc, hi.upto, hc.fe, hc.fl, fun p hp => ?_⟩
      have : p ∈ h.row := by
        have hp2 : p ∈ laidRow (lcOf c).upto (lcOf c).pl true h.row := hp
        rw [laidRow_bucket] at hp2
        exact (List.mem_filter.1 hp2).1
      exact hok.row p this
    · rw [if_neg k2]
      obtain ⟨q1, q2, _⟩ := hl.2 k1 k2
      have q1 : h.upto < c.kb := q1
      have q2 : c.kb ≤ 1048576 := q2
      refine ⟨hok.sn, hok.sc, hok.upto, hok.ents, hok.lasts, fun p hp => ?_⟩
      rcases laid_mem p hp with rfl | hp
      · exact pl_ok (in_small (by omega) (by omega))
      · exact hok.row p hp

theorem laid_sz {M : Mg} {h : Hd} {c : Cg} (hs : h.Sz) (hc : c.Ok) (hf : c.From M) (hb : M.blk.length ≤ 140737488355328) (hm2 : May (laidS h (lcOf c))) : (laidS h (lcOf c)).Sz := by
  have hr := may_len hm2
  have hbr : (laidS h (lcOf c)).row.length * 128 ≤ 140737488355328 := by omega
  revert hbr
  unfold laidS
  by_cases k1 : (lcOf c).kk = 1
  · rw [if_pos k1]
    intro hbr
    refine ⟨?_, hs.be, hs.bl, hbr⟩
    have k1 : c.kk = 1 := k1
    have := hf.1
    rw [if_pos k1] at this
    show c.blk.length ≤ _
    rw [this]
    exact hb
  · rw [if_neg k1]
    by_cases k2 : (lcOf c).kk = 2
    · rw [if_pos k2]
      intro hbr
      exact ⟨hs.bd, hc.be, hc.bl, hbr⟩
    · rw [if_neg k2]
      intro hbr
      exact ⟨hs.bd, hs.be, hs.bl, hbr⟩

/-- Where a change's lists lie. -/
theorem from_at {w : World} {M : Mg} {vb ve vl vc : Value} {c : Cg} (hm : MgAt w M vb ve vl vc) (hf : c.From M) : RowAt w (if c.kk = 1 then vb else nl) c.blk.length (bv c.blk) ∧ RecsAt w (if c.kk = 2 then ve else nl) 4 c.ents ∧ RecsAt w (if c.kk = 2 then vl else nl) 7 c.lasts := by
  obtain ⟨f1, f2⟩ := hf
  refine ⟨?_, ?_, ?_⟩
  · by_cases h1 : c.kk = 1
    · rw [if_pos h1] at f1 ⊢
      rw [f1]
      exact hm.b
    · rw [if_neg h1] at f1 ⊢
      rw [f1]
      exact nil_row (n := 0)
  · by_cases h1 : c.kk = 2
    · rw [if_pos h1] at f2 ⊢
      rw [f2.1]
      exact hm.e
    · rw [if_neg h1] at f2 ⊢
      rw [f2.1]
      exact nil_recs
  · by_cases h1 : c.kk = 2
    · rw [if_pos h1] at f2 ⊢
      rw [f2.2]
      exact hm.l
    · rw [if_neg h1] at f2 ⊢
      rw [f2.2]
      exact nil_recs

/-- A pool from which the message's lists can be read too. -/
def PoolM (W : World) (M : Mg) (vb ve3 vl3 vc : Value) (a : Hd) (vd ve vl vr : Value) (b : Hd) (vd2 ve2 vl2 vr2 : Value) (P : HProp) : Prop := ∀ (w0 w : World) (L : List HProp), At w0 (P :: L) w → HdAt w a vd ve vl vr ∧ HdAt w b vd2 ve2 vl2 vr2 ∧ MgAt w M vb ve3 vl3 vc ∧ At w0 (Arg W :: L) w

/-- What is laid down, and its pool. -/
def LdR (W : World) (M : Mg) (vb ve3 vl3 vc : Value) (h' : Hd) (b : Hd) (vd2 ve2 vl2 vr2 : Value) (v : Value) : HProp := fun hp => ∃ vd1 ve1 vl1 vr1 P2, v = .agg (hdV h' vd1 ve1 vl1 vr1) ∧ PoolM W M vb ve3 vl3 vc h' vd1 ve1 vl1 vr1 b vd2 ve2 vl2 vr2 P2 ∧ P2 hp

/-- From what Laid hands back. -/
theorem ldr_mk {W w0 w : World} {L : List HProp} {M : Mg} {vb ve3 vl3 vc : Value} {a : Hd} {vd ve vl vr : Value} {b : Hd} {vd2 ve2 vl2 vr2 : Value} {P : HProp} {c : Cg} (hf : c.From M) (hok : (laidS a (lcOf c)).Ok)
    (hP : PoolM W M vb ve3 vl3 vc a vd ve vl vr b vd2 ve2 vl2 vr2 P) {e : Ending} (h : LdPost w0 (P :: L) a (lcOf c) vd ve vl vr (if c.kk = 1 then vb else nl) (if c.kk = 2 then ve3 else nl) (if c.kk = 2 then vl3 else nl) e w) :
    ∃ v, e = .returned v ∧ At w0 (LdR W M vb ve3 vl3 vc (laidS a (lcOf c)) b vd2 ve2 vl2 vr2 v :: L) w := by
  obtain ⟨vr', rfl, h⟩ := h
  have ek : (lcOf c).kk = c.kk := rfl
  rw [ek] at h ⊢
  refine ⟨_, rfl, ?_⟩
  by_cases k1 : c.kk = 1
  · rw [if_pos k1] at h
    obtain ⟨rfl, H⟩ := h
    have k2 : ¬ c.kk = 2 := by omega
    refine H.imp fun hp hh => ⟨_, _, _, _, P, rfl, fun w0 w L HX => ?_, hh⟩
    obtain ⟨q1, q2, q3, q4⟩ := hP _ _ _ HX
    refine ⟨?_, q2, q3, q4⟩
    have hfa := from_at q3 hf
    rw [if_pos k1] at hfa
    unfold laidS
    simp only [ek, if_pos k1, if_neg k2]
    exact ⟨hfa.1, q1.e, q1.l, q1.r⟩
  · rw [if_neg k1] at h
    refine (At.fold (M := [_, _]) h).imp fun hp hh => ⟨_, _, _, _, Stars [_, P], rfl, fun w0 w L HX => ?_, hh⟩
    have HY : At w0 (Hold _ _ _ :: P :: L) w := At.flat HX
    obtain ⟨q1, q2, q3, q4⟩ := hP _ _ _ HY.drop
    have hr := hold_at HY
    have hfa := from_at q3 hf
    refine ⟨?_, q2, q3, q4⟩
    have hrow : RecsAt w vr' 15 ((laidS a (lcOf c)).row.map Pl.cells) := ⟨by rw [List.length_map]; exact hr, len15 hok⟩
    rw [if_neg k1]
    by_cases k2 : c.kk = 2
    · simp only [if_pos k2]
      simp only [if_pos k2] at hfa
      refine ⟨?_, ?_, ?_, hrow⟩
      · have e : (laidS a (lcOf c)).data = a.data := by unfold laidS; rw [if_neg (by rw [ek]; exact k1), if_pos (ek.trans k2)]
        rw [e]; exact q1.d
      · have e : (laidS a (lcOf c)).ents = c.ents := by unfold laidS; rw [if_neg (by rw [ek]; exact k1), if_pos (ek.trans k2)]; rfl
        rw [e]; exact hfa.2.1
      · have e : (laidS a (lcOf c)).lasts = c.lasts := by unfold laidS; rw [if_neg (by rw [ek]; exact k1), if_pos (ek.trans k2)]; rfl
        rw [e]; exact hfa.2.2
    · simp only [if_neg k2]
      refine ⟨?_, ?_, ?_, hrow⟩
      · have e : (laidS a (lcOf c)).data = a.data := by unfold laidS; rw [if_neg (by rw [ek]; exact k1), if_neg (by rw [ek]; exact k2)]
        rw [e]; exact q1.d
      · have e : (laidS a (lcOf c)).ents = a.ents := by unfold laidS; rw [if_neg (by rw [ek]; exact k1), if_neg (by rw [ek]; exact k2)]
        rw [e]; exact q1.e
      · have e : (laidS a (lcOf c)).lasts = a.lasts := by unfold laidS; rw [if_neg (by rw [ek]; exact k1), if_neg (by rw [ek]; exact k2)]
        rw [e]; exact q1.l

theorem ldr_open {W w0 w : World} {L : List HProp} {M : Mg} {vb ve3 vl3 vc : Value} {h' b : Hd} {vd2 ve2 vl2 vr2 v : Value} (H : At w0 (LdR W M vb ve3 vl3 vc h' b vd2 ve2 vl2 vr2 v :: L) w) :
    ∃ vd1 ve1 vl1 vr1 P2, v = .agg (hdV h' vd1 ve1 vl1 vr1) ∧ PoolM W M vb ve3 vl3 vc h' vd1 ve1 vl1 vr1 b vd2 ve2 vl2 vr2 P2 ∧ At w0 (P2 :: L) w := by
  obtain ⟨vd1, H⟩ := At.ex H
  obtain ⟨ve1, H⟩ := At.ex H
  obtain ⟨vl1, H⟩ := At.ex H
  obtain ⟨vr1, H⟩ := At.ex H
  obtain ⟨P2, H⟩ := At.ex H
  obtain ⟨q1, H⟩ := At.and H
  obtain ⟨q2, H⟩ := At.and H
  exact ⟨_, _, _, _, _, q1, q2, H⟩

theorem ldr_cells {W w0 w : World} {L : List HProp} {M : Mg} {vb ve3 vl3 vc : Value} {h' b : Hd} {vd2 ve2 vl2 vr2 v : Value} (H : At w0 (LdR W M vb ve3 vl3 vc h' b vd2 ve2 vl2 vr2 v :: L) w) :
    v = .agg (hdV h' (comp v 2) (comp v 4) (comp v 5) (comp v 6)) ∧ (comp v 2).oneCell' = true ∧ (comp v 4).oneCell' = true ∧ (comp v 5).oneCell' = true ∧ (comp v 6).oneCell' = true := by
  obtain ⟨vd1, ve1, vl1, vr1, P2, rfl, hp, H⟩ := ldr_open H
  have q := (hp _ _ _ H).1
  exact ⟨rfl, row_one q.d, row_one q.e.1, row_one q.l.1, row_one q.r.1⟩

/-- The message's lists go into the pool. -/
theorem poolM_mk {W w0 w : World} {L : List HProp} {M : Mg} {vb ve3 vl3 vc : Value} {a b : Hd} {vd ve vl vr vd2 ve2 vl2 vr2 : Value} {P : HProp} (hM : M.Fit) (hP : Pool W a vd ve vl vr b vd2 ve2 vl2 vr2 P)
    (H : At w0 (Hold vb M.blk.length (bv M.blk) :: Hold ve3 M.ents.length M.ents.flatten :: Hold vl3 M.lasts.length M.lasts.flatten :: Hold vc M.cmds.length M.cmds.flatten :: P :: L) w) :
    ∃ P1, PoolM W M vb ve3 vl3 vc a vd ve vl vr b vd2 ve2 vl2 vr2 P1 ∧ At w0 (P1 :: L) w := by
  refine ⟨_, ?_, At.fold (M := [_, _, _, _, _]) H⟩
  intro w0 w L HX
  have HY : At w0 (Hold vb M.blk.length (bv M.blk) :: Hold ve3 M.ents.length M.ents.flatten :: Hold vl3 M.lasts.length M.lasts.flatten :: Hold vc M.cmds.length M.cmds.flatten :: P :: L) w := At.flat HX
  obtain ⟨q1, q2, q3⟩ := hP _ _ _ (HY.pick 4 rfl)
  exact ⟨q1, q2, msgR_at hM HY, q3.sel 5 [0]⟩

theorem lay_next {a : Hd} {l : List Cg} {i : Nat} {c : Cg} (hc : l[i]? = some c) (h : LayAll a ((l.drop i).map lcOf)) : LayOk a (lcOf c) ∧ LayAll (laidS a (lcOf c)) ((l.drop (i + 1)).map lcOf) := by
  obtain ⟨hi, rfl⟩ := List.getElem?_eq_some_iff.1 hc
  rw [List.drop_eq_getElem_cons hi] at h
  exact h

theorem pool_of {W : World} {M : Mg} {vb ve3 vl3 vc : Value} {a b : Hd} {vd ve vl vr vd2 ve2 vl2 vr2 : Value} {P : HProp} (h : PoolM W M vb ve3 vl3 vc a vd ve vl vr b vd2 ve2 vl2 vr2 P) : Pool W a vd ve vl vr b vd2 ve2 vl2 vr2 P :=
  fun w0 w L H => ⟨(h _ _ _ H).1, (h _ _ _ H).2.1, (h _ _ _ H).2.2.2⟩

/-- The cells of one change in its row. -/
theorem row_cell {w : World} {ad : Option Addr} {cap : Nat} {l : List Cg} {vb ve vl : Value} (h : RowAt w (.slice ad l.length cap) l.length (chRows vb ve vl l).flatten) {i : Nat} {c : Cg} (hc : l[i]? = some c) {b : Addr} (hb : ad = some b) (j : Nat) (u : Value)
    (hj : (c.cells (if c.kk = 1 then vb else nl) (if c.kk = 2 then ve else nl) (if c.kk = 2 then vl else nl))[j]? = some u) : w.cell? ((b.add (i * 24)).add j) = some u := by
  subst hb
  have e : (chRows vb ve vl l).length = l.length := by simp [chRows]
  have R : RecsAt w (.slice (some b) l.length cap) 24 (chRows vb ve vl l) := ⟨by rw [e]; exact h, fun r hr => by obtain ⟨c, _, rfl⟩ := List.mem_map.1 hr; rfl⟩
  rw [Addr.add_add]
  exact R.cell (by rw [e]) (show (chRows vb ve vl l)[i]? = some _ by unfold chRows; rw [List.getElem?_map, hc]; rfl) hj
end Md
end Go.Proofs.Ytjobojgmadjmfaa
