/-
  Mends of every ordered pair, as functions of the data: what a pair's two mends leave; behind all pairs all hold the same block, and each knows what any knew.
-/
import Derived.Test.YtjobojgmadjmfaaMdEn
namespace Go.Proofs.Ytjobojgmadjmfaa
open Go.Hp Go.RowKit
set_option linter.unusedVariables false
set_option linter.unusedSimpArgs false
namespace Md

def blkOf (sn sc : Int) : List UInt8 := if sn = 0 then [] else [UInt8.ofNat sn.toNat, UInt8.ofNat sc.toNat]

structure BlkOk (h : Hd) : Prop where
  n0 : 0 ≤ h.sn
  n3 : h.sn ≤ 3
  c0 : 0 ≤ h.sc
  c3 : h.sc ≤ 3
  z : h.sn = 0 → h.sc = 0
  d : h.data = blkOf h.sn h.sc

structure GoodH (T : Int) (h : Hd) : Prop where
  blk : BlkOk h
  plain : ∃ u, 0 ≤ u ∧ u ≤ T ∧ PlainH u T h

/-- What is held behind a mend of the block. -/
def mixK (a b : Hd) : Hd := if lessS a.sn a.sc b.sn b.sc = true then { a with sn := b.sn, sc := b.sc, data := b.data } else a

theorem mend_block {a b : Hd} (ha : BlkOk a) (hb : BlkOk b) (f t : Int) : rowS 299 (askS f t 1 3 1 0 a) a b = (mixK a b, 1, true) := by
  have hA : (askS f t 1 3 1 0 a).kind = 21 ∧ (askS f t 1 3 1 0 a).kk = 1 := by
    unfold askS
    rw [if_pos rfl]
    exact ⟨rfl, rfl⟩
  generalize askS f t 1 3 1 0 a = A at *
  obtain ⟨k1, k2⟩ := hA
  have hM : haveS A b = if b.sn = 0 ∧ b.sc = 0 then haveM A else { haveM A with sn := b.sn, sc := b.sc, blk := b.data } := by
    unfold haveS
    rw [if_neg (by simpa using k1), if_pos k2]
  have m1 : (haveS A b).kind = 22 := by rw [hM]; split <;> rfl
  have m2 : (haveS A b).kk = 1 := by rw [hM]; split <;> exact k2
  have m3 : (haveS A b).sn = b.sn ∧ (haveS A b).sc = b.sc := by
    rw [hM]
    split
    · rename_i h; exact ⟨h.1.symm, h.2.symm⟩
    · exact ⟨rfl, rfl⟩
  have m4 : lessS a.sn a.sc b.sn b.sc = true → (haveS A b).blk = b.data := by
    intro hl
    rw [hM]
    split
    · rename_i h
      exfalso
      simp only [lessS, Bool.or_eq_true, decide_eq_true_eq, Bool.and_eq_true, beq_iff_eq] at hl
      have := ha.n0
      have := ha.c0
      omega
    · rfl
  obtain ⟨M, hMM⟩ : ∃ M, haveS A b = M := ⟨_, rfl⟩
  rw [hMM] at m1 m2 m3 m4
  have ht : takeS M a = (if lessS a.sn a.sc b.sn b.sc = true then [chB M] else [], mg0, false) := by
    unfold takeS
    rw [if_neg (by simpa using m1), if_pos m2, m3.1, m3.2]
    split <;> rfl
  show rowS (298 + 1) A a b = _
  unfold rowS
  rw [hMM, ht]
  dsimp only
  rw [if_neg Bool.false_ne_true]
  unfold mixK
  by_cases hl : lessS a.sn a.sc b.sn b.sc = true
  · rw [if_pos hl, if_pos hl]
    have e : layS a ([chB M].map lcOf) = { a with sn := b.sn, sc := b.sc, data := b.data } := by
      have k1 : (lcOf (chB M)).kk = 1 := m2
      show laidS a (lcOf (chB M)) = _
      unfold laidS
      rw [if_pos k1, ← m3.1, ← m3.2, ← m4 hl]
      rfl
    rw [e]
  · rw [if_neg hl, if_neg hl]
    rfl

theorem knows_mix {a b : Hd} (i : Int) : knowsS (mixK a b) i = knowsS a i := by
  unfold mixK
  split <;> rfl

theorem less_total {a b c d : Int} (h : lessS a b c d = false) (h2 : lessS c d a b = false) : a = c ∧ b = d := by
  simp only [lessS, Bool.or_eq_false_iff, decide_eq_false_iff_not, Bool.and_eq_false_imp, beq_iff_eq] at h h2
  obtain ⟨h1, h3⟩ := h
  obtain ⟨h4, h5⟩ := h2
  have : a = c := by omega
  have := h3 this
  have := h5 (by omega)
  exact ⟨by omega, by omega⟩

theorem less_trans {a b c d e f : Int} (h : lessS c d a b = false) (h2 : lessS e f c d = false) : lessS e f a b = false := by
  simp only [lessS, Bool.or_eq_false_iff, decide_eq_false_iff_not, Bool.and_eq_false_imp, beq_iff_eq] at h h2 ⊢
  obtain ⟨h1, h3⟩ := h
  obtain ⟨h4, h5⟩ := h2
  refine ⟨by omega, fun e1 => ?_⟩
  have e2 : e = c := by omega
  have e3 : c = a := by omega
  have := h3 e3
  have := h5 e2
  omega

/-- What a pair's two mends leave. -/
structure StepP (T : Int) (a b y : Hd) : Prop where
  good : GoodH T y
  mono : ∀ i, knowsS a i = true → knowsS y i = true
  got : ∀ i, knowsS b i = true → knowsS y i = true
  upA : lessS y.sn y.sc a.sn a.sc = false
  upB : lessS y.sn y.sc b.sn b.sc = false
  one : (y.sn = a.sn ∧ y.sc = a.sc) ∨ (y.sn = b.sn ∧ y.sc = b.sc)

theorem good_mix {T : Int} {a b : Hd} (ha : GoodH T a) (hb : GoodH T b) : GoodH T (mixK a b) := by
  unfold mixK
  split
  · have q := hb.blk
    obtain ⟨u, u0, u1, hp⟩ := ha.plain
    have n0 := q.n0
    have n3 := q.n3
    have c0 := q.c0
    have c3 := q.c3
    exact ⟨⟨q.n0, q.n3, q.c0, q.c3, q.z, q.d⟩, u, u0, u1, ⟨⟨hp.may.u0, hp.may.u1, hp.may.rise, hp.may.lo, hp.may.hi, hp.may.z, hp.may.kind⟩, ⟨in_of (by show -1099511627776 ≤ b.sn; omega) (by show b.sn ≤ _; omega), in_of (by show -1099511627776 ≤ b.sc; omega) (by show b.sc ≤ _; omega), hp.ok.upto, hp.ok.ents, hp.ok.lasts, hp.ok.row⟩, hp.up, hp.e, hp.l, hp.r⟩⟩
  · exact ha

theorem step_pair {T : Int} (hT : T ≤ 19000) {a b : Hd} (ha : GoodH T a) (hb : GoodH T b) (f t : Int) : (rowS 299 (askS f t 2 0 0 0 (mixK a b)) (mixK a b) b).2.2 = true ∧ StepP T a b (rowS 299 (askS f t 2 0 0 0 (mixK a b)) (mixK a b) b).1 := by
  have hx := good_mix ha hb
  obtain ⟨u, u0, u1, hp⟩ := hx.plain
  obtain ⟨ub, ub0, ub1, hpb⟩ := hb.plain
  have r := mend_bucket hp hpb u1 ub1 hT f t
  have q := hx.blk
  refine ⟨r.ok, ⟨⟨by rw [r.sn]; exact q.n0, by rw [r.sn]; exact q.n3, by rw [r.sc]; exact q.c0, by rw [r.sc]; exact q.c3, by rw [r.sn, r.sc]; exact q.z, by rw [r.data, r.sn, r.sc]; exact q.d⟩, r.plain⟩, fun i hi => r.mono i (by rw [knows_mix]; exact hi), r.got, ?_, ?_, ?_⟩
  · rw [r.sn, r.sc]
    unfold mixK
    split
    · rename_i h; exact less_asym h
    · exact less_irr _ _
  · rw [r.sn, r.sc]
    unfold mixK
    split
    · exact less_irr _ _
    · rename_i h; exact by simpa using h
  · rw [r.sn, r.sc]
    unfold mixK
    split
    · exact .inr ⟨rfl, rfl⟩
    · exact .inl ⟨rfl, rfl⟩

/-- What holds while the pairs are gone through: F at first, G now, D the pairs that are through. -/
structure InvP (T : Int) (F G : List Hd) (D : Nat → Nat → Prop) : Prop where
  len : G.length = F.length
  good : ∀ g ∈ G, GoodH T g
  mono : ∀ (i : Nat) (f g : Hd), F[i]? = some f → G[i]? = some g → ∀ at_, knowsS f at_ = true → knowsS g at_ = true
  up : ∀ (i : Nat) (f g : Hd), F[i]? = some f → G[i]? = some g → lessS g.sn g.sc f.sn f.sc = false
  one : ∀ (i : Nat) (g : Hd), G[i]? = some g → ∃ (j : Nat) (f : Hd), F[j]? = some f ∧ g.sn = f.sn ∧ g.sc = f.sc
  done : ∀ (i j : Nat) (g f : Hd), D i j → G[i]? = some g → F[j]? = some f → (∀ at_, knowsS f at_ = true → knowsS g at_ = true) ∧ lessS g.sn g.sc f.sn f.sc = false

theorem inv_start {T : Int} {F : List Hd} (h : ∀ g ∈ F, GoodH T g) : InvP T F F (fun i j => i = j) :=
  ⟨rfl, h, fun i f g hf hg at_ hk => by rw [hf] at hg; cases hg; exact hk, fun i f g hf hg => by rw [hf] at hg; cases hg; exact less_irr _ _, fun i g hg => ⟨i, g, hg, rfl, rfl⟩,
    fun i j g f hd hg hf => by subst hd; rw [hf] at hg; cases hg; exact ⟨fun _ h => h, less_irr _ _⟩⟩

theorem inv_step {T : Int} {F G : List Hd} {D : Nat → Nat → Prop} (h : InvP T F G D) {a b : Nat} {ga gb y : Hd} (ha : G[a]? = some ga) (hb : G[b]? = some gb) (hs : StepP T ga gb y) : InvP T F (G.set a y) (fun i j => D i j ∨ (i = a ∧ j = b)) := by
  have hal := (List.getElem?_eq_some_iff.1 ha).1
  have hbl := (List.getElem?_eq_some_iff.1 hb).1
  have get : ∀ (i : Nat) (g : Hd), (G.set a y)[i]? = some g → (i = a ∧ g = y) ∨ (i ≠ a ∧ G[i]? = some g) := fun i g hg => by
    rw [List.getElem?_set] at hg
    by_cases hi : a = i
    · subst hi
      simp [hal] at hg
      exact .inl ⟨rfl, hg.symm⟩
    · rw [if_neg hi] at hg
      exact .inr ⟨fun e => hi e.symm, hg⟩
  refine ⟨by simp [h.len], fun g hg => ?_, fun i f g hf hg at_ hk => ?_, fun i f g hf hg => ?_, fun i g hg => ?_, fun i j g f hd hg hf => ?_⟩
  · rcases List.mem_or_eq_of_mem_set hg with hg | rfl
    · exact h.good g hg
    · exact hs.good
  · rcases get i g hg with ⟨rfl, rfl⟩ | ⟨_, hg⟩
    · exact hs.mono _ (h.mono i f ga hf ha at_ hk)
    · exact h.mono i f g hf hg at_ hk
  · rcases get i g hg with ⟨rfl, rfl⟩ | ⟨_, hg⟩
    · exact less_trans (h.up i f ga hf ha) hs.upA
    · exact h.up i f g hf hg
  · rcases get i g hg with ⟨rfl, rfl⟩ | ⟨_, hg⟩
    · rcases hs.one with ⟨e1, e2⟩ | ⟨e1, e2⟩
      · obtain ⟨j, f, hj, e3, e4⟩ := h.one i ga ha
        exact ⟨j, f, hj, e1.trans e3, e2.trans e4⟩
      · obtain ⟨j, f, hj, e3, e4⟩ := h.one b gb hb
        exact ⟨j, f, hj, e1.trans e3, e2.trans e4⟩
    · exact h.one i g hg
  · rcases get i g hg with ⟨rfl, rfl⟩ | ⟨hia, hg⟩
    · rcases hd with hd | ⟨_, rfl⟩
      · obtain ⟨q1, q2⟩ := h.done i j ga f hd ha hf
        exact ⟨fun at_ hk => hs.mono _ (q1 at_ hk), less_trans q2 hs.upA⟩
      · exact ⟨fun at_ hk => hs.got _ (h.mono j f gb hf hb at_ hk), less_trans (h.up j f gb hf hb) hs.upB⟩
    · rcases hd with hd | ⟨e, _⟩
      · exact h.done i j g f hd hg hf
      · exact absurd e hia

/-- Behind all pairs. -/
theorem inv_end {T : Int} {F G : List Hd} {D : Nat → Nat → Prop} (h : InvP T F G D) (hD : ∀ i j, i < F.length → j < F.length → D i j) {i j : Nat} {g g' : Hd} (hi : G[i]? = some g) (hj : G[j]? = some g') : g.sn = g'.sn ∧ g.sc = g'.sc ∧ g.data = g'.data := by
  have hil := (List.getElem?_eq_some_iff.1 hi).1
  have hjl := (List.getElem?_eq_some_iff.1 hj).1
  rw [h.len] at hil hjl
  obtain ⟨p, f, hp, e1, e2⟩ := h.one i g hi
  obtain ⟨q, f', hq, e3, e4⟩ := h.one j g' hj
  have hpl := (List.getElem?_eq_some_iff.1 hp).1
  have hql := (List.getElem?_eq_some_iff.1 hq).1
  have q1 := (h.done i q g f' (hD i q hil hql) hi hq).2
  have q2 := (h.done j p g' f (hD j p hjl hpl) hj hp).2
  rw [← e3, ← e4] at q1
  rw [← e1, ← e2] at q2
  obtain ⟨r1, r2⟩ := less_total q1 q2
  refine ⟨r1, r2, ?_⟩
  rw [(h.good g (List.mem_of_getElem? hi)).blk.d, (h.good g' (List.mem_of_getElem? hj)).blk.d, r1, r2]

/-- Two of a row change their places: each is still there. -/
theorem swap_mem {l : List Int} {a b : Nat} {x y : Int} (ha : l[a]? = some x) (hb : l[b]? = some y) {m : Int} (hm : ∃ q : Nat, l[q]? = some m) : ∃ q : Nat, ((l.set a y).set b x)[q]? = some m := by
  have hal := (List.getElem?_eq_some_iff.1 ha).1
  have hbl := (List.getElem?_eq_some_iff.1 hb).1
  obtain ⟨q, hq⟩ := hm
  by_cases hqa : q = a
  · subst hqa
    rw [ha] at hq
    cases hq
    exact ⟨b, by simp [hbl]⟩
  · by_cases hqb : q = b
    · subst hqb
      rw [hb] at hq
      cases hq
      refine ⟨a, ?_⟩
      rw [List.getElem?_set_ne (fun e => hqa e), List.getElem?_set_self hal]
    · exact ⟨q, by rw [List.getElem?_set_ne (fun e => hqb e.symm), List.getElem?_set_ne (fun e => hqa e.symm)]; exact hq⟩
end Md
end Go.Proofs.Ytjobojgmadjmfaa
