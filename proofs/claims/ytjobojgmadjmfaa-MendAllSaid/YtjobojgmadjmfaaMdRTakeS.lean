/-
  The reference's Take: what it hands back.
-/
import Derived.Test.YtjobojgmadjmfaaMdTwo
import Derived.Test.YtjobojgmadjmfaaMdREdge
import Derived.Test.YtjobojgmadjmfaaMdTake
namespace Go.Proofs.Ytjobojgmadjmfaa
open Go.Hp Go.RowKit
set_option linter.unusedVariables false
set_option linter.unusedSimpArgs false
set_option maxRecDepth 100000
set_option maxHeartbeats 4000000
namespace Md

theorem s71 : sizeT Try.prog 71 = some 24 := by kernel_rfl
theorem z71 : zeroT Try.prog 71 = some (.agg (chI 0 0 cm0 |>.set 0 (.int .i64 0) |>.set 20 (.bool false)).toArray) := by kernel_rfl

theorem chs_nil {w : World} : ChsAt w nl [] := ⟨[], nil_recs, rfl, fun i c r hc => by simp at hc⟩

theorem chs_one {w : World} {v va ve vl : Value} {c : Cg} (hv : RowAt w v 1 (c.cells va ve vl)) (ha : RowAt w va c.blk.length (bv c.blk)) (he : RecsAt w ve 4 c.ents) (hl : RecsAt w vl 7 c.lasts) : ChsAt w v [c] := by
  refine ⟨[c.cells va ve vl], ⟨?_, fun r hr => ?_⟩, rfl, fun i c' r hc hr => ?_⟩
  · rwa [List.flatten_cons, List.flatten_nil, List.append_nil]
  · obtain rfl := List.mem_singleton.1 hr
    rfl
  · cases i with
    | succ i => simp at hc
    | zero =>
      obtain rfl : c = c' := by simpa using hc
      obtain rfl : c.cells va ve vl = r := by simpa using hr
      exact ⟨va, ve, vl, rfl, ha, he, hl⟩

theorem chs_news {w : World} {v : Value} {m : Mg} {h : Hd} {k : Nat} (H : RowAt w v (learnedN m h k).length (learnedN m h k).flatten) : ChsAt w v (newsS m h k) := by
  refine ⟨learnedN m h k, ⟨H, fun r hr => ?_⟩, ?_, fun i c r hc hr => ?_⟩
  · rw [learnedN_eq] at hr
    obtain ⟨c, _, rfl⟩ := List.mem_map.1 hr
    rfl
  · rw [learnedN_eq, List.length_map]
  · rw [learnedN_eq, List.getElem?_map, hc] at hr
    obtain rfl := Option.some.inj hr
    obtain ⟨h1, h2, h3⟩ := newsS_mem m h k c (List.mem_of_getElem? hc)
    refine ⟨nl, nl, nl, rfl, ?_, ?_, ?_⟩
    · rw [h1]; exact nil_row (n := 0)
    · rw [h2]; exact nil_recs
    · rw [h3]; exact nil_recs

/-- The rows that changes lie in: their slices are the message's own. -/
def chRows (vb ve vl : Value) (l : List Cg) : List (List Value) := l.map fun c => c.cells (if c.kk = 1 then vb else nl) (if c.kk = 2 then ve else nl) (if c.kk = 2 then vl else nl)

theorem chRows_B {m : Mg} (hk : m.kk = 1) (vb ve vl : Value) : (chRows vb ve vl [chB m]).flatten = [] ++ (chB m).cells vb nl nl := by
  have e : (chB m).kk = m.kk := rfl
  simp [chRows, e, hk]
theorem chRows_K {m : Mg} (hk : m.kk = 2) (vb ve vl : Value) : (chRows vb ve vl [chK m]).flatten = [] ++ (chK m).cells nl ve vl := by
  have e : (chK m).kk = m.kk := rfl
  simp [chRows, e, hk]
theorem newsS_kk (m : Mg) (h : Hd) : ∀ k, ∀ c ∈ newsS m h k, c.kk = 3
  | 0 => fun c hc => by cases hc
  | k + 1 => fun c hc => by
    rw [newsS] at hc
    rcases List.mem_append.1 hc with hc | hc
    · exact newsS_kk m h k c hc
    · revert hc
      cases m.cmds[k]? with
      | none => intro hc; cases hc
      | some x =>
        dsimp only
        split
        · intro hc
          obtain rfl := List.mem_singleton.1 hc
          rfl
        · intro hc; cases hc
theorem chRows_news (m : Mg) (h : Hd) (k : Nat) (vb ve vl : Value) : chRows vb ve vl (newsS m h k) = learnedN m h k := by
  rw [learnedN_eq]
  unfold chRows
  apply List.map_congr_left
  intro c hc
  have e := newsS_kk m h k c hc
  simp [e]

/-- What the reference's Take hands back, its row in what is the call's own. -/
def RTh (w0 : World) (L : List HProp) (x : List Cg × Mg × Bool) (vb ve vl : Value) (e : Ending) (w' : World) : Prop := ∃ v, e = .returned (.tuple #[v, .agg (mgV x.2.1 nl nl nl nl), .bool x.2.2]) ∧ At w0 (Hold v x.1.length (chRows vb ve vl x.1).flatten :: L) w'

theorem endT {w0 W w : World} {L : List HProp} {v : Value} {n n' : Nat} {xs ys : List Value} (en : n' = n) (e : ys = xs) (H : At W (OwnRow 71 24 v n xs :: Arg W :: []) w) (H0 : At w0 L W) : At w0 (Hold v n' ys :: L) w := by
  subst en e
  exact (show At W ([Hold _ _ _] ++ [Arg W]) _ from hold_of own_own H).lift H0

/-- What a change has of a message. -/
def Cg.From (m : Mg) (c : Cg) : Prop := (if c.kk = 1 then c.blk = m.blk else c.blk = []) ∧ (if c.kk = 2 then c.ents = m.ents ∧ c.lasts = m.lasts else c.ents = [] ∧ c.lasts = [])

theorem chs_of {w : World} {m : Mg} {vb ve vl vc v : Value} (hm : MgAt w m vb ve vl vc) {l : List Cg} (hf : ∀ c ∈ l, c.From m) (hr : RowAt w v l.length (chRows vb ve vl l).flatten) : ChsAt w v l := by
  refine ⟨chRows vb ve vl l, ⟨?_, fun r hr => ?_⟩, by simp [chRows], fun i c r hc hr => ?_⟩
  · have e : (chRows vb ve vl l).length = l.length := by simp [chRows]
    rw [e]
    exact hr
  · obtain ⟨c, _, rfl⟩ := List.mem_map.1 hr
    rfl
  · unfold chRows at hr
    rw [List.getElem?_map, hc] at hr
    obtain rfl := Option.some.inj hr
    obtain ⟨f1, f2⟩ := hf c (List.mem_of_getElem? hc)
    refine ⟨_, _, _, rfl, ?_, ?_, ?_⟩
    · by_cases h1 : c.kk = 1
      · rw [if_pos h1] at f1 ⊢
        rw [f1]
        exact hm.b
      · rw [if_neg h1] at f1 ⊢
        rw [f1]
        exact nil_row (n := 0)
    · by_cases h1 : c.kk = 2
      · rw [if_pos h1] at f2 ⊢
        rw [f2.1]
        exact hm.e
      · rw [if_neg h1] at f2 ⊢
        rw [f2.1]
        exact nil_recs
    · by_cases h1 : c.kk = 2
      · rw [if_pos h1] at f2 ⊢
        rw [f2.2]
        exact hm.l
      · rw [if_neg h1] at f2 ⊢
        rw [f2.2]
        exact nil_recs

/-- What the reference's Take hands back. -/
def RTk (w0 : World) (L : List HProp) (x : List Cg × Mg × Bool) (e : Ending) (w' : World) : Prop := ∃ v, e = .returned (.tuple #[v, .agg (mgV x.2.1 nl nl nl nl), .bool x.2.2]) ∧ ChsAt w' v x.1 ∧ At w0 L w'

end Md
end Go.Proofs.Ytjobojgmadjmfaa
