/-
  What Take brings: the data.
-/
import Derived.Test.YtjobojgmadjmfaaMdLearn
import Derived.Test.YtjobojgmadjmfaaEng
namespace Go.Proofs.Ytjobojgmadjmfaa
open Go.Hp Go.RowKit
set_option linter.unusedVariables false
set_option linter.unusedSimpArgs false
set_option maxRecDepth 100000
set_option maxHeartbeats 1000000
namespace Md

/-- A record that a mend brings. -/
structure Cg where
  kk : Int
  ka : Int
  kb : Int
  kc : Int
  sn : Int
  sc : Int
  blk : List UInt8
  cmd : Cm
  dec : Bool
  upto : Int
  ents : List (List Value)
  lasts : List (List Value)

def Cg.cells (c : Cg) (va ve vl : Value) : List Value :=
  [.int .i64 c.kk, .int .i64 c.ka, .int .i64 c.kb, .int .i64 c.kc, .int .i64 c.sn, .int .i64 c.sc, va, .int .i64 0, .int .i64 0, .int .i64 0, .int .i64 0,
    .int .i64 c.cmd.k, .int .i64 c.cmd.cl, .int .i64 c.cmd.op, .string c.cmd.nm, .int .i64 c.cmd.f1, .int .i64 c.cmd.f2, .int .i64 c.cmd.n1, .int .i64 c.cmd.n2, .int .i64 c.cmd.sz, .bool c.dec, .int .i64 c.upto, ve, vl]

/-- A record's cells, as they stand in memory. -/
def ChAt (w : World) (c : Cg) (r : List Value) : Prop := ∃ va ve vl, r = c.cells va ve vl ∧ RowAt w va c.blk.length (bv c.blk) ∧ RecsAt w ve 4 c.ents ∧ RecsAt w vl 7 c.lasts

def ChsAt (w : World) (v : Value) (l : List Cg) : Prop := ∃ rs, RecsAt w v 24 rs ∧ rs.length = l.length ∧ ∀ (i : Nat) (c : Cg) (r : List Value), l[i]? = some c → rs[i]? = some r → ChAt w c r

/-- Such records, in what is the call's own. -/
def HoldC (v : Value) (l : List Cg) : HProp := fun hp => ∃ R : HProp, (∀ (w0 w : World) (L : List HProp), At w0 (R :: L) w → ChsAt w v l) ∧ R hp

def chN (ka n : Int) (c : Cm) : Cg := ⟨3, ka, n, 0, 0, 0, [], c, true, 0, [], []⟩
def chK (m : Mg) : Cg := ⟨m.kk, m.ka, m.kb, m.kc, 0, 0, [], cm0, false, m.upto, m.ents, m.lasts⟩
def chB (m : Mg) : Cg := ⟨m.kk, m.ka, m.kb, m.kc, m.sn, m.sc, m.blk, cm0, false, 0, [], []⟩

/-- The instances that a message's commands bring. -/
def newsS (m : Mg) (h : Hd) : Nat → List Cg
  | 0 => []
  | k + 1 => newsS m h k ++ match m.cmds[k]? with
    | some c => if brings m h k c = true then [chN m.ka (m.sn + k) (cmOf c)] else []
    | none => []

theorem learnedN_eq (m : Mg) (h : Hd) : ∀ k, learnedN m h k = (newsS m h k).map fun c => c.cells nl nl nl
  | 0 => rfl
  | k + 1 => by
    rw [learnedN, newsS, learnedN_eq m h k, List.map_append]
    congr 1
    cases m.cmds[k]? with
    | none => rfl
    | some c =>
      dsimp only
      split <;> rfl

theorem newsS_mem (m : Mg) (h : Hd) : ∀ k, ∀ c ∈ newsS m h k, c.blk = [] ∧ c.ents = [] ∧ c.lasts = []
  | 0 => fun c hc => by cases hc
  | k + 1 => fun c hc => by
    rw [newsS] at hc
    rcases List.mem_append.1 hc with hc | hc
    · exact newsS_mem m h k c hc
    · revert hc
      cases m.cmds[k]? with
      | none => intro hc; cases hc
      | some x =>
        dsimp only
        split
        · intro hc
          obtain rfl := List.mem_singleton.1 hc
          exact ⟨rfl, rfl, rfl⟩
        · intro hc; cases hc

/-- The message that asks on. -/
def onM (m : Mg) (next : Int) : Mg := { mg0 with kind := 21, fc := m.tc, fi := m.ti, tc := m.fc, ti := m.fi, kk := m.kk, ka := m.ka, kb := m.kb, kc := m.kc, sn := next }

def takeBS (m : Mg) (h : Hd) : List Cg × Mg × Bool :=
  if m.upto < 0 ∨ 1048576 < m.upto ∨ (m.upto = 0 ∧ ¬ (1 ≤ m.sn ∧ m.sn ≤ 1048577)) then ([], mg0, false)
  else
    if m.more = false ∨ (m.upto = 0 ∧ m.cmds.length = 0) then (if m.upto = 0 then newsS m h m.cmds.length else if edgeS h < m.upto then [chK m] else [], mg0, false)
    else (if m.upto = 0 then newsS m h m.cmds.length else if edgeS h < m.upto then [chK m] else [], onM m (if m.upto = 0 then m.sn + m.cmds.length else m.upto + 1), true)

def takeS (m : Mg) (h : Hd) : List Cg × Mg × Bool :=
  if m.kind ≠ 22 then ([], mg0, false)
  else if m.kk = 1 then (if lessS h.sn h.sc m.sn m.sc = true then ([chB m], mg0, false) else ([], mg0, false))
  else if m.kk = 2 then takeBS m h
  else ([], mg0, false)

theorem nil_row {w : World} {n : Nat} : RowAt w nl 0 [] := ⟨none, 0, rfl, Nat.le_refl _, by simp [maxLen], fun h => absurd h (Nat.lt_irrefl _), fun b hb => by cases hb⟩
theorem nil_recs {w : World} {n : Nat} : RecsAt w nl n [] := ⟨nil_row (n := n), fun r hr => by cases hr⟩

theorem cells_len (c : Cg) (va ve vl : Value) : (c.cells va ve vl).length = 24 := rfl

section
variable {w0 w : World} {L : List HProp}

theorem holdc_at {v : Value} {l : List Cg} (H : At w0 (HoldC v l :: L) w) : ChsAt w v l := by
  obtain ⟨R, H⟩ := At.ex H
  obtain ⟨h, H2⟩ := At.and H
  exact h _ _ _ H2

theorem holdc_nil (H : At w0 L w) : At w0 (HoldC nl [] :: L) w :=
  (H.addEmp).imp fun _ hh => ⟨emp, fun _ _ _ _ => ⟨[], nil_recs, rfl, fun i c r hc => by simp at hc⟩, hh⟩

theorem holdc_news {v : Value} {m : Mg} {h : Hd} {k : Nat} (H : At w0 (Hold v (learnedN m h k).length (learnedN m h k).flatten :: L) w) : At w0 (HoldC v (newsS m h k) :: L) w := by
  refine H.imp fun _ hh => ?_
  obtain ⟨R, hR, hr⟩ := hh
  refine ⟨R, fun w0 w L H => ⟨learnedN m h k, ⟨hR _ _ _ H, fun r hr => ?_⟩, ?_, fun i c r hc hr => ?_⟩, hr⟩
  · rw [learnedN_eq] at hr
    obtain ⟨c, _, rfl⟩ := List.mem_map.1 hr
    rfl
  · rw [learnedN_eq, List.length_map]
  · rw [learnedN_eq, List.getElem?_map, hc] at hr
    obtain rfl := Option.some.inj hr
    obtain ⟨h1, h2, h3⟩ := newsS_mem m h k c (List.mem_of_getElem? hc)
    refine ⟨nl, nl, nl, rfl, ?_, ?_, ?_⟩
    · rw [h1]; exact nil_row (n := 0)
    · rw [h2]; exact nil_recs
    · rw [h3]; exact nil_recs

theorem holdc_one {v va ve vl : Value} {c : Cg} {Ra Re Rl : HProp} (ha : Own Ra va c.blk.length (bv c.blk)) (he : Own Re ve c.ents.length c.ents.flatten) (hl : Own Rl vl c.lasts.length c.lasts.flatten) (fe : ∀ r ∈ c.ents, r.length = 4) (fl : ∀ r ∈ c.lasts, r.length = 7)
    {R : HProp} (hv : Own R v 1 (c.cells va ve vl)) (H : At w0 (R :: Ra :: Re :: Rl :: L) w) : At w0 (HoldC v [c] :: L) w := by
  have H2 : At w0 ([R, Ra, Re, Rl] ++ L) w := H
  refine (At.fold H2).imp fun _ hh => ⟨Stars [R, Ra, Re, Rl], fun w0 w L HS => ?_, hh⟩
  have HS2 : At w0 (R :: Ra :: Re :: Rl :: L) w := At.flat HS
  refine ⟨[c.cells va ve vl], ⟨?_, fun r hr => ?_⟩, rfl, fun i c' r hc hr => ?_⟩
  · have := hv _ _ _ HS2
    rwa [List.flatten_cons, List.flatten_nil, List.append_nil]
  · obtain rfl := List.mem_singleton.1 hr
    rfl
  · cases i with
    | succ i => simp at hc
    | zero =>
      obtain rfl : c = c' := by simpa using hc
      obtain rfl : c.cells va ve vl = r := by simpa using hr
      exact ⟨va, ve, vl, rfl, ha _ _ _ (HS2.pick 1 rfl), ⟨he _ _ _ (HS2.pick 2 rfl), fe⟩, ⟨hl _ _ _ (HS2.pick 3 rfl), fl⟩⟩

theorem own_hold {v : Value} {n : Nat} {xs : List Value} : Own (Hold v n xs) v n xs := fun _ _ _ H => hold_at H

/-- What a Take hands back. -/
def TkPost (w0 : World) (L : List HProp) (x : List Cg × Mg × Bool) (e : Ending) (w' : World) : Prop := ∃ v, e = .returned (.tuple #[v, .agg (mgV x.2.1 nl nl nl nl), .bool x.2.2]) ∧ At w0 (HoldC v x.1 :: L) w'
end
end Md
end Go.Proofs.Ytjobojgmadjmfaa
