/-
  Laid: the data.
-/
import Derived.Test.YtjobojgmadjmfaaMdLendH
import Derived.Test.YtjobojgmadjmfaaMdTakeS
namespace Go.Proofs.Ytjobojgmadjmfaa
open Go.Hp Go.RowKit
set_option linter.unusedVariables false
set_option linter.unusedSimpArgs false
set_option maxRecDepth 100000
set_option maxHeartbeats 4000000
namespace Md

/-- A change that is laid down: its instance whole. -/
structure Lc where
  kk : Int
  ka : Int
  kb : Int
  kc : Int
  sn : Int
  sc : Int
  blk : List UInt8
  a1 : Int
  a2 : Int
  a3 : Int
  a4 : Int
  cmd : Cm
  dec : Bool
  upto : Int
  ents : List (List Value)
  lasts : List (List Value)

def Lc.pl (c : Lc) : Pl := ⟨c.kb, [.int .i64 c.a1, .int .i64 c.a2, .int .i64 c.a3, .int .i64 c.a4], c.cmd.cells, c.dec⟩
def Lc.cells (c : Lc) (va ve vl : Value) : Array Value := #[.int .i64 c.kk, .int .i64 c.ka, .int .i64 c.kb, .int .i64 c.kc, .int .i64 c.sn, .int .i64 c.sc, va, .int .i64 c.a1, .int .i64 c.a2, .int .i64 c.a3, .int .i64 c.a4, .int .i64 c.cmd.k, .int .i64 c.cmd.cl, .int .i64 c.cmd.op, .string c.cmd.nm, .int .i64 c.cmd.f1, .int .i64 c.cmd.f2, .int .i64 c.cmd.n1, .int .i64 c.cmd.n2, .int .i64 c.cmd.sz, .bool c.dec, .int .i64 c.upto, ve, vl]

/-- One place of the old row. -/
def laidStep (u : Int) (p : Pl) (st : Bool × List Pl) (x : Pl) : Bool × List Pl :=
  if st.1 = false ∧ p.n ≤ x.n then
    if x.n = p.n then (true, st.2 ++ [p]) else (true, if u < x.n then st.2 ++ [p] ++ [x] else st.2 ++ [p])
  else (st.1, if u < x.n then st.2 ++ [x] else st.2)

def laidRow (u : Int) (p : Pl) (pl : Bool) (l : List Pl) : List Pl :=
  let st := l.foldl (laidStep u p) (pl, [])
  if st.1 = true then st.2 else st.2 ++ [p]

def laidS (h : Hd) (c : Lc) : Hd :=
  if c.kk = 1 then { h with sn := c.sn, sc := c.sc, data := c.blk }
  else if c.kk = 2 then { h with upto := c.upto, ents := c.ents, lasts := c.lasts, row := laidRow c.upto c.pl true h.row }
  else { h with row := laidRow h.upto c.pl false h.row }

theorem z44 : zeroT Try.prog 44 = some (.agg #[.int .i64 0, .int .i64 0, .slice none 0 0, .int .i64 0, .slice none 0 0, .slice none 0 0, .slice none 0 0]) := by kernel_rfl
theorem z88 : zeroT Try.prog 88 = some (.agg zP.toArray) := by kernel_rfl

theorem laidStep_len (u : Int) (p : Pl) (st : Bool × List Pl) (x : Pl) : (laidStep u p st x).2.length ≤ st.2.length + 2 := by
  unfold laidStep
  split
  · split
    · simp
    · dsimp only
      split <;> simp
  · dsimp only
    split <;> simp

theorem laid_true (u : Int) (p : Pl) : ∀ (l acc : List Pl), (l.foldl (laidStep u p) (true, acc)).1 = true
  | [], _ => rfl
  | x :: l, acc => by
    rw [List.foldl_cons]
    have e : laidStep u p (true, acc) x = (true, (laidStep u p (true, acc) x).2) := by unfold laidStep; simp
    rw [e]
    exact laid_true u p l _

theorem laid_len (u : Int) (p : Pl) (pl : Bool) : ∀ l : List Pl, (l.foldl (laidStep u p) (pl, [])).2.length ≤ 2 * l.length := by
  intro l
  have : ∀ (l : List Pl) (st : Bool × List Pl), (l.foldl (laidStep u p) st).2.length ≤ st.2.length + 2 * l.length := by
    intro l
    induction l with
    | nil => intro st; simp
    | cons x l ih =>
      intro st
      have h1 := ih (laidStep u p st x)
      have h2 := laidStep_len u p st x
      simp only [List.foldl_cons, List.length_cons]
      omega
  have := this l (pl, [])
  simpa using this
/-- What Laid hands back. -/
def LdPost (w0 : World) (L : List HProp) (h : Hd) (c : Lc) (vd ve vl vr va ve1 vl1 : Value) (e : Ending) (w' : World) : Prop :=
  ∃ vr', e = .returned (.agg (hdV (laidS h c) (if c.kk = 1 then va else vd) (if c.kk = 2 then ve1 else ve) (if c.kk = 2 then vl1 else vl) vr')) ∧ (if c.kk = 1 then vr' = vr ∧ At w0 L w' else At w0 (Hold vr' (laidS h c).row.length ((laidS h c).row.map Pl.cells).flatten :: L) w')

end Md
end Go.Proofs.Ytjobojgmadjmfaa
