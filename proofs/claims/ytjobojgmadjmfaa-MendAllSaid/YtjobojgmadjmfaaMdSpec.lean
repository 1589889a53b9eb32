/-
  What mend speaks of, as plain data: places of a row, what is held, messages; what slices of records read as.
-/
import Derived.Test.YtjobojgmadjmfaaRows
import Derived.Test.YtjobojgmadjmfaaEng
import Derived.Outline
namespace Go.Proofs.Ytjobojgmadjmfaa
open Go.Hp Go.RowKit
set_option linter.unusedVariables false
set_option linter.unusedSimpArgs false
namespace Md

theorem a39 : aggT Try.prog 39 = true := by kernel_rfl
theorem s39 : sizeT Try.prog 39 = some 30 := by kernel_rfl
theorem a49 : aggT Try.prog 49 = true := by kernel_rfl
theorem s49 : sizeT Try.prog 49 = some 7 := by kernel_rfl
theorem a44 : aggT Try.prog 44 = true := by kernel_rfl
theorem s44 : sizeT Try.prog 44 = some 7 := by kernel_rfl
theorem a86 : aggT Try.prog 86 = true := by kernel_rfl
theorem s86 : sizeT Try.prog 86 = some 15 := by kernel_rfl
theorem a88 : aggT Try.prog 88 = true := by kernel_rfl
theorem s88 : sizeT Try.prog 88 = some 15 := by kernel_rfl
theorem a27 : aggT Try.prog 27 = true := by kernel_rfl
theorem s27 : sizeT Try.prog 27 = some 2 := by kernel_rfl
theorem a32 : aggT Try.prog 32 = true := by kernel_rfl
theorem s32 : sizeT Try.prog 32 = some 9 := by kernel_rfl
theorem a69 : aggT Try.prog 69 = true := by kernel_rfl
theorem s69 : sizeT Try.prog 69 = some 14 := by kernel_rfl
theorem a101 : aggT Try.prog 101 = true := by kernel_rfl
theorem s101 : sizeT Try.prog 101 = some 4 := by kernel_rfl
theorem a104 : aggT Try.prog 104 = true := by kernel_rfl
theorem s104 : sizeT Try.prog 104 = some 7 := by kernel_rfl
theorem a36 : aggT Try.prog 36 = true := by kernel_rfl
theorem s36 : sizeT Try.prog 36 = some 3 := by kernel_rfl
theorem a41 : aggT Try.prog 41 = true := by kernel_rfl
theorem s41 : sizeT Try.prog 41 = some 3 := by kernel_rfl
theorem a25 : aggT Try.prog 25 = true := by kernel_rfl
theorem s25 : sizeT Try.prog 25 = some 4 := by kernel_rfl
theorem a23 : aggT Try.prog 23 = true := by kernel_rfl
theorem s23 : sizeT Try.prog 23 = some 2 := by kernel_rfl
theorem a87 : aggT Try.prog 87 = true := by kernel_rfl
theorem a71 : aggT Try.prog 71 = true := by kernel_rfl

def stK : List Ck := [.int .i64, .int .i64]
def keyK : List Ck := [.int .i64, .int .i64, .int .i64, .int .i64]
def adK : List Ck := [.bool, .int .i64]
def cmdK : List Ck := [.int .i64, .int .i64, .int .i64, .str, .int .i64, .int .i64, .int .i64, .int .i64, .int .i64]
def paK : List Ck := [.int .i64, .int .i64, .int .i64, .int .i64]
def instK : List Ck := paK ++ (cmdK ++ [.bool])
def placeK : List Ck := .int .i64 :: instK
def entK : List Ck := [.str, .int .i64, .int .i64, .int .i64]
def lastK : List Ck := [.int .i64, .int .i64, .int .i64, .int .i64, .int .i64, .int .i64, .int .i64]

theorem fStamp : flatT Try.prog 9 27 = some stK := by kernel_rfl
theorem fKey : flatT Try.prog 9 25 = some keyK := by kernel_rfl
theorem fAddr : flatT Try.prog 9 23 = some adK := by kernel_rfl
theorem fCmd : flatT Try.prog 9 32 = some cmdK := by kernel_rfl
theorem fInst : flatT Try.prog 9 69 = some instK := by kernel_rfl
theorem fPlace : flatT Try.prog 9 86 = some placeK := by kernel_rfl
theorem fEntry : flatT Try.prog 9 101 = some entK := by kernel_rfl
theorem fLast : flatT Try.prog 9 104 = some lastK := by kernel_rfl

/-- A place of a row. -/
structure Pl where
  n : Int
  pa : List Value
  cmd : List Value
  dec : Bool

def Pl.inst (p : Pl) : List Value := p.pa ++ (p.cmd ++ [.bool p.dec])
def Pl.cells (p : Pl) : List Value := .int .i64 p.n :: p.inst

def In64 (n : Int) : Prop := -9223372036854775808 ≤ n ∧ n ≤ 9223372036854775807

structure Pl.Ok (p : Pl) : Prop where
  n : In64 p.n
  pa : Fits paK p.pa
  cmd : Fits cmdK p.cmd

/-- What is held of a key. -/
structure Hd where
  sn : Int
  sc : Int
  data : List UInt8
  upto : Int
  ents : List (List Value)
  lasts : List (List Value)
  row : List Pl

structure Hd.Ok (h : Hd) : Prop where
  sn : In64 h.sn
  sc : In64 h.sc
  upto : In64 h.upto
  ents : ∀ r ∈ h.ents, Fits entK r
  lasts : ∀ r ∈ h.lasts, Fits lastK r
  row : ∀ p ∈ h.row, p.Ok

/-- The slices of what is held. -/
structure HdAt (w : World) (h : Hd) (vd ve vl vr : Value) : Prop where
  d : RowAt w vd h.data.length (bv h.data)
  e : RecsAt w ve 4 h.ents
  l : RecsAt w vl 7 h.lasts
  r : RecsAt w vr 15 (h.row.map Pl.cells)

def hdV (h : Hd) (vd ve vl vr : Value) : Array Value := #[.int .i64 h.sn, .int .i64 h.sc, vd, .int .i64 h.upto, ve, vl, vr]

theorem HdAt.ext {w w' : World} {h : Hd} {vd ve vl vr : Value} (H : HdAt w h vd ve vl vr) (he : Ext w w') : HdAt w' h vd ve vl vr := ⟨H.d.ext he, H.e.ext he, H.l.ext he, H.r.ext he⟩

/-- A command. -/
structure Cm where
  k : Int
  cl : Int
  op : Int
  nm : ByteArray
  f1 : Int
  f2 : Int
  n1 : Int
  n2 : Int
  sz : Int

def Cm.cells (c : Cm) : List Value := [.int .i64 c.k, .int .i64 c.cl, .int .i64 c.op, .string c.nm, .int .i64 c.f1, .int .i64 c.f2, .int .i64 c.n1, .int .i64 c.n2, .int .i64 c.sz]
theorem Cm.fits (c : Cm) : Fits cmdK c.cells := ⟨⟨_, rfl⟩, ⟨_, rfl⟩, ⟨_, rfl⟩, ⟨_, rfl⟩, ⟨_, rfl⟩, ⟨_, rfl⟩, ⟨_, rfl⟩, ⟨_, rfl⟩, ⟨_, rfl⟩, trivial⟩
def cm0 : Cm := ⟨0, 0, 0, ⟨#[]⟩, 0, 0, 0, 0, 0⟩

/-- A message; its lists apart. -/
structure Mg where
  kind : Int
  fc : Bool
  fi : Int
  tc : Bool
  ti : Int
  op : Int
  rd : Int
  kk : Int
  ka : Int
  kb : Int
  kc : Int
  sn : Int
  sc : Int
  hn : Int
  hc : Int
  blk : List UInt8
  cmd : Cm
  upto : Int
  ents : List (List Value)
  lasts : List (List Value)
  cmds : List (List Value)
  more : Bool

structure Mg.Ok (m : Mg) : Prop where
  kind : In64 m.kind
  fi : In64 m.fi
  ti : In64 m.ti
  op : In64 m.op
  rd : In64 m.rd
  kk : In64 m.kk
  ka : In64 m.ka
  kb : In64 m.kb
  kc : In64 m.kc
  sn : In64 m.sn
  sc : In64 m.sc
  hn : In64 m.hn
  hc : In64 m.hc
  upto : In64 m.upto
  ents : ∀ r ∈ m.ents, Fits entK r
  lasts : ∀ r ∈ m.lasts, Fits lastK r
  cmds : ∀ r ∈ m.cmds, Fits cmdK r

structure MgAt (w : World) (m : Mg) (vb ve vl vc : Value) : Prop where
  b : RowAt w vb m.blk.length (bv m.blk)
  e : RecsAt w ve 4 m.ents
  l : RecsAt w vl 7 m.lasts
  c : RecsAt w vc 9 m.cmds

def mgV (m : Mg) (vb ve vl vc : Value) : Array Value :=
  #[.int .i64 m.kind, .bool m.fc, .int .i64 m.fi, .bool m.tc, .int .i64 m.ti, .int .i64 m.op, .int .i64 m.rd, .int .i64 m.kk, .int .i64 m.ka, .int .i64 m.kb, .int .i64 m.kc,
    .int .i64 m.sn, .int .i64 m.sc, .int .i64 m.hn, .int .i64 m.hc, vb, .int .i64 m.cmd.k, .int .i64 m.cmd.cl, .int .i64 m.cmd.op, .string m.cmd.nm, .int .i64 m.cmd.f1, .int .i64 m.cmd.f2, .int .i64 m.cmd.n1, .int .i64 m.cmd.n2, .int .i64 m.cmd.sz,
    .int .i64 m.upto, ve, vl, vc, .bool m.more]

theorem MgAt.ext {w w' : World} {m : Mg} {vb ve vl vc : Value} (H : MgAt w m vb ve vl vc) (he : Ext w w') : MgAt w' m vb ve vl vc := ⟨H.b.ext he, H.e.ext he, H.l.ext he, H.c.ext he⟩

def zc : List Value := [.int .i64 0, .int .i64 0, .int .i64 0, .string ⟨#[]⟩, .int .i64 0, .int .i64 0, .int .i64 0, .int .i64 0, .int .i64 0]

/-- Nothing. -/
def mg0 : Mg := ⟨0, false, 0, false, 0, 0, 0, 0, 0, 0, 0, 0, 0, 0, 0, [], cm0, 0, [], [], [], false⟩

/-- The last one that is decided. -/
def topS (h : Hd) : Int := match h.row.reverse.find? (·.dec) with | some p => p.n | none => h.upto

/-- What is decided of an instance. -/
def decS (h : Hd) (n : Int) : Option (List Value) := (h.row.find? fun p => p.n == n && p.dec).map (·.cmd)

/-- Rising. -/
def Rising (l : List Pl) : Prop := ∀ (i j : Nat) (p q : Pl), i < j → l[i]? = some p → l[j]? = some q → p.n < q.n
end Md
end Go.Proofs.Ytjobojgmadjmfaa
