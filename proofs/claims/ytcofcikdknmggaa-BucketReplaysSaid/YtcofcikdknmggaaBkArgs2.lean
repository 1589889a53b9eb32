/-
  What further arguments of bucket's statements read as: rows of strings, of numbers.
-/
import Derived.Test.YtcofcikdknmggaaBkArgs
import Derived.ChangeMaps5
namespace Go.Proofs.Ytcofcikdknmggaa
open Go.Hp Go.RowKit Go.ChangeShapes Go.Deep
set_option linter.unusedVariables false
set_option linter.unusedSimpArgs false
set_option maxRecDepth 100000
set_option maxHeartbeats 1000000
namespace Bk

theorem sh46 : shT Try.prog 9 46 = some [.recs [.str] 16] := by kernel_rfl
theorem sh47 : shT Try.prog 9 47 = some [.recs [.int .i64] 8] := by kernel_rfl

def strC (s : ByteArray) : List Value := [.string s]
def intC (n : Int) : List Value := [.int .i64 n]
theorem str_cells {r : List Value} (h : Fits [.str] r) : strC (strOf (r.getD 0 undef)) = r := by
  match r, h with
  | [_], ⟨⟨a, rfl⟩, _⟩ => rfl
theorem int_cells {r : List Value} (h : Fits [.int .i64] r) : intC (intOf (r.getD 0 undef)) = r := by
  match r, h with
  | [_], ⟨⟨a, rfl⟩, _⟩ => rfl

variable {H : Type} {enc : TypeId × Value → H} {W : World}
/-- A row of strings, handed in. -/
def StrsArg (W : World) (v : Value) (l : List ByteArray) : Prop := RecsAt W v 1 (l.map strC) ∧ l.length * 16 ≤ 140737488351232
theorem arg_strings {base : Nat} {v : Value} {d : DataW H} {p : List MemPlace} (hv : Value.okWide Try.prog W .any base 46 v) (h : DataW.Trod enc Try.prog W 0 (fun _ => true) true 46 v d p) (hw : ((d.weights Try.prog 46).all (· ≤ reachBytes)) = true) :
    ∃ l, StrsArg W v l := by
  obtain ⟨sa, sl, sc, rfl⟩ := Go.WideShapes.okWide_slice Try.underlying46 hv
  obtain ⟨fuel, hf⟩ := h
  have := sh_trod (B := reachBytes) 9 _ _ sh46 _ _ _ hf hw
  obtain ⟨⟨rs, h1, h2, h3⟩, _⟩ := this
  exact ⟨rs.map (fun r => strOf (r.getD 0 undef)), by rw [map_back (fun r => str_cells) h2]; exact h1, by rw [List.length_map]; exact reach_le h3⟩

/-- A row of whole numbers, handed in. -/
def IntsArg (W : World) (v : Value) (l : List Int) : Prop := RecsAt W v 1 (l.map intC) ∧ l.length * 8 ≤ 140737488351232
theorem arg_ints {base : Nat} {v : Value} {d : DataW H} {p : List MemPlace} (hv : Value.okWide Try.prog W .any base 47 v) (h : DataW.Trod enc Try.prog W 0 (fun _ => true) true 47 v d p) (hw : ((d.weights Try.prog 47).all (· ≤ reachBytes)) = true) :
    ∃ l, IntsArg W v l := by
  obtain ⟨sa, sl, sc, rfl⟩ := Go.WideShapes.okWide_slice Try.underlying47 hv
  obtain ⟨fuel, hf⟩ := h
  have := sh_trod (B := reachBytes) 9 _ _ sh47 _ _ _ hf hw
  obtain ⟨⟨rs, h1, h2, h3⟩, _⟩ := this
  exact ⟨rs.map (fun r => intOf (r.getD 0 undef)), by rw [map_back (fun r => int_cells) h2]; exact h1, by rw [List.length_map]; exact reach_le h3⟩

/-- A string, handed in. -/
def StrArg (v : Value) (s : ByteArray) : Prop := v = .string s
theorem arg_string {base : Nat} {v : Value} {d : DataW H} {p : List MemPlace} (hv : Value.okWide Try.prog W .any base 9 v) (h : DataW.Trod enc Try.prog W 0 (fun _ => true) true 9 v d p) (hw : ((d.weights Try.prog 9).all (· ≤ reachBytes)) = true) :
    ∃ s, StrArg v s := by
  obtain ⟨s, rfl, _, _, _⟩ := Go.ChangeMaps.open_string Try.underlying9 hv h
  exact ⟨s, rfl⟩
theorem z29 : zeroT Try.prog 29 = some (.agg #[.int .i64 0, .int .i64 0, .int .i64 0, .string ⟨#[]⟩, .int .i64 0, .int .i64 0, .int .i64 0, .int .i64 0, .int .i64 0]) := by kernel_rfl
end Bk
end Go.Proofs.Ytcofcikdknmggaa
