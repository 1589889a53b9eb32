/-
  Facts of the ring's types.
-/
import Derived.Test.YtohfboolicheeaaRows
import Derived.Test.YtohfboolicheeaaRgPure
import Derived.Outline
import Derived.IntWalk
namespace Go.Proofs.Ytohfboolicheeaa
open Go.Hp Go.RowKit
set_option linter.unusedVariables false
set_option linter.unusedSimpArgs false
namespace Rg

theorem a29 : aggT Try.prog 29 = true := by kernel_rfl
theorem s29 : sizeT Try.prog 29 = some 6 := by kernel_rfl
theorem z29 : zeroT Try.prog 29 = some (.agg #[.slice none 0 0, .int .i64 0, .int .i64 0, .int .i64 0, .int .i64 0, .int .i64 0]) := by kernel_rfl
theorem a38 : aggT Try.prog 38 = true := by kernel_rfl
theorem s38 : sizeT Try.prog 38 = some 4 := by kernel_rfl
theorem z38 : zeroT Try.prog 38 = some (.agg #[.int .i64 0, .int .i64 0, .int .i64 0, .int .i64 0]) := by kernel_rfl
theorem a87 : aggT Try.prog 87 = true := by kernel_rfl
theorem s87 : sizeT Try.prog 87 = some 3 := by kernel_rfl
theorem z87 : zeroT Try.prog 87 = some (.agg #[.int .i64 0, .int .i64 0, .int .i64 0]) := by kernel_rfl
theorem bt87 : bytesT Try.prog 87 = some 24 := by kernel_rfl
theorem a81 : aggT Try.prog 81 = true := by kernel_rfl
theorem s81 : sizeT Try.prog 81 = some 3 := by kernel_rfl
theorem z81 : zeroT Try.prog 81 = some (.agg #[.int .i64 0, .int .i64 0, .int .i64 0]) := by kernel_rfl
theorem bt81 : bytesT Try.prog 81 = some 24 := by kernel_rfl
theorem a84 : aggT Try.prog 84 = true := by kernel_rfl
theorem s84 : sizeT Try.prog 84 = some 7 := by kernel_rfl
theorem z84 : zeroT Try.prog 84 = some (.agg #[.slice none 0 0, .int .i64 0, .int .i64 0, .int .i64 0, .int .i64 0, .int .i64 0, .slice none 0 0]) := by kernel_rfl
theorem a45 : aggT Try.prog 45 = true := by kernel_rfl
theorem s45 : sizeT Try.prog 45 = some 7 := by kernel_rfl
theorem z45 : zeroT Try.prog 45 = some (.agg #[.slice none 0 0, .int .i64 0, .int .i64 0, .int .i64 0, .int .i64 0, .int .i64 0, .slice none 0 0]) := by kernel_rfl
theorem st3 : sizeT Try.prog 3 = some 1 := by kernel_rfl
theorem bt3 : bytesT Try.prog 3 = some 8 := by kernel_rfl
theorem zt3 : zeroT Try.prog 3 = some (.int .i64 0) := by kernel_rfl
theorem st5 : sizeT Try.prog 5 = some 1 := by kernel_rfl
theorem bt5 : bytesT Try.prog 5 = some 1 := by kernel_rfl
theorem zt5 : zeroT Try.prog 5 = some (.int .u8 0) := by kernel_rfl

def keyK : List Ck := [.int .i64, .int .i64, .int .i64, .int .i64]
def Ky.cells (k : Ky) : List Value := [.int .i64 k.k, .int .i64 k.a, .int .i64 k.b, .int .i64 k.c]
def Pt.cells (p : Pt) : List Value := [.int .i64 p.h, .int .i64 p.s, .int .i64 p.n]
def iC (n : Int) : List Value := [.int .i64 n]
def iCs (l : List Int) : List Value := (l.map iC).flatten
def pCs (l : List Pt) : List Value := (l.map Pt.cells).flatten
theorem iCs_len (l : List Int) : (iCs l).length = l.length * 1 := by
  unfold iCs
  rw [flat_len (size := 1) (by intro r hr; obtain ⟨e, _, rfl⟩ := List.mem_map.1 hr; rfl), List.length_map]
theorem pCs_len (l : List Pt) : (pCs l).length = l.length * 3 := by
  unfold pCs
  rw [flat_len (size := 3) (by intro r hr; obtain ⟨e, _, rfl⟩ := List.mem_map.1 hr; rfl), List.length_map]
theorem iCs_one (l : List Int) : ∀ u ∈ iCs l, u.oneCell' = true := by
  intro u hu
  obtain ⟨r, hr, hu2⟩ := List.mem_flatten.1 hu
  obtain ⟨c, _, rfl⟩ := List.mem_map.1 hr
  simp only [iC, List.mem_cons, List.not_mem_nil, or_false] at hu2
  subst hu2
  rfl
theorem pCs_one (l : List Pt) : ∀ u ∈ pCs l, u.oneCell' = true := by
  intro u hu
  obtain ⟨r, hr, hu2⟩ := List.mem_flatten.1 hu
  obtain ⟨c, _, rfl⟩ := List.mem_map.1 hr
  simp only [Pt.cells, List.mem_cons, List.not_mem_nil, or_false] at hu2
  rcases hu2 with rfl | rfl | rfl <;> rfl
theorem iCs_app (a b : List Int) : iCs (a ++ b) = iCs a ++ iCs b := by unfold iCs; simp
theorem pCs_app (a b : List Pt) : pCs (a ++ b) = pCs a ++ pCs b := by unfold pCs; simp

/-- Rows of the call's own: numbers, points of either side. -/
def OI (v : Value) (l : List Int) : HProp := OwnRow 3 1 v l.length (iCs l)
def OP (t : TypeId) (v : Value) (l : List Pt) : HProp := OwnRow t 3 v l.length (pCs l)
section
variable {w0 w : World} {L : List HProp}
theorem oi_recs {v : Value} {l : List Int} (H : At w0 (OI v l :: L) w) : RecsAt w v 1 (l.map iC) := by
  obtain ⟨ad, cap, h1, h2, h3, h4, h5, h6⟩ := own_value H
  exact ⟨⟨ad, cap, by rw [List.length_map]; exact h1, by rw [List.length_map]; exact h2, h3, by rw [List.length_map]; exact h5, h6⟩, by intro r hr; obtain ⟨e, _, rfl⟩ := List.mem_map.1 hr; rfl⟩
theorem op_recs {t : TypeId} {v : Value} {l : List Pt} (H : At w0 (OP t v l :: L) w) : RecsAt w v 3 (l.map Pt.cells) := by
  obtain ⟨ad, cap, h1, h2, h3, h4, h5, h6⟩ := own_value H
  exact ⟨⟨ad, cap, by rw [List.length_map]; exact h1, by rw [List.length_map]; exact h2, h3, by rw [List.length_map]; exact h5, h6⟩, by intro r hr; obtain ⟨e, _, rfl⟩ := List.mem_map.1 hr; rfl⟩
theorem own_form {e : TypeId} {size n : Nat} {v : Value} {xs : List Value} (H : At w0 (OwnRow e size v n xs :: L) w) : ∃ ad n' cap, v = .slice ad n' cap := by
  obtain ⟨ad, cap, hv, _⟩ := own_value H
  exact ⟨ad, _, cap, hv⟩
theorem oi_nil (H : At w0 L w) : At w0 (OI (.slice none 0 0) [] :: L) w := own_nil H 3 1
theorem op_nil (t : TypeId) (H : At w0 L w) : At w0 (OP t (.slice none 0 0) [] :: L) w := own_nil H t 3
theorem recs_get {α : Type} {f : α → List Value} {sz : Nat} {w : World} {row : List α} {b : Addr} {cap : Nat} (hr : RecsAt w (.slice (some b) row.length cap) sz (row.map f)) {k : Nat} {p : α} (hk : row[k]? = some p) :
    ∀ j u, (f p)[j]? = some u → w.cell? ((b.add (k * sz)).add j) = some u := by
  intro j u hj
  rw [Addr.add_add]
  exact hr.cell (cap := cap) (by rw [List.length_map]) (by rw [List.getElem?_map, hk]; rfl) hj
theorem recs_int {w : World} {row : List Int} {b : Addr} {cap : Nat} (hr : RecsAt w (.slice (some b) row.length cap) 1 (row.map iC)) {k : Nat} {n : Int} (hk : row[k]? = some n) : w.cell? (b.add k) = some (.int .i64 n) := by
  have := recs_get hr hk 0 _ rfl
  rwa [Addr.add_add, Nat.mul_one, Nat.add_zero] at this
end
end Rg
end Go.Proofs.Ytohfboolicheeaa
