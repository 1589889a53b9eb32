/-
  What the arguments of bucket's statements read as.
-/
import Derived.Test.YtcofcikdknmggaaBkChg
namespace Go.Proofs.Ytcofcikdknmggaa
open Go.Hp Go.RowKit Go.ChangeShapes Go.Deep
set_option linter.unusedVariables false
set_option linter.unusedSimpArgs false
set_option maxRecDepth 100000
set_option maxHeartbeats 1000000
namespace Bk

def i64K : Sh := .ck (.int .i64)
def bucketSh : List Sh := [i64K, .recs entK 40, .recs lastK 56]
def cmdSh : List Sh := [i64K, i64K, i64K, .ck .str, i64K, i64K, i64K, i64K, i64K]
theorem sh25 : shT Try.prog 9 25 = some bucketSh := by kernel_rfl
theorem sh29 : shT Try.prog 9 29 = some cmdSh := by kernel_rfl
theorem sh34 : shT Try.prog 9 34 = some [.recs cmdK 80] := by kernel_rfl
theorem sh3 : shT Try.prog 9 3 = some [.ck (.int .i64)] := by kernel_rfl

theorem i64_of {n : Int} (h : IntKind.i64 = .i64 → I64 n) : I64 n := h rfl
def strOf (v : Value) : ByteArray := match v with | .string b => b | _ => ⟨#[]⟩

def enOf (r : List Value) : En := ⟨strOf (r.getD 0 undef), intOf (r.getD 1 undef), intOf (r.getD 2 undef), intOf (r.getD 3 undef)⟩
def laOf (r : List Value) : La := ⟨intOf (r.getD 0 undef), intOf (r.getD 1 undef), intOf (r.getD 2 undef), intOf (r.getD 3 undef), intOf (r.getD 4 undef), intOf (r.getD 5 undef), intOf (r.getD 6 undef)⟩
def cmOf (r : List Value) : Cm := ⟨intOf (r.getD 0 undef), intOf (r.getD 1 undef), intOf (r.getD 2 undef), strOf (r.getD 3 undef), intOf (r.getD 4 undef), intOf (r.getD 5 undef), intOf (r.getD 6 undef), intOf (r.getD 7 undef), intOf (r.getD 8 undef)⟩

theorem en_cells {r : List Value} (h : Fits entK r) : (enOf r).cells = r := by
  match r, h with
  | [_, _, _, _], ⟨⟨a, rfl⟩, ⟨b, rfl⟩, ⟨c, rfl⟩, ⟨d, rfl⟩, _⟩ => rfl
theorem la_cells {r : List Value} (h : Fits lastK r) : (laOf r).cells = r := by
  match r, h with
  | [_, _, _, _, _, _, _], ⟨⟨a, rfl⟩, ⟨b, rfl⟩, ⟨c, rfl⟩, ⟨d, rfl⟩, ⟨e, rfl⟩, ⟨f, rfl⟩, ⟨g, rfl⟩, _⟩ => rfl
theorem cm_cells {r : List Value} (h : Fits cmdK r) : (cmOf r).cells = r := by
  match r, h with
  | [_, _, _, _, _, _, _, _, _], ⟨⟨a, rfl⟩, ⟨b, rfl⟩, ⟨c, rfl⟩, ⟨d, rfl⟩, ⟨e, rfl⟩, ⟨f, rfl⟩, ⟨g, rfl⟩, ⟨i, rfl⟩, ⟨j, rfl⟩, _⟩ => rfl
theorem map_back {α : Type} {f : α → List Value} {g : List Value → α} {ks : List Ck} (h : ∀ r, Fits ks r → f (g r) = r) {rs : List (List Value)} (hr : ∀ r ∈ rs, FitsR ks r) : (rs.map g).map f = rs := by
  rw [List.map_map]
  conv => rhs; rw [← List.map_id rs]
  apply List.map_congr_left
  intro r hr2
  exact h r (hr r hr2).fits

section
variable {W : World} {B : Nat} {ss : List Sh} {cs : List Value}
theorem sh_int (h : ShFits W B (i64K :: ss) cs) : ∃ n vs, cs = .int .i64 n :: vs ∧ I64 n ∧ ShFits W B ss vs := by
  cases cs with
  | nil => exact h.elim
  | cons v vs => obtain ⟨⟨n, rfl, q⟩, h2⟩ := h; exact ⟨n, vs, rfl, i64_of q, h2⟩
theorem sh_str (h : ShFits W B (.ck .str :: ss) cs) : ∃ b vs, cs = .string b :: vs ∧ ShFits W B ss vs := by
  cases cs with
  | nil => exact h.elim
  | cons v vs => obtain ⟨⟨b, rfl⟩, h2⟩ := h; exact ⟨b, vs, rfl, h2⟩
theorem sh_recs {ks : List Ck} {b : Nat} (h : ShFits W B (.recs ks b :: ss) cs) : ∃ v vs, cs = v :: vs ∧ (∃ rs : List (List Value), RecsAt W v ks.length rs ∧ (∀ r ∈ rs, FitsR ks r) ∧ rs.length * b ≤ B) ∧ ShFits W B ss vs := by
  cases cs with
  | nil => exact h.elim
  | cons v vs => exact ⟨v, vs, rfl, h.1, h.2⟩
theorem sh_nil (h : ShFits W B [] cs) : cs = [] := by
  cases cs with
  | nil => rfl
  | cons v vs => exact h.elim
end

variable {H : Type} {enc : TypeId × Value → H} {W : World}

theorem sh_arg {t : TypeId} {ss : List Sh} {fs : Array Field} (ht : Try.prog.underlying t = some (.struct fs)) (hs : shT Try.prog 9 t = some ss) {base : Nat} {v : Value} {d : DataW H} {p : List MemPlace} (hv : Value.okWide Try.prog W .any base t v) (h : DataW.Trod enc Try.prog W 0 (fun _ => true) true t v d p) (hw : ((d.weights Try.prog t).all (· ≤ reachBytes)) = true) :
    ∃ cs : List Value, v = .agg cs.toArray ∧ ShFits W reachBytes ss cs := by
  obtain ⟨cs, rfl, hl⟩ := Go.WideShapes.okWide_struct ht hv
  obtain ⟨fuel, hf⟩ := h
  have := sh_trod (B := reachBytes) 9 t ss hs _ _ _ hf hw
  exact ⟨cs.toList, by simp, this⟩

theorem reach_le {n : Nat} (h : n ≤ reachBytes) : n ≤ 140737488351232 := Nat.le_trans h (by decide)

/-- A bucket with the slices that read so. -/
structure Bu0 where
  u : Int
  es : List En
  ls : List La
  ve : Value
  vl : Value

/-- A bucket that is handed in. -/
structure BuArg (W : World) (v : Value) (b : Bu0) : Prop where
  v : v = .agg #[.int .i64 b.u, b.ve, b.vl]
  e : RecsAt W b.ve 4 (b.es.map En.cells)
  l : RecsAt W b.vl 7 (b.ls.map La.cells)
  u : I64 b.u
  be : b.es.length * 40 ≤ 140737488351232
  bl : b.ls.length * 56 ≤ 140737488351232

theorem arg_Bucket {base : Nat} {v : Value} {d : DataW H} {p : List MemPlace} (hv : Value.okWide Try.prog W .any base 25 v) (h : DataW.Trod enc Try.prog W 0 (fun _ => true) true 25 v d p) (hw : ((d.weights Try.prog 25).all (· ≤ reachBytes)) = true) :
    ∃ b, BuArg W v b := by
  obtain ⟨cs0, rfl, hf0⟩ := sh_arg Try.underlying25 sh25 hv h hw
  obtain ⟨u, cs1, rfl, qu, hf1⟩ := sh_int hf0
  obtain ⟨ve, cs2, rfl, ⟨es, he1, he2, he3⟩, hf2⟩ := sh_recs hf1
  obtain ⟨vl, cs3, rfl, ⟨ls, hl1, hl2, hl3⟩, hf3⟩ := sh_recs hf2
  obtain rfl := sh_nil hf3
  exact ⟨⟨u, es.map enOf, ls.map laOf, ve, vl⟩, rfl, by rw [map_back (fun r => en_cells) he2]; exact he1, by rw [map_back (fun r => la_cells) hl2]; exact hl1, qu, by rw [List.length_map]; exact reach_le he3, by rw [List.length_map]; exact reach_le hl3⟩

/-- A command, handed in. -/
def CmArg (v : Value) (c : Cm) : Prop := v = .agg c.cells.toArray
theorem arg_Cmd {base : Nat} {v : Value} {d : DataW H} {p : List MemPlace} (hv : Value.okWide Try.prog W .any base 29 v) (h : DataW.Trod enc Try.prog W 0 (fun _ => true) true 29 v d p) (hw : ((d.weights Try.prog 29).all (· ≤ reachBytes)) = true) :
    ∃ c, CmArg v c := by
  obtain ⟨cs0, rfl, hf0⟩ := sh_arg Try.underlying29 sh29 hv h hw
  obtain ⟨k, cs1, rfl, -, hf1⟩ := sh_int hf0
  obtain ⟨cl, cs2, rfl, -, hf2⟩ := sh_int hf1
  obtain ⟨op, cs3, rfl, -, hf3⟩ := sh_int hf2
  obtain ⟨nm, cs4, rfl, hf4⟩ := sh_str hf3
  obtain ⟨a, cs5, rfl, -, hf5⟩ := sh_int hf4
  obtain ⟨b, cs6, rfl, -, hf6⟩ := sh_int hf5
  obtain ⟨c, cs7, rfl, -, hf7⟩ := sh_int hf6
  obtain ⟨e, cs8, rfl, -, hf8⟩ := sh_int hf7
  obtain ⟨f, cs9, rfl, -, hf9⟩ := sh_int hf8
  obtain rfl := sh_nil hf9
  exact ⟨⟨k, cl, op, nm, a, b, c, e, f⟩, rfl⟩

/-- A number, handed in. -/
def IntArg (v : Value) (n : Int) : Prop := v = .int .i64 n ∧ I64 n
theorem arg_int {base : Nat} {v : Value} {d : DataW H} {p : List MemPlace} (hv : Value.okWide Try.prog W .any base 3 v) (h : DataW.Trod enc Try.prog W 0 (fun _ => true) true 3 v d p) (hw : ((d.weights Try.prog 3).all (· ≤ reachBytes)) = true) :
    ∃ n, IntArg v n := by
  obtain ⟨n, rfl, _, _, _⟩ := open_int Try.underlying3 hv h
  obtain ⟨fuel, hf⟩ := h
  have := sh_trod (B := reachBytes) 9 _ _ sh3 _ _ _ hf hw
  obtain ⟨⟨m, he, hq⟩, _⟩ := this
  cases he
  exact ⟨n, rfl, hq rfl⟩

/-- A row of commands, handed in. -/
def CmsArg (W : World) (v : Value) (l : List Cm) : Prop := RecsAt W v 9 (l.map Cm.cells) ∧ l.length * 80 ≤ 140737488351232
theorem arg_cmds {base : Nat} {v : Value} {d : DataW H} {p : List MemPlace} (hv : Value.okWide Try.prog W .any base 34 v) (h : DataW.Trod enc Try.prog W 0 (fun _ => true) true 34 v d p) (hw : ((d.weights Try.prog 34).all (· ≤ reachBytes)) = true) :
    ∃ l, CmsArg W v l := by
  obtain ⟨sa, sl, sc, rfl⟩ := Go.WideShapes.okWide_slice Try.underlying34 hv
  obtain ⟨fuel, hf⟩ := h
  have := sh_trod (B := reachBytes) 9 _ _ sh34 _ _ _ hf hw
  obtain ⟨⟨rs, h1, h2, h3⟩, _⟩ := this
  exact ⟨rs.map cmOf, by rw [map_back (fun r => cm_cells) h2]; exact h1, by rw [List.length_map]; exact reach_le h3⟩
end Bk
end Go.Proofs.Ytcofcikdknmggaa
