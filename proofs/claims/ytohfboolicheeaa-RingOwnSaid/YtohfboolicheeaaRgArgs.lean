/-
  What the arguments of the ring's statements read as.
-/
import Derived.Test.YtohfboolicheeaaRgBoth
import Derived.ChangeMaps5
namespace Go.Proofs.Ytohfboolicheeaa
open Go.Hp Go.RowKit Go.ChangeShapes Go.Deep
set_option linter.unusedVariables false
set_option linter.unusedSimpArgs false
set_option maxRecDepth 100000
set_option maxHeartbeats 1000000
namespace Rg

def i64K : Sh := .ck (.int .i64)
def configSh : List Sh := [.recs [.int .i64] 8, i64K, i64K, i64K, i64K, i64K]
theorem sh29 : shT Try.prog 9 29 = some configSh := by kernel_rfl
theorem sh33 : shT Try.prog 9 33 = some [.recs keyK 32] := by kernel_rfl
theorem sh3 : shT Try.prog 9 3 = some [.ck (.int .i64)] := by kernel_rfl
theorem sh27 : shT Try.prog 9 27 = some [.recs [.int .i64] 8] := by kernel_rfl
theorem sh64 : shT Try.prog 9 64 = some [.recs [.str] 16] := by kernel_rfl

theorem i64_of {n : Int} (h : IntKind.i64 = .i64 → I64 n) : I64 n := h rfl
def strOf (v : Value) : ByteArray := match v with | .string b => b | _ => ⟨#[]⟩
def strC (s : ByteArray) : List Value := [.string s]
def kyOf (r : List Value) : Ky := ⟨intOf (r.getD 0 undef), intOf (r.getD 1 undef), intOf (r.getD 2 undef), intOf (r.getD 3 undef)⟩
theorem ky_cells {r : List Value} (h : Fits keyK r) : (kyOf r).cells = r := by
  match r, h with
  | [_, _, _, _], ⟨⟨a, rfl⟩, ⟨b, rfl⟩, ⟨c, rfl⟩, ⟨d, rfl⟩, _⟩ => rfl
theorem str_cells {r : List Value} (h : Fits [.str] r) : strC (strOf (r.getD 0 undef)) = r := by
  match r, h with
  | [_], ⟨⟨a, rfl⟩, _⟩ => rfl
theorem int_cells {r : List Value} (h : Fits [.int .i64] r) : iC (intOf (r.getD 0 undef)) = r := by
  match r, h with
  | [_], ⟨⟨a, rfl⟩, _⟩ => rfl
theorem map_back {α : Type} {f : α → List Value} {g : List Value → α} {ks : List Ck} (h : ∀ r, Fits ks r → f (g r) = r) {rs : List (List Value)} (hr : ∀ r ∈ rs, FitsR ks r) : (rs.map g).map f = rs := by
  rw [List.map_map]
  conv => rhs; rw [← List.map_id rs]
  apply List.map_congr_left
  intro r hr2
  exact h r (hr r hr2).fits

section
variable {W : World} {B : Nat} {ss : List Sh} {cs : List Value}
theorem sh_int (h : ShFits W B (i64K :: ss) cs) : ∃ n vs, cs = .int .i64 n :: vs ∧ I64 n ∧ ShFits W B ss vs := by
  cases cs with
  | nil => exact h.elim
  | cons v vs => obtain ⟨⟨n, rfl, q⟩, h2⟩ := h; exact ⟨n, vs, rfl, i64_of q, h2⟩
theorem sh_recs {ks : List Ck} {b : Nat} (h : ShFits W B (.recs ks b :: ss) cs) : ∃ v vs, cs = v :: vs ∧ (∃ rs : List (List Value), RecsAt W v ks.length rs ∧ (∀ r ∈ rs, FitsR ks r) ∧ rs.length * b ≤ B) ∧ ShFits W B ss vs := by
  cases cs with
  | nil => exact h.elim
  | cons v vs => exact ⟨v, vs, rfl, h.1, h.2⟩
theorem sh_nil (h : ShFits W B [] cs) : cs = [] := by
  cases cs with
  | nil => rfl
  | cons v vs => exact h.elim
end

variable {H : Type} {enc : TypeId × Value → H} {W : World}

theorem sh_arg {t : TypeId} {ss : List Sh} {fs : Array Field} (ht : Try.prog.underlying t = some (.struct fs)) (hs : shT Try.prog 9 t = some ss) {base : Nat} {v : Value} {d : DataW H} {p : List MemPlace} (hv : Value.okWide Try.prog W .any base t v) (h : DataW.Trod enc Try.prog W 0 (fun _ => true) true t v d p) (hw : ((d.weights Try.prog t).all (· ≤ reachBytes)) = true) :
    ∃ cs : List Value, v = .agg cs.toArray ∧ ShFits W reachBytes ss cs := by
  obtain ⟨cs, rfl, hl⟩ := Go.WideShapes.okWide_struct ht hv
  obtain ⟨fuel, hf⟩ := h
  have := sh_trod (B := reachBytes) 9 t ss hs _ _ _ hf hw
  exact ⟨cs.toList, by simp, this⟩
theorem reach_le {n : Nat} (h : n ≤ reachBytes) : n ≤ 140737488351232 := Nat.le_trans h (by decide)

/-- A configuration with the slice that reads so. -/
structure Cg where
  c : Cf
  S : List Int
  v : Value
def Cg.cells (x : Cg) : List Value := [x.v, .int .i64 x.c.F, .int .i64 x.c.P, .int .i64 x.c.B, .int .i64 x.c.K, .int .i64 x.c.R]
structure CgOk (W : World) (x : Cg) : Prop where
  s : RecsAt W x.v 1 (x.S.map iC)
  n : x.S.length ≤ 17592186043904
  f : I64 x.c.F
theorem cg_of {cs : List Value} (h : ShFits W reachBytes configSh cs) : ∃ x : Cg, cs = x.cells ∧ CgOk W x := by
  obtain ⟨vs, cs1, rfl, ⟨rs, he1, he2, he3⟩, hf1⟩ := sh_recs h
  obtain ⟨f, cs2, rfl, q, hf2⟩ := sh_int hf1
  obtain ⟨p, cs3, rfl, -, hf3⟩ := sh_int hf2
  obtain ⟨b, cs4, rfl, -, hf4⟩ := sh_int hf3
  obtain ⟨k, cs5, rfl, -, hf5⟩ := sh_int hf4
  obtain ⟨r, cs6, rfl, -, hf6⟩ := sh_int hf5
  obtain rfl := sh_nil hf6
  refine ⟨⟨⟨f, p, b, k, r⟩, rs.map (fun r => intOf (r.getD 0 undef)), vs⟩, rfl, ?_, ?_, q⟩
  · rw [map_back (fun r => int_cells) he2]; exact he1
  · rw [List.length_map]; have := reach_le he3; omega

/-- A configuration that is handed in. -/
def CfArg (W : World) (v : Value) (x : Cg) : Prop := v = .agg x.cells.toArray ∧ CgOk W x
theorem arg_Config {base : Nat} {v : Value} {d : DataW H} {p : List MemPlace} (hv : Value.okWide Try.prog W .any base 29 v) (h : DataW.Trod enc Try.prog W 0 (fun _ => true) true 29 v d p) (hw : ((d.weights Try.prog 29).all (· ≤ reachBytes)) = true) :
    ∃ x, CfArg W v x := by
  obtain ⟨cs0, rfl, hf0⟩ := sh_arg Try.underlying29 sh29 hv h hw
  obtain ⟨x, rfl, hx⟩ := cg_of hf0
  exact ⟨x, rfl, hx⟩

/-- Rows of anything. -/
theorem rows_trod {e t : TypeId} (hu : Try.prog.underlying t = some (.slice e)) {ss : List Sh} (hss : shT Try.prog 9 e = some ss) (hc : Try.prog.cellsOf e = ss.length) (h0 : 0 < ss.length) {B fuel : Nat} {v : Value} {x : DataW H × List MemPlace} (hx : DataW.trod enc Try.prog W 0 (fun _ => true) true fuel t [v] = some x) (hw : (x.1.weights Try.prog t).all (· ≤ B) = true) :
    ∃ rs : List (List Value), RecsAt W v ss.length rs ∧ (∀ r ∈ rs, ShFits W B ss r) ∧ rs.length * Try.prog.bytesOf e ≤ B := by
  rcases open_slice hu hx with ⟨he, hd⟩ | ⟨a, len, cap, m, n, D, Pl, he, _, hle, hm, hmm, hd, hxx⟩
  · cases he
    exact ⟨[], ⟨⟨none, 0, rfl, Nat.le_refl _, by simp [maxLen], fun h => absurd h (Nat.lt_irrefl _), fun b hb => by cases hb⟩, fun r hr => absurd hr List.not_mem_nil⟩, fun r hr => absurd hr List.not_mem_nil, by simp⟩
  · cases he
    subst hd
    simp only [if_true] at hmm
    subst hmm
    simp only [DataW.weights, hu, List.all_cons, List.all_append, Bool.and_eq_true, decide_eq_true_eq] at hw
    have key : ∀ i, i < len → ∃ cs' : List Value, ShFits W B ss cs' ∧ cs'.length = ss.length ∧ ∀ (j : Nat) (u : Value), cs'[j]? = some u → W.cell? ((a.add (i * ss.length)).add j) = some u := by
      intro i hi
      obtain ⟨cs', h1, h2⟩ := hxx i (by omega)
      have hfit := sh_trod 9 _ _ hss _ _ _ h2 (all_weights hw.2.1 (D i) (List.mem_map.2 ⟨i, List.mem_range.2 hi, rfl⟩))
      rw [hc] at h1
      obtain ⟨hl1, _, hcell⟩ := World.cells?_some h1
      refine ⟨cs', hfit, hfit.len, fun j u hj => ?_⟩
      have hjl := (List.getElem?_eq_some_iff.1 hj).1
      have := hcell j (by rw [← hfit.len]; exact hjl)
      rw [this, hj]
    obtain ⟨V, hV⟩ := choose_lt key
    have hlen : ∀ r ∈ (List.range len).map V, r.length = ss.length := by
      intro r hr
      obtain ⟨i, hi, rfl⟩ := List.mem_map.1 hr
      exact (hV i (List.mem_range.1 hi)).2.1
    refine ⟨(List.range len).map V, ⟨⟨some a, m, by simp, by simpa using hle, hm, fun _ => ⟨a, rfl⟩, fun b hb j u hj => ?_⟩, hlen⟩, fun r hr => ?_, ?_⟩
    · cases hb
      obtain ⟨i, r, k, h1, rfl, h3⟩ := flatten_back hlen hj
      have hil : i < len := by
        have := (List.getElem?_eq_some_iff.1 h1).1
        simpa using this
      simp [hil] at h1
      subst h1
      have := (hV i hil).2.2 k u h3
      rwa [Addr.add_add] at this
    · obtain ⟨i, hi, rfl⟩ := List.mem_map.1 hr
      exact (hV i (List.mem_range.1 hi)).1
    · have := hw.1
      simp at this ⊢
      refine Nat.le_trans (Nat.mul_le_mul_right _ ?_) this
      omega
theorem list_choose {α β : Type} {P : α → β → Prop} : ∀ {l : List α}, (∀ a ∈ l, ∃ b, P a b) → ∃ m : List β, m.length = l.length ∧ ∀ (k : Nat) (a : α) (b : β), l[k]? = some a → m[k]? = some b → P a b
  | [], _ => ⟨[], rfl, fun k a b h => by simp at h⟩
  | a :: l, h => by
    obtain ⟨b, hb⟩ := h a (by simp)
    obtain ⟨m, hm, hp⟩ := list_choose (l := l) (fun x hx => h x (by simp [hx]))
    refine ⟨b :: m, by simp [hm], fun k x y h1 h2 => ?_⟩
    cases k with
    | zero => simp at h1 h2; subst h1 h2; exact hb
    | succ k => exact hp k x y (by simpa using h1) (by simpa using h2)

/-- A row of configurations, handed in. -/
def CfsArg (W : World) (v : Value) (l : List Cg) : Prop := RecsAt W v 6 (l.map Cg.cells) ∧ (∀ x ∈ l, CgOk W x) ∧ l.length * 64 ≤ 140737488351232
theorem arg_configs {base : Nat} {v : Value} {d : DataW H} {p : List MemPlace} (hv : Value.okWide Try.prog W .any base 22 v) (h : DataW.Trod enc Try.prog W 0 (fun _ => true) true 22 v d p) (hw : ((d.weights Try.prog 22).all (· ≤ reachBytes)) = true) :
    ∃ l, CfsArg W v l := by
  obtain ⟨sa, sl, sc, rfl⟩ := Go.WideShapes.okWide_slice Try.underlying22 hv
  obtain ⟨fuel, hf⟩ := h
  obtain ⟨rs, h1, h2, h3⟩ := rows_trod (B := reachBytes) Try.underlying22 sh29 (by kernel_rfl) (by decide) hf hw
  obtain ⟨l, hl, hp⟩ := list_choose (fun r hr => cg_of (h2 r hr))
  have he : l.map Cg.cells = rs := by
    apply List.ext_getElem?
    intro k
    rw [List.getElem?_map]
    by_cases hk : k < l.length
    · rw [List.getElem?_eq_getElem hk, List.getElem?_eq_getElem (by omega)]
      exact congrArg some (hp k _ _ (List.getElem?_eq_getElem (by omega)) (List.getElem?_eq_getElem hk)).1.symm
    · rw [List.getElem?_eq_none (by omega), List.getElem?_eq_none (by omega)]
      rfl
  refine ⟨l, by rw [he]; exact h1, fun x hx => ?_, ?_⟩
  · obtain ⟨k, hk, rfl⟩ := List.getElem_of_mem hx
    exact (hp k _ _ (List.getElem?_eq_getElem (by omega)) (List.getElem?_eq_getElem hk)).2
  · have e : Try.prog.bytesOf 29 = 64 := by kernel_rfl
    rw [e] at h3
    rw [hl]
    exact reach_le h3

/-- A number, handed in. -/
def IntArg (v : Value) (n : Int) : Prop := v = .int .i64 n ∧ I64 n
theorem arg_int {base : Nat} {v : Value} {d : DataW H} {p : List MemPlace} (hv : Value.okWide Try.prog W .any base 3 v) (h : DataW.Trod enc Try.prog W 0 (fun _ => true) true 3 v d p) (hw : ((d.weights Try.prog 3).all (· ≤ reachBytes)) = true) :
    ∃ n, IntArg v n := by
  obtain ⟨n, rfl, _, _, _⟩ := open_int Try.underlying3 hv h
  obtain ⟨fuel, hf⟩ := h
  have := sh_trod (B := reachBytes) 9 _ _ sh3 _ _ _ hf hw
  obtain ⟨⟨m, he, hq⟩, _⟩ := this
  cases he
  exact ⟨n, rfl, hq rfl⟩

/-- A row of keys, handed in. -/
def KysArg (W : World) (v : Value) (l : List Ky) : Prop := RecsAt W v 4 (l.map Ky.cells) ∧ l.length * 32 ≤ 140737488351232
theorem arg_keys {base : Nat} {v : Value} {d : DataW H} {p : List MemPlace} (hv : Value.okWide Try.prog W .any base 33 v) (h : DataW.Trod enc Try.prog W 0 (fun _ => true) true 33 v d p) (hw : ((d.weights Try.prog 33).all (· ≤ reachBytes)) = true) :
    ∃ l, KysArg W v l := by
  obtain ⟨sa, sl, sc, rfl⟩ := Go.WideShapes.okWide_slice Try.underlying33 hv
  obtain ⟨fuel, hf⟩ := h
  have := sh_trod (B := reachBytes) 9 _ _ sh33 _ _ _ hf hw
  obtain ⟨⟨rs, h1, h2, h3⟩, _⟩ := this
  exact ⟨rs.map kyOf, by rw [map_back (fun r => ky_cells) h2]; exact h1, by rw [List.length_map]; exact reach_le h3⟩

/-- A row of whole numbers, handed in. -/
def IntsArg (W : World) (v : Value) (l : List Int) : Prop := RecsAt W v 1 (l.map iC) ∧ l.length * 8 ≤ 140737488351232
theorem arg_ints {base : Nat} {v : Value} {d : DataW H} {p : List MemPlace} (hv : Value.okWide Try.prog W .any base 27 v) (h : DataW.Trod enc Try.prog W 0 (fun _ => true) true 27 v d p) (hw : ((d.weights Try.prog 27).all (· ≤ reachBytes)) = true) :
    ∃ l, IntsArg W v l := by
  obtain ⟨sa, sl, sc, rfl⟩ := Go.WideShapes.okWide_slice Try.underlying27 hv
  obtain ⟨fuel, hf⟩ := h
  have := sh_trod (B := reachBytes) 9 _ _ sh27 _ _ _ hf hw
  obtain ⟨⟨rs, h1, h2, h3⟩, _⟩ := this
  exact ⟨rs.map (fun r => intOf (r.getD 0 undef)), by rw [map_back (fun r => int_cells) h2]; exact h1, by rw [List.length_map]; exact reach_le h3⟩
end Rg
end Go.Proofs.Ytohfboolicheeaa
