/-
  MendAll: behind a mend of every ordered pair all hold the same block, and each knows what any of them knew.
-/
import Derived.Test.YtjobojgmadjmfaaMdAlS
import Derived.Test.YtjobojgmadjmfaaOwnSt
import Derived.ProofKit
namespace Go.Proofs.Ytjobojgmadjmfaa
open Go.Hp Go.RowKit Go.ChangeShapes Go.WideShapes
set_option linter.unusedVariables false
set_option linter.unusedSimpArgs false
set_option maxRecDepth 100000
namespace mendAll
open Md
namespace Lw
abbrev arg_int := @Md.arg_int
abbrev arg_ints := @Md.arg_ints
end Lw

theorem z25 : zeroT Try.prog 25 = some (.agg #[.int .i64 0, .int .i64 0, .int .i64 0, .int .i64 0]) := by kernel_rfl

/-- What one server holds, and where its lists lie. -/
structure El where
  h : Hd
  d : Value
  e : Value
  l : Value
  r : Value

def El.cells (x : El) : List Value := (hdV x.h x.d x.e x.l x.r).toList
def AllAt (w : World) (E : List El) : Prop := ∀ x ∈ E, HdAt w x.h x.d x.e x.l x.r
theorem AllAt.sub {w w' : World} {E : List El} (h : AllAt w E) (hs : Go.Hp.Sub w w') : AllAt w' E := fun x hx => ⟨(h x hx).d.sub hs, (h x hx).e.sub hs, (h x hx).l.sub hs, (h x hx).r.sub hs⟩

theorem good_plain {u : Int} {h : Hd} (hp : PlainH u 600 h) (hu : u ≤ 600) (q : h.sn = 0 ∧ h.sc = 0 ∧ h.data = []) : GoodH 600 h := by
  have := hp.may.u0
  have := hp.up
  exact ⟨⟨by omega, by omega, by omega, by omega, fun _ => q.2.1, by rw [q.1, q.2.2]; rfl⟩, u, by omega, hu, hp⟩

theorem good_blk {u a c : Int} {h : Hd} (hp : PlainH u 600 h) (hu : u ≤ 600) (a1 : 1 ≤ a) (a3 : a ≤ 3) (c1 : 1 ≤ c) (c3 : c ≤ 3) : GoodH 600 { h with sn := a, sc := c, data := blkOf a c } := by
  have := hp.may.u0
  have := hp.up
  exact ⟨⟨by show 0 ≤ a; omega, a3, by show 0 ≤ c; omega, c3, fun e => by have e : a = 0 := e; omega, rfl⟩, u, by omega, hu, ⟨⟨hp.may.u0, hp.may.u1, hp.may.rise, hp.may.lo, hp.may.hi, hp.may.z, hp.may.kind⟩, ⟨in_of (by show -1099511627776 ≤ a; omega) (by show a ≤ _; omega), in_of (by show -1099511627776 ≤ c; omega) (by show c ≤ _; omega), hp.ok.upto, hp.ok.ents, hp.ok.lasts, hp.ok.row⟩, hp.up, hp.e, hp.l, hp.r⟩⟩

theorem blk_row {w0 w : World} {L : List HProp} {g : Nat} {a c : Int} (a1 : 1 ≤ a) (a3 : a ≤ 3) (c1 : 1 ≤ c) (c3 : c ≤ 3) (H : At w0 (Blk g (.cells #[.int .u8 a, .int .u8 c] 5 (0, 0)) :: L) w) : RowAt w (.slice (some ⟨g, 0, none⟩) 2 2) (blkOf a c).length (bv (blkOf a c)) := by
  have h := own_own _ _ _ (own_mk (e := 5) (size := 1) (n := 2) (xs := [.int .u8 a, .int .u8 c]) H (Nat.le_refl _) (by simp [maxLen]) rfl rfl rfl)
  have ha : a = 1 ∨ a = 2 ∨ a = 3 := by omega
  have hc : c = 1 ∨ c = 2 ∨ c = 3 := by omega
  rcases ha with rfl | rfl | rfl <;> rcases hc with rfl | rfl | rfl <;> exact h

theorem cells_len (x : El) : x.cells.length = 7 := rfl
theorem one_cells {w : World} {E : List El} (h : AllAt w E) : ∀ u ∈ (E.map El.cells).flatten, u.oneCell' = true := by
  intro u hu
  obtain ⟨r, hr, hu⟩ := List.mem_flatten.1 hu
  obtain ⟨x, hx, rfl⟩ := List.mem_map.1 hr
  have q := h x hx
  exact hdV_one (row_one q.d) (row_one q.e.1) (row_one q.l.1) (row_one q.r.1) u hu

theorem own_cell {w0 w : World} {L : List HProp} {e : TypeId} {size n cap : Nat} {b : Addr} {xs : List Value} (H : At w0 (OwnRow e size (.slice (some b) n cap) n xs :: L) w) {j : Nat} {u : Value} (hj : xs[j]? = some u) : w.cell? (b.add j) = some u := by
  obtain ⟨ad, cp, he, -, -, -, -, hc⟩ := own_value H
  cases he
  exact hc _ rfl j u hj

/-- The pairs that are through, one more. -/
theorem pair_next (n : Nat) {pr : List Int} {k m ia ib : Nat} (hy : pr[k]? = some (m : Int)) (hm : m = ia * n + ib) (hib : ib < n) {i j : Nat} (hj : j < n)
    (hd : i = j ∨ ∃ q : Nat, q < k + 1 ∧ pr[q]? = some ((i : Int) * n + j)) (h1 : i = ia → j = ib → (i = j ∨ ∃ q : Nat, q < k ∧ pr[q]? = some ((i : Int) * n + j))) : i = j ∨ ∃ q : Nat, q < k ∧ pr[q]? = some ((i : Int) * n + j) := by
  rcases hd with h | ⟨q, hq, hp⟩
  · exact .inl h
  · by_cases hqk : q = k
    · subst hqk
      rw [hy] at hp
      have e : (m : Int) = (i : Int) * n + j := Option.some.inj hp
      have e2 : m = i * n + j := by
        have : ((i * n + j : Nat) : Int) = (i : Int) * n + j := by rw [Int.natCast_add, Int.natCast_mul]
        omega
      rw [hm] at e2
      have h3 : ia = i := by
        have a1 := congrArg (· / n) e2
        simp only [Nat.mul_comm _ n, Nat.mul_add_div (show 0 < n by omega), Nat.div_eq_of_lt hib, Nat.div_eq_of_lt hj, Nat.add_zero] at a1
        exact a1
      subst h3
      exact h1 rfl (by omega)
    · exact .inr ⟨q, by omega, hp⟩

@[irreducible] def tagg (v : Value) : Array Value := match v with
  | .tuple a => (match a.getD 0 undef with | .agg cs => cs | _ => #[])
  | _ => #[]

/-- What a mend hands back, as one resource. -/
def RwR (S : World → Prop) (r : Hd × Nat × Bool) (v : Value) : HProp := fun hp => v = .tuple #[.agg (tagg v), .int .i64 r.2.1, .bool r.2.2] ∧ ∃ vd ve vl vr P, tagg v = hdV r.1 vd ve vl vr ∧ PF S P (fun w => HdAt w r.1 vd ve vl vr) ∧ P hp

theorem rwr_mk {w0 w : World} {L : List HProp} {S : World → Prop} {r : Hd × Nat × Bool} {e : Ending} (h : RowPost w0 L S r e w) : ∃ v, e = .returned v ∧ At w0 (RwR S r v :: L) w := by
  obtain ⟨vd, ve, vl, vr, P, rfl, hP, _, _, H⟩ := h
  have e1 : tagg (.tuple #[.agg (hdV r.1 vd ve vl vr), .int .i64 r.2.1, .bool r.2.2]) = hdV r.1 vd ve vl vr := by unfold tagg; rfl
  exact ⟨_, rfl, H.imp fun _ hh => ⟨by rw [e1], vd, ve, vl, vr, P, e1, hP, hh⟩⟩

theorem rwr_open {w0 w : World} {L : List HProp} {S : World → Prop} {r : Hd × Nat × Bool} {v : Value} (H : At w0 (RwR S r v :: L) w) : ∃ vd ve vl vr P, tagg v = hdV r.1 vd ve vl vr ∧ PF S P (fun w => HdAt w r.1 vd ve vl vr) ∧ At w0 (P :: L) w := by
  obtain ⟨_, H⟩ := At.and H
  obtain ⟨vd, H⟩ := At.ex H
  obtain ⟨ve, H⟩ := At.ex H
  obtain ⟨vl, H⟩ := At.ex H
  obtain ⟨vr, H⟩ := At.ex H
  obtain ⟨P, H⟩ := At.ex H
  obtain ⟨h1, H⟩ := At.and H
  obtain ⟨h2, H⟩ := At.and H
  exact ⟨vd, ve, vl, vr, P, h1, h2, H⟩

theorem rwr_one {w0 w : World} {L : List HProp} {S : World → Prop} {r : Hd × Nat × Bool} {v : Value} (H : At w0 (RwR S r v :: L) w) (hs : S w) : (∀ u ∈ (tagg v).toList, u.oneCell' = true) ∧ (tagg v).size = 7 := by
  obtain ⟨vd, ve, vl, vr, P, h1, h2, H2⟩ := rwr_open H
  have q := h2 _ _ _ hs H2
  rw [h1]
  exact ⟨hdV_one (row_one q.d) (row_one q.e.1) (row_one q.l.1) (row_one q.r.1), rfl⟩

theorem own_rec {w0 w : World} {L : List HProp} {n cap : Nat} {b : Addr} {G : List El} (H : At w0 (OwnRow 44 7 (.slice (some b) n cap) n (G.map El.cells).flatten :: L) w) {i : Nat} {g : El} (hi : G[i]? = some g) : ∀ j u, g.cells[j]? = some u → w.cell? ((b.add (i * 7)).add j) = some u := by
  intro j u hj
  rw [Addr.add_add]
  refine own_cell H ?_
  have hjl := (List.getElem?_eq_some_iff.1 hj).1
  rw [flatten_get (size := 7) (fun r hr => by obtain ⟨x, _, rfl⟩ := List.mem_map.1 hr; rfl) (by rw [List.getElem?_map, hi]; rfl) hjl]
  exact hj

theorem own_rec0 {w0 w : World} {L : List HProp} {n cap : Nat} {b : Addr} {G : List El} (H : At w0 (OwnRow 44 7 (.slice (some b) n cap) n (G.map El.cells).flatten :: L) w) {g : El} (hi : G[0]? = some g) : ∀ j u, g.cells[j]? = some u → w.cell? (b.add j) = some u := by
  intro j u hj
  have := own_rec H hi j u hj
  rwa [Nat.zero_mul, Addr.add_zero'] at this

theorem in3 : In64 3 := ⟨by decide, by decide⟩
abbrev stV (h : Hd) : Value := .agg #[.int .i64 h.sn, .int .i64 h.sc]
abbrev z7 : Array Value := #[.int .i64 0, .int .i64 0, .slice none 0 0, .int .i64 0, .slice none 0 0, .slice none 0 0, .slice none 0 0]

theorem good_all {h : Hd} (g : GoodH 600 h) : May h ∧ h.Ok ∧ h.Sz := by
  obtain ⟨u, u0, u1, hp⟩ := g.plain
  refine ⟨hp.may, hp.ok, plain_sz hp ?_⟩
  rw [g.blk.d]
  unfold blkOf
  split <;> simp

theorem hd_sub {w w' : World} {h : Hd} {vd ve vl vr : Value} (H : HdAt w h vd ve vl vr) (hs : Go.Hp.Sub w w') : HdAt w' h vd ve vl vr := ⟨H.d.sub hs, H.e.sub hs, H.l.sub hs, H.r.sub hs⟩

theorem rows_len : ∀ (G : List El), (G.map El.cells).flatten.length = G.length * 7
  | [] => rfl
  | g :: G => by rw [List.map_cons, List.flatten_cons, List.length_append, rows_len G, cells_len, List.length_cons, Nat.add_mul]; omega

theorem el_stamp {w : World} {b : Addr} {g : El} (h : ∀ j u, g.cells[j]? = some u → w.cell? (b.add j) = some u) : ∀ j u, ([.int .i64 g.h.sn, .int .i64 g.h.sc] : List Value)[j]? = some u → w.cell? (b.add j) = some u := by
  intro j u hj
  match j, hj with
  | 0, hj => exact h 0 u hj
  | 1, hj => exact h 1 u hj
  | j + 2, hj => simp at hj

/-- A record of a row is read. -/
theorem st_loadEl {ops : Array Oper} {Q : Exit → Act → World → Prop} {a : Act} {w : World} {rest : List Oper} {o : Oper} (hw : Region.wanted o (yielded ops a.tmps) = true) (T : TypeId) (x : Operand) (ho : o.op = .load T x) (ad : Addr) (hx : a.eval x = .pointer (some ad)) (g : El) {hT : T = 44}
    (hc : ∀ j u, g.cells[j]? = some u → w.cell? (ad.add j) = some u)
    (h : ∀ K : Act → World → Prop, (∀ a w, wpList Try.prog ops Q rest a w → K a w) → K (a.put o.dst (.agg (hdV g.h g.d g.e g.l g.r))) w) : wpList Try.prog ops Q (o :: rest) a w := by
  subst hT
  have e : g.cells.toArray = hdV g.h g.d g.e g.l g.r := by simp [El.cells]
  refine st_loadCells hw 44 x ho ad hx a44 g.cells s44 hc ?_
  rw [e]
  exact h

def nums (p : Nat) : List Value := (List.range p).map fun (q : Nat) => .int .i64 q
theorem nums_succ (p : Nat) : nums (p + 1) = nums p ++ [.int .i64 p] := by simp [nums, List.range_succ]

section
variable {W : World}

set_option maxHeartbeats 8000000 in
theorem walk {v0 v1 v2 : Value} {ns : Int} {hs os : List Int} (h0 : v0 = .int .i64 ns ∧ In64 ns) (h1 : IntsArg W v1 hs) (h2 : IntsArg W v2 os) :
    Calls Try.prog 7 #[v0, v1, v2] W fun e w => e = .returned (.bool true) ∧ Below W.heap.size W w := by
  obtain ⟨rfl, -⟩ := h0
  obtain ⟨⟨ha, hcap, rfl, ha1, ha2, ha3, ha4⟩, hi, hl⟩ := h1
  obtain ⟨⟨oa, ocap, rfl, oa1, oa2, oa3, oa4⟩, oi, ol⟩ := h2
  have HF := At.of W
  have HI := Lib.hid hi
  have OI := Lib.hid oi
  have HA3 := Lib.hid ha3
  have HA4 := Lib.hid ha4
  have OA3 := Lib.hid oa3
  have OA4 := Lib.hid oa4
  clear hi oi ha1 ha2 ha3 ha4 oa1 oa2 oa3 oa4
  go_enter Try.func7, Try.ntmps7
  go_wp2_with fail
  refine (known HF).mono ?_
  rintro e w1 ⟨rfl, H1⟩
  replace HF := H1
  clear H1
  go_wp2_with fail
  refine (round (by decide) (by decide) ns HF).mono ?_
  rintro e w2 ⟨rfl, H1⟩
  replace HF := H1
  clear H1
  obtain ⟨n0, n1⟩ := roundS_lt (v := ns) (n := 4) (by decide)
  obtain ⟨n, hn⟩ : ∃ n : Nat, roundS ns 4 + 2 = n := ⟨(roundS ns 4 + 2).toNat, by omega⟩
  have n2 : 2 ≤ n := by omega
  have n3 : n ≤ 5 := by omega
  clear n0 n1
  go_wp2_with (first | ((with_reducible refine k_alloc (T := 25) ?_); refine st_alloc rfl _ rfl _ z25 _ rfl HF ?_; (clear HF; intro g8 w HF K hK; simp only [Value.cells] at HF; go_simp)) | ((with_reducible refine k_store (T := 25) ?_); refine st_put rfl _ _ _ rfl _ rfl _ rfl ?_ s25 HF 0 rfl rfl ?_; (simp [Value.oneCell']); (clear HF; intro w HF K hK; simp only [List.set_cons_zero, List.set_cons_succ, Act.eval, Value.cells, Array.getD_eq_getD_getElem?, List.getElem?_toArray, List.getElem?_cons_succ, List.getElem?_cons_zero, Option.getD_some] at HF; go_simp)))
  clear hn
  obtain ⟨Q0, wc0, hC0, HX⟩ := core_mk HF.addEmp
  have HG : At W (OwnRow 44 7 nl 0 [] :: Blk g8 (.cells #[.int .i64 1, .int .i64 3, .int .i64 1, .int .i64 0] 25 (0, 0)) :: Q0 :: Arg W :: []) _ := own_nil (HX.sel 3 [1, 0, 2]) 44 7
  clear HF HX
  go_loopw [9, 10] (fun x y wr => ∃ (EL : List El) (P Q : HProp) (wc : World), EL.length ≤ n ∧ y = .int .i64 EL.length ∧ (∀ x ∈ EL, GoodH 600 x.h) ∧ Core P Q wc ∧ AllAt wc EL ∧ At W (OwnRow 44 7 x EL.length (EL.map El.cells).flatten :: Blk g8 (.cells #[.int .i64 1, .int .i64 3, .int .i64 1, .int .i64 0] 25 (0, 0)) :: Q :: Arg W :: []) wr) (fun x y _ => n - (intOf y).toNat)
  case atStart => exact ⟨[], emp, Q0, wc0, Nat.zero_le _, rfl, fun x hx => absurd hx List.not_mem_nil, hC0, fun x hx => absurd hx List.not_mem_nil, HG⟩
  case round =>
    clear HG hC0
    obtain ⟨EL, P, Q, wc, hE, rfl, hgood, hC, hat, HF⟩ := hrel
    have HC := Lib.hid hC
    have HAt := Lib.hid hat
    have HGd := Lib.hid hgood
    clear hC hat hgood
    by_cases hlt : EL.length < n
    · have g1x : (EL.length : Int) < n := by omega
      by_cases hlh : EL.length < hs.length
      · have g2x : (EL.length : Int) < hs.length := by omega
        obtain ⟨x, hx⟩ : ∃ x, hs[EL.length]? = some x := ⟨_, List.getElem?_eq_getElem hlh⟩
        obtain ⟨b, rfl⟩ := HA3.out (by omega)
        have Hx := Lib.hid (HA4.out b rfl EL.length (.int .i64 x) (by rw [List.getElem?_map, hx]; rfl))
        clear hx
        go_wp2_with (first | ((with_reducible refine k_load (T := 3) ?_); refine st_load1 rfl _ _ rfl _ rfl ?_ ((HF.ext 3 rfl).cell Hx.out) ?_; (kernel_rfl); (intro K hK; go_simp)))
        refine (round (by decide) (by decide) x HF).mono ?_
        rintro e w3 ⟨rfl, H1⟩
        replace HF := H1
        clear H1
        obtain ⟨r0, r1⟩ := roundS_lt (v := x) (n := 1099511627776) (by decide)
        generalize roundS x 1099511627776 = v at *
        have hub : 0 ≤ v % 7 * (v / 7 % 40) ∧ v % 7 * (v / 7 % 40) < 300 := by
          have a1 : 0 ≤ v % 7 := by omega
          have a2 : v % 7 ≤ 6 := by omega
          have b1 : 0 ≤ v / 7 % 40 := by omega
          have b2 : v / 7 % 40 ≤ 39 := by omega
          have := Int.mul_nonneg a1 b1
          have := Int.mul_le_mul a2 b2 b1 (by decide)
          omega
        have HUB := Lib.hid hub
        clear hub
        go_wp2_with fail
        have hub := HUB.out
        generalize v % 7 * (v / 7 % 40) = u at *
        obtain ⟨u0, u1⟩ := hub
        rw [show wrap64 u = u by unfold wrap64; omega]
        clear HUB
        have HF2 := HF.alloc (.cells #[.int .i64 (v / 25200), .int .i64 (v / 100000), .int .i64 (v / 7)] 3)
        refine (holds (u := u) (m := v / 280 % 90) (by omega) (by omega) (by omega) (by omega) (odd := [v / 25200, v / 100000, v / 7]) (own_own (e := 3) (size := 1) _ _ _ (own_mk HF2 (Nat.le_refl _) (by simp [maxLen]) rfl rfl rfl)) (fun x hx => in_of (by simp at hx; omega) (by simp at hx; omega)) HF2).mono ?_
        rintro e w4 ⟨h, veh, vrh, rfl, hp, s1, s2, s3, H1⟩
        have PA := Lib.hid (plain_top hp (show (u : Int) + v / 280 % 90 + 20 ≤ 600 by omega))
        have QA := Lib.hid (And.intro s1 (And.intro s2 s3))
        have UA := Lib.hid (show (u : Int) ≤ 600 by omega)
        have q2 := row_one (hold_at H1)
        have q4 := row_one (hold_at H1.drop)
        replace HF := H1.sel 3 [0, 1]
        clear H1 HF2 hp s1 s2 s3
        by_cases hsn : 0 < v / 3 % 4
        · have p1 : v / 3 % 4 ≤ 3 := by omega
          have p2 : 1 ≤ v / 12 % 3 + 1 := by omega
          have p3 : v / 12 % 3 + 1 ≤ 3 := by omega
          go_wp2_with (first | ((with_reducible refine k_alloc (T := 44) ?_); refine st_alloc rfl _ rfl _ z44 _ rfl HF ?_; (clear HF; intro g12 w HF K hK; simp only [Value.cells] at HF; go_simp)) | ((with_reducible refine k_store (T := 44) ?_); refine st_put rfl _ _ _ rfl _ rfl _ rfl (hdV_one rfl q2 rfl q4) s44 HF 0 rfl rfl ?_; (clear HF; intro w HF K hK; simp only [List.set_cons_zero, List.set_cons_succ, Act.eval, Value.cells, Array.getD_eq_getD_getElem?, List.getElem?_toArray, List.getElem?_cons_succ, List.getElem?_cons_zero, Option.getD_some, hdV] at HF; go_simp)) | ((with_reducible refine k_alloc (T := 27) ?_); refine st_alloc rfl _ rfl _ z27 _ rfl HF ?_; (clear HF; intro g13 w HF K hK; simp only [Value.cells] at HF; go_simp)) | ((with_reducible refine k_store (T := 27) ?_); refine st_put rfl _ _ _ rfl _ rfl _ rfl ?_ s27 HF 0 rfl rfl ?_; (simp [Value.oneCell']); (clear HF; intro w HF K hK; simp only [List.set_cons_zero, List.set_cons_succ, Act.eval, Value.cells, Array.getD_eq_getD_getElem?, List.getElem?_toArray, List.getElem?_cons_succ, List.getElem?_cons_zero, Option.getD_some] at HF; go_simp)) | ((with_reducible refine k_lit (T := 28) ?_); refine st_lit rfl _ _ _ rfl #[.int .u8 (v / 3 % 4), .int .u8 (v / 12 % 3 + 1)] 5 2 HF ?_ ?_; (go_simp); (clear HF; intro gd w5 HF K hK; go_simp)) | ((with_reducible refine k_load (T := 27) ?_); (first | refine st_row rfl _ _ rfl _ rfl a27 2 s27 HF 0 rfl rfl ?_ | refine st_row rfl _ _ rfl _ rfl a27 2 s27 HF 2 rfl rfl ?_); (intro K hK; go_simp)) | ((with_reducible refine k_load (T := 27) ?_); (first | refine st_loads rfl _ _ rfl _ _ rfl a27 2 s27 HF 0 rfl ?_ ?_ | refine st_loads rfl _ _ rfl _ _ rfl a27 2 s27 HF 2 rfl ?_ ?_); (simp); (intro K hK; go_simp)) | ((with_reducible refine k_load (T := 44) ?_); (first | refine st_row rfl _ _ rfl _ rfl a44 7 s44 HF 0 rfl rfl ?_ | refine st_row rfl _ _ rfl _ rfl a44 7 s44 HF 2 rfl rfl ?_); (intro K hK; go_simp)) | ((with_reducible refine k_load (T := 44) ?_); (first | refine st_loads rfl _ _ rfl _ _ rfl a44 7 s44 HF 0 rfl ?_ ?_ | refine st_loads rfl _ _ rfl _ _ rfl a44 7 s44 HF 2 rfl ?_ ?_); (simp); (intro K hK; go_simp)) | ((with_reducible refine k_store (T := 41) ?_); refine st_stores rfl _ _ _ rfl _ _ rfl _ rfl ?_ s41 HF 2 rfl ?_ ?_; (simp [Value.oneCell']); (simp); (clear HF; intro w HF K hK; simp only [List.set_cons_zero, List.set_cons_succ, List.take_succ_cons, List.take_zero, List.drop_succ_cons, List.drop_zero, List.cons_append, List.nil_append, List.size_toArray, List.length_cons, List.length_nil, Nat.reduceAdd, Act.eval, Value.cells, Array.getD_eq_getD_getElem?, List.getElem?_toArray, List.getElem?_cons_succ, List.getElem?_cons_zero, Option.getD_some] at HF; go_simp)) | ((with_reducible refine k_load ?_); refine st_load rfl _ _ rfl _ _ rfl ?_ HF 0 rfl rfl ?_; (kernel_rfl); (intro K hK; go_simp)) | ((with_reducible refine k_lit (T := 82) ?_); refine st_lit1 rfl _ _ rfl ([.int .i64 (v / 3 % 4), .int .i64 (v / 12 % 3 + 1), .slice (some ⟨gd, 0, none⟩) 2 2, .int .i64 h.upto, veh, nl, vrh] : List Value).toArray rfl 44 Try.underlying82 7 s44 #[.int .i64 0, .int .i64 0, .slice none 0 0, .int .i64 0, .slice none 0 0, .slice none 0 0, .slice none 0 0] z44 rfl rfl (by decide) (by decide) HF ?_; (clear HF; intro gl w6 HF K hK; replace HF : At W (OwnRow _ _ _ _ _ :: _) w6 := HF.pick 6 rfl; go_simp)) | ((with_reducible refine k_builtin ?_); refine st_append rfl _ _ _ rfl 44 Try.underlying82 7 s44 120 ?_ (.agg #[.int .i64 0, .int .i64 0, .slice none 0 0, .int .i64 0, .slice none 0 0, .slice none 0 0, .slice none 0 0]) ?_ rfl _ _ _ rfl HF (some ⟨gl, 0, none⟩) 1 1 ([.int .i64 (v / 3 % 4), .int .i64 (v / 12 % 3 + 1), .slice (some ⟨gd, 0, none⟩) 2 2, .int .i64 h.upto, veh, nl, vrh] : List Value) rfl rfl ?_ ?_ ?_ ?_ ?_; (kernel_rfl); (kernel_rfl); (intro _; exact ⟨_, rfl, cells_of (HF.get 1 rfl)⟩); (exact hdV_one (h := { h with sn := v / 3 % 4, sc := v / 12 % 3 + 1 }) rfl q2 rfl q4); (simp only [maxLen]; omega); (omega); (clear HF; intro vc2 w7 HF K hK; go_simp)))
          go_roundw
          case rel =>
            obtain ⟨Q2, wc2, hC2, HY⟩ := core_mk (At.fold (M := [_, _, _, _]) (HF.sel 10 [5, 6, 8, 2, 0, 7, 9]))
            have HS : At wc2 (Hold veh h.ents.length h.ents.flatten :: Hold vrh h.row.length (h.row.map Pl.cells).flatten :: Q :: Blk gd (.cells #[.int .u8 (v / 3 % 4), .int .u8 (v / 12 % 3 + 1)] 5 (0, 0)) :: []) wc2 := At.flat hC2.self
            refine ⟨EL ++ [⟨{ h with sn := v / 3 % 4, sc := v / 12 % 3 + 1, data := blkOf (v / 3 % 4) (v / 12 % 3 + 1) }, .slice (some ⟨gd, 0, none⟩) 2 2, veh, nl, vrh⟩], _, Q2, wc2, by simp; omega, by simp, fun x hx => ?_, hC2, fun x hx => ?_, ?_⟩
            · rcases List.mem_append.1 hx with hx | hx
              · exact HGd.out x hx
              · obtain rfl := List.mem_singleton.1 hx
                exact good_blk PA.out UA.out (by omega) p1 p2 p3
            · rcases List.mem_append.1 hx with hx | hx
              · exact HAt.out.sub (HC.out.sub (HS.pick 2 rfl)) x hx
              · obtain rfl := List.mem_singleton.1 hx
                have hd := hdAt_hold PA.out QA.out.2.2 HS
                exact ⟨blk_row (by omega) p1 p2 p3 (HS.pick 3 rfl), hd.e, hd.l, hd.r⟩
            · simp only [List.length_append, List.map_append, List.flatten_append, List.map_cons, List.map_nil, List.flatten_cons, List.flatten_nil, List.append_nil, List.length_cons, List.length_nil, Nat.zero_add]
              exact HY.sel 4 [1, 2, 0, 3]
          case measure => simp [intOf]; omega
        · go_wp2_with (first | ((with_reducible refine k_alloc (T := 44) ?_); refine st_alloc rfl _ rfl _ z44 _ rfl HF ?_; (clear HF; intro g12 w HF K hK; simp only [Value.cells] at HF; go_simp)) | ((with_reducible refine k_store (T := 44) ?_); refine st_put rfl _ _ _ rfl _ rfl _ rfl (hdV_one rfl q2 rfl q4) s44 HF 0 rfl rfl ?_; (clear HF; intro w HF K hK; simp only [List.set_cons_zero, List.set_cons_succ, Act.eval, Value.cells, Array.getD_eq_getD_getElem?, List.getElem?_toArray, List.getElem?_cons_succ, List.getElem?_cons_zero, Option.getD_some] at HF; go_simp)) | ((with_reducible refine k_alloc (T := 27) ?_); refine st_alloc rfl _ rfl _ z27 _ rfl HF ?_; (clear HF; intro g13 w HF K hK; simp only [Value.cells] at HF; go_simp)) | ((with_reducible refine k_store (T := 27) ?_); refine st_put rfl _ _ _ rfl _ rfl _ rfl ?_ s27 HF 0 rfl rfl ?_; (simp [Value.oneCell']); (clear HF; intro w HF K hK; simp only [List.set_cons_zero, List.set_cons_succ, Act.eval, Value.cells, Array.getD_eq_getD_getElem?, List.getElem?_toArray, List.getElem?_cons_succ, List.getElem?_cons_zero, Option.getD_some] at HF; go_simp)) | ((with_reducible refine k_load (T := 44) ?_); refine st_row rfl _ _ rfl _ rfl a44 7 s44 HF 1 rfl rfl ?_; (intro K hK; go_simp)) | ((with_reducible refine k_load (T := 44) ?_); refine st_loads rfl _ _ rfl _ _ rfl a44 7 s44 HF 1 rfl ?_ ?_; (simp); (intro K hK; go_simp)) | ((with_reducible refine k_load ?_); refine st_load rfl _ _ rfl _ _ rfl ?_ HF 0 rfl rfl ?_; (kernel_rfl); (intro K hK; go_simp)) | ((with_reducible refine k_lit ?_); refine st_lit1 rfl _ _ rfl ([.int .i64 h.sn, .int .i64 h.sc, nl, .int .i64 h.upto, veh, nl, vrh] : List Value).toArray rfl 44 Try.underlying82 7 s44 #[.int .i64 0, .int .i64 0, .slice none 0 0, .int .i64 0, .slice none 0 0, .slice none 0 0, .slice none 0 0] z44 rfl rfl (by decide) (by decide) HF ?_; (clear HF; intro gl w6 HF K hK; replace HF : At W (OwnRow _ _ _ _ _ :: _) w6 := HF.pick 5 rfl; go_simp)) | ((with_reducible refine k_builtin ?_); refine st_append rfl _ _ _ rfl 44 Try.underlying82 7 s44 120 ?_ (.agg #[.int .i64 0, .int .i64 0, .slice none 0 0, .int .i64 0, .slice none 0 0, .slice none 0 0, .slice none 0 0]) ?_ rfl _ _ _ rfl HF (some ⟨gl, 0, none⟩) 1 1 ([.int .i64 h.sn, .int .i64 h.sc, nl, .int .i64 h.upto, veh, nl, vrh] : List Value) rfl rfl ?_ ?_ ?_ ?_ ?_; (kernel_rfl); (kernel_rfl); (intro _; exact ⟨_, rfl, cells_of (HF.get 1 rfl)⟩); (exact hdV_one rfl q2 rfl q4); (simp only [maxLen]; omega); (omega); (clear HF; intro vc2 w7 HF K hK; go_simp)))
          go_roundw
          case rel =>
            obtain ⟨Q2, wc2, hC2, HY⟩ := core_mk (At.fold (M := [_, _, _]) (HF.sel 9 [4, 5, 7, 0, 6, 8]))
            have HS : At wc2 (Hold veh h.ents.length h.ents.flatten :: Hold vrh h.row.length (h.row.map Pl.cells).flatten :: Q :: []) wc2 := At.flat hC2.self
            refine ⟨EL ++ [⟨h, nl, veh, nl, vrh⟩], _, Q2, wc2, by simp; omega, by simp, fun x hx => ?_, hC2, fun x hx => ?_, ?_⟩
            · rcases List.mem_append.1 hx with hx | hx
              · exact HGd.out x hx
              · obtain rfl := List.mem_singleton.1 hx
                exact good_plain PA.out UA.out QA.out
            · rcases List.mem_append.1 hx with hx | hx
              · exact HAt.out.sub (HC.out.sub (HS.pick 2 rfl)) x hx
              · obtain rfl := List.mem_singleton.1 hx
                exact hdAt_hold PA.out QA.out.2.2 HS
            · simp only [List.length_append, List.map_append, List.flatten_append, List.map_cons, List.map_nil, List.flatten_cons, List.flatten_nil, List.append_nil, List.length_cons, List.length_nil, Nat.zero_add]
              exact HY.sel 4 [1, 2, 0, 3]
          case measure => simp [intOf]; omega
      · have g2x : ¬ (EL.length : Int) < hs.length := by omega
        have hsn : ¬ (0 : Int) < 0 := by decide
        have z0 : (0 : Int) ≤ 0 := by decide
        have z1 : (0 : Int) < 300 := by decide
        go_wp2_with fail
        have HF2 := HF.alloc (.cells #[.int .i64 (0), .int .i64 (0), .int .i64 (0)] 3)
        refine (holds (u := 0) (m := 0) (by omega) (by omega) (by omega) (by omega) (odd := [0, 0, 0]) (own_own (e := 3) (size := 1) _ _ _ (own_mk HF2 (Nat.le_refl _) (by simp [maxLen]) rfl rfl rfl)) (fun x hx => in_of (by simp at hx; omega) (by simp at hx; omega)) HF2).mono ?_
        rintro e w4 ⟨h, veh, vrh, rfl, hp, s1, s2, s3, H1⟩
        have PA := Lib.hid (plain_top hp (show (0 : Int) + 0 + 20 ≤ 600 by omega))
        have QA := Lib.hid (And.intro s1 (And.intro s2 s3))
        have UA := Lib.hid (show (0 : Int) ≤ 600 by omega)
        have q2 := row_one (hold_at H1)
        have q4 := row_one (hold_at H1.drop)
        replace HF := H1.sel 3 [0, 1]
        clear H1 HF2 hp s1 s2 s3
        go_wp2_with (first | ((with_reducible refine k_alloc (T := 44) ?_); refine st_alloc rfl _ rfl _ z44 _ rfl HF ?_; (clear HF; intro g12 w HF K hK; simp only [Value.cells] at HF; go_simp)) | ((with_reducible refine k_store (T := 44) ?_); refine st_put rfl _ _ _ rfl _ rfl _ rfl (hdV_one rfl q2 rfl q4) s44 HF 0 rfl rfl ?_; (clear HF; intro w HF K hK; simp only [List.set_cons_zero, List.set_cons_succ, Act.eval, Value.cells, Array.getD_eq_getD_getElem?, List.getElem?_toArray, List.getElem?_cons_succ, List.getElem?_cons_zero, Option.getD_some] at HF; go_simp)) | ((with_reducible refine k_alloc (T := 27) ?_); refine st_alloc rfl _ rfl _ z27 _ rfl HF ?_; (clear HF; intro g13 w HF K hK; simp only [Value.cells] at HF; go_simp)) | ((with_reducible refine k_store (T := 27) ?_); refine st_put rfl _ _ _ rfl _ rfl _ rfl ?_ s27 HF 0 rfl rfl ?_; (simp [Value.oneCell']); (clear HF; intro w HF K hK; simp only [List.set_cons_zero, List.set_cons_succ, Act.eval, Value.cells, Array.getD_eq_getD_getElem?, List.getElem?_toArray, List.getElem?_cons_succ, List.getElem?_cons_zero, Option.getD_some] at HF; go_simp)) | ((with_reducible refine k_load (T := 44) ?_); refine st_row rfl _ _ rfl _ rfl a44 7 s44 HF 1 rfl rfl ?_; (intro K hK; go_simp)) | ((with_reducible refine k_load (T := 44) ?_); refine st_loads rfl _ _ rfl _ _ rfl a44 7 s44 HF 1 rfl ?_ ?_; (simp); (intro K hK; go_simp)) | ((with_reducible refine k_load ?_); refine st_load rfl _ _ rfl _ _ rfl ?_ HF 0 rfl rfl ?_; (kernel_rfl); (intro K hK; go_simp)) | ((with_reducible refine k_lit ?_); refine st_lit1 rfl _ _ rfl ([.int .i64 h.sn, .int .i64 h.sc, nl, .int .i64 h.upto, veh, nl, vrh] : List Value).toArray rfl 44 Try.underlying82 7 s44 #[.int .i64 0, .int .i64 0, .slice none 0 0, .int .i64 0, .slice none 0 0, .slice none 0 0, .slice none 0 0] z44 rfl rfl (by decide) (by decide) HF ?_; (clear HF; intro gl w6 HF K hK; replace HF : At W (OwnRow _ _ _ _ _ :: _) w6 := HF.pick 5 rfl; go_simp)) | ((with_reducible refine k_builtin ?_); refine st_append rfl _ _ _ rfl 44 Try.underlying82 7 s44 120 ?_ (.agg #[.int .i64 0, .int .i64 0, .slice none 0 0, .int .i64 0, .slice none 0 0, .slice none 0 0, .slice none 0 0]) ?_ rfl _ _ _ rfl HF (some ⟨gl, 0, none⟩) 1 1 ([.int .i64 h.sn, .int .i64 h.sc, nl, .int .i64 h.upto, veh, nl, vrh] : List Value) rfl rfl ?_ ?_ ?_ ?_ ?_; (kernel_rfl); (kernel_rfl); (intro _; exact ⟨_, rfl, cells_of (HF.get 1 rfl)⟩); (exact hdV_one rfl q2 rfl q4); (simp only [maxLen]; omega); (omega); (clear HF; intro vc2 w7 HF K hK; go_simp)))
        go_roundw
        case rel =>
          obtain ⟨Q2, wc2, hC2, HY⟩ := core_mk (At.fold (M := [_, _, _]) (HF.sel 9 [4, 5, 7, 0, 6, 8]))
          have HS : At wc2 (Hold veh h.ents.length h.ents.flatten :: Hold vrh h.row.length (h.row.map Pl.cells).flatten :: Q :: []) wc2 := At.flat hC2.self
          refine ⟨EL ++ [⟨h, nl, veh, nl, vrh⟩], _, Q2, wc2, by simp; omega, by simp, fun x hx => ?_, hC2, fun x hx => ?_, ?_⟩
          · rcases List.mem_append.1 hx with hx | hx
            · exact HGd.out x hx
            · obtain rfl := List.mem_singleton.1 hx
              exact good_plain PA.out UA.out QA.out
          · rcases List.mem_append.1 hx with hx | hx
            · exact HAt.out.sub (HC.out.sub (HS.pick 2 rfl)) x hx
            · obtain rfl := List.mem_singleton.1 hx
              exact hdAt_hold PA.out QA.out.2.2 HS
          · simp only [List.length_append, List.map_append, List.flatten_append, List.map_cons, List.map_nil, List.flatten_cons, List.flatten_nil, List.append_nil, List.length_cons, List.length_nil, Nat.zero_add]
            exact HY.sel 4 [1, 2, 0, 3]
        case measure => simp [intOf]; omega
    · have g1x : ¬ (EL.length : Int) < n := by omega
      obtain rfl : EL.length = n := by omega
      obtain ⟨ad, cap, hvo, c1, c2, c3, c4, -⟩ := own_value HF
      obtain ⟨bl, rfl⟩ := c4 (by omega)
      subst hvo
      have Hl := Lib.hid c3
      have Ho := Lib.hid (one_cells HAt.out)
      clear c3 c4 c2 hE hlt
      go_wp2_with (first | ((with_reducible refine k_lit (T := 82) ?_); refine st_lit rfl _ _ _ rfl #[] 44 0 HF ?_ ?_; (go_simp); (clear HF; intro g1 w1 HF K hK; replace HF := own_mk (n := 0) (xs := []) (size := 7) HF (Nat.le_refl _) (Nat.zero_le _) (by simp) (by simp) (by simp); go_simp))          | ((with_reducible refine k_builtin ?_); refine st_append rfl _ _ _ rfl 44 Try.underlying82 7 s44 120 ?_ (.agg #[.int .i64 0, .int .i64 0, .slice none 0 0, .int .i64 0, .slice none 0 0, .slice none 0 0, .slice none 0 0]) ?_ rfl _ _ _ rfl HF (some bl) EL.length cap ((EL.map El.cells).flatten) rfl Hl.out ?_ Ho.out ?_ ?_ ?_; (kernel_rfl); (kernel_rfl); (intro _; exact ⟨bl, rfl, fun j u hj => by obtain ⟨ad, cp, e, -, -, -, -, hc⟩ := own_value (HF.pick 1 rfl); cases e; exact hc _ rfl j u hj⟩); (simp only [maxLen]; omega); (omega); (clear HF; intro v14 w2 HF K hK; go_simp)))
      rw [Nat.zero_add, List.nil_append] at HF
      obtain ⟨ad, cap2, hvo, d1, -, -, d4, -⟩ := own_value HF
      obtain ⟨bf, rfl⟩ := d4 (by omega)
      subst hvo
      clear d4
      obtain ⟨N, hN⟩ : ∃ N : Nat, EL.length * EL.length = N := ⟨_, rfl⟩
      have hN2 : EL.length ≤ N ∧ N ≤ 25 := by
        rw [← hN]
        exact ⟨Nat.le_mul_self _, Nat.mul_le_mul n3 n3⟩
      have HN := Lib.hid hN
      have hNN : (EL.length : Int) * (EL.length : Int) = (N : Int) := by rw [← hN, Int.natCast_mul]
      have hmul : IntKind.i64.wrap ((EL.length : Int) * (EL.length : Int)) = (N : Int) := by rw [hNN]; exact IntWalk.i64_in _ (by omega)
      clear hNN
      clear hN
      have HG := own_nil HF 3 1
      clear HF
      go_loopw [15, 16] (fun x y wr => ∃ p : Nat, p ≤ N ∧ y = .int .i64 p ∧ At W (OwnRow 3 1 x p (nums p) :: OwnRow 44 7 (.slice (some bf) EL.length cap2) EL.length (EL.map El.cells).flatten :: OwnRow 44 7 (.slice (some bl) EL.length cap) EL.length (EL.map El.cells).flatten :: Blk g8 (.cells #[.int .i64 1, .int .i64 3, .int .i64 1, .int .i64 0] 25 (0, 0)) :: Q :: Arg W :: []) wr) (fun x y _ => N - (intOf y).toNat)
      case atStart => exact ⟨0, Nat.zero_le _, rfl, HG⟩
      case round =>
        clear HG
        obtain ⟨p, hp, rfl, HF⟩ := hrel
        by_cases hpl : p < N
        · have g2x : (p : Int) < N := by omega
          go_wp2_with (first | ((with_reducible refine k_lit (T := 73) ?_); refine st_lit rfl _ _ _ rfl #[.int .i64 p] 3 1 HF ?_ ?_; (go_simp); (clear HF; intro gl w6 HF K hK; replace HF : At W (OwnRow _ _ _ _ _ :: _) w6 := HF.pick 1 rfl; go_simp))              | ((with_reducible refine k_builtin ?_); refine st_append rfl _ _ _ rfl 3 Try.underlying73 1 ?_ 8 ?_ (.int .i64 0) ?_ rfl _ _ _ rfl HF (some ⟨gl, 0, none⟩) 1 1 ([.int .i64 p] : List Value) rfl rfl ?_ ?_ ?_ ?_ ?_; (kernel_rfl); (kernel_rfl); (kernel_rfl); (intro _; exact ⟨_, rfl, cells_of (HF.get 1 rfl)⟩); (simp [Value.oneCell']); (simp only [maxLen]; omega); (omega); (clear HF; intro vc2 w7 HF K hK; go_simp)))
          go_roundw
          case rel => exact ⟨p + 1, by omega, by go_num, by rw [nums_succ]; exact HF.sel 2 [0]⟩
          case measure => simp [intOf]; omega
        · have g2x : ¬ (p : Int) < N := by omega
          obtain rfl : p = N := by omega
          obtain ⟨ad, cap3, hvo, f1, -, -, f4, -⟩ := own_value HF
          obtain ⟨bp, rfl⟩ := f4 (by omega)
          subst hvo
          clear f4 hpl hp
          go_wp2_with fail
          have HG : At W (OwnRow 3 1 (.slice (some bp) p cap3) p (((List.range p).map fun (q : Nat) => (q : Int)).map (Value.int .i64)) :: OwnRow 44 7 (.slice (some bf) EL.length cap2) EL.length (EL.map El.cells).flatten :: OwnRow 44 7 (.slice (some bl) EL.length cap) EL.length (EL.map El.cells).flatten :: Blk g8 (.cells #[.int .i64 1, .int .i64 3, .int .i64 1, .int .i64 0] 25 (0, 0)) :: Q :: Arg W :: []) wr := by
            have e : ((List.range p).map fun (q : Nat) => (q : Int)).map (Value.int .i64) = nums p := by simp [nums]
            rw [e]
            exact HF
          clear HF
          go_loopw [17] (fun x wr => ∃ (i : Nat) (pr : List Int), i ≤ os.length ∧ x = .int .i64 i ∧ pr.length = p ∧ (∀ m : Nat, m < p → ∃ q : Nat, pr[q]? = some (m : Int)) ∧ (∀ y ∈ pr, 0 ≤ y ∧ y < (p : Int)) ∧ At W (OwnRow 3 1 (.slice (some bp) p cap3) p (pr.map (Value.int .i64)) :: OwnRow 44 7 (.slice (some bf) EL.length cap2) EL.length (EL.map El.cells).flatten :: OwnRow 44 7 (.slice (some bl) EL.length cap) EL.length (EL.map El.cells).flatten :: Blk g8 (.cells #[.int .i64 1, .int .i64 3, .int .i64 1, .int .i64 0] 25 (0, 0)) :: Q :: Arg W :: []) wr) (fun x _ => os.length - (intOf x).toNat)
          case atStart => exact ⟨0, _, Nat.zero_le _, rfl, by simp, fun m hm => ⟨m, by simp [hm]⟩, fun y hy => by simp at hy; omega, HG⟩
          case round =>
            clear HG
            obtain ⟨i, pr, hi, rfl, hpl, hpm, hpb, HF⟩ := hrel
            have HPm := Lib.hid hpm
            have HPb := Lib.hid hpb
            have HPl := Lib.hid hpl
            clear hpm hpb hpl
            by_cases hlo : i < os.length
            · have g3x : (i : Int) < os.length := by omega
              obtain ⟨y, hy⟩ : ∃ y, os[i]? = some y := ⟨_, List.getElem?_eq_getElem hlo⟩
              obtain ⟨b3, rfl⟩ := OA3.out (by omega)
              have Hy := Lib.hid (OA4.out b3 rfl i (.int .i64 y) (by rw [List.getElem?_map, hy]; rfl))
              obtain ⟨ia, hia⟩ : ∃ ia : Nat, i % p = ia := ⟨_, rfl⟩
              have hial : ia < p := by rw [← hia]; exact Nat.mod_lt _ (by omega)
              have hr1 : (i : Int) % (p : Int) = (ia : Int) := by rw [← hia]; exact (Int.natCast_emod i p).symm
              have hr2 : (i : Int).tmod (p : Int) = (ia : Int) := by rw [← hia]; exact (Int.ofNat_tmod i p).symm
              have gp0 : ¬ (p : Int) = 0 := by omega
              obtain ⟨q0, q1⟩ := roundS_lt (v := y) (n := p) (by omega)
              obtain ⟨ib, hib⟩ : ∃ ib : Nat, roundS y p = ib := ⟨(roundS y p).toNat, by omega⟩
              have hibl : ib < p := by omega
              have HIB := Lib.hid hib
              clear hib q0 q1 hy
              obtain ⟨xa, hxa⟩ : ∃ xa, pr[ia]? = some xa := ⟨_, List.getElem?_eq_getElem (by rw [HPl.out]; exact hial)⟩
              obtain ⟨xb, hxb⟩ : ∃ xb, pr[ib]? = some xb := ⟨_, List.getElem?_eq_getElem (by rw [HPl.out]; exact hibl)⟩
              have HXa := Lib.hid hxa
              have HXb := Lib.hid hxb
              have hca := Lib.hid (show (pr.map (Value.int .i64))[ia]? = some (.int .i64 xa) by rw [List.getElem?_map, hxa]; rfl)
              have hcb := Lib.hid (show (pr.map (Value.int .i64))[ib]? = some (.int .i64 xb) by rw [List.getElem?_map, hxb]; rfl)
              have gia : (ia : Int) < p := by omega
              have gib : (ib : Int) < p := by omega
              clear hxa hxb hia
              go_wp2_with (first | ((with_reducible refine k_load (T := 3) ?_); refine st_load1 rfl _ _ rfl _ rfl ?_ ((HF.ext 5 rfl).cell Hy.out) ?_; (kernel_rfl); (intro K hK; go_simp)))
              refine (round (n := p) (by omega) (by omega) y HF).mono ?_
              rintro e w9 ⟨rfl, H1⟩
              replace HF := H1
              clear H1
              rw [HIB.out]
              go_wp2_with (first | ((with_reducible refine k_load (T := 3) ?_); (first | refine st_load1 rfl _ _ rfl _ rfl ?_ (own_cell HF hca.out) ?_ | refine st_load1 rfl _ _ rfl _ rfl ?_ (own_cell HF hcb.out) ?_); (kernel_rfl); (intro K hK; go_simp))                  | ((with_reducible refine k_store (T := 3) ?_); refine st_ownStore rfl _ _ _ rfl ia rfl (.int .i64 xb) rfl rfl ?_ HF ?_ ?_; (kernel_rfl); (simp [HPl.out]; omega); (clear HF; intro w HF K hK; go_simp))                  | ((with_reducible refine k_store (T := 3) ?_); refine st_ownStore rfl _ _ _ rfl ib rfl (.int .i64 xa) rfl rfl ?_ HF ?_ ?_; (kernel_rfl); (simp [HPl.out]; omega); (clear HF; intro w HF K hK; go_simp)))
              go_roundw
              case rel =>
                refine ⟨i + 1, (pr.set ia xb).set ib xa, by omega, by go_num, by simp [HPl.out], fun m hm => swap_mem HXa.out HXb.out (HPm.out m hm), fun y hy => ?_, by rw [List.map_set, List.map_set]; exact HF⟩
                rcases List.mem_or_eq_of_mem_set hy with hy | rfl
                · rcases List.mem_or_eq_of_mem_set hy with hy | rfl
                  · exact HPb.out y hy
                  · exact HPb.out _ (List.mem_of_getElem? HXb.out)
                · exact HPb.out _ (List.mem_of_getElem? HXa.out)
              case measure => simp [intOf]; omega
            · have g3x : ¬ (i : Int) < os.length := by omega
              clear hmul
              go_wp2_with fail
              have HG : At W (OwnRow 44 7 (.slice (some bl) EL.length cap) EL.length (EL.map El.cells).flatten :: Q :: OwnRow 3 1 (.slice (some bp) p cap3) p (pr.map (Value.int .i64)) :: OwnRow 44 7 (.slice (some bf) EL.length cap2) EL.length (EL.map El.cells).flatten :: Blk g8 (.cells #[.int .i64 1, .int .i64 3, .int .i64 1, .int .i64 0] 25 (0, 0)) :: Arg W :: []) wr := HF.sel 6 [2, 4, 0, 1, 3, 5]
              clear HF
              go_loopw [21] (fun x wr => ∃ (k : Nat) (G : List El) (P Q : HProp) (wc : World), k ≤ p ∧ x = .int .i64 k ∧ InvP 600 (EL.map El.h) (G.map El.h) (fun i j => i = j ∨ ∃ q : Nat, q < k ∧ pr[q]? = some ((i : Int) * EL.length + j)) ∧ Core P Q wc ∧ AllAt wc G ∧ AllAt wc EL ∧ At W (OwnRow 44 7 (.slice (some bl) EL.length cap) EL.length (G.map El.cells).flatten :: Q :: OwnRow 3 1 (.slice (some bp) p cap3) p (pr.map (Value.int .i64)) :: OwnRow 44 7 (.slice (some bf) EL.length cap2) EL.length (EL.map El.cells).flatten :: Blk g8 (.cells #[.int .i64 1, .int .i64 3, .int .i64 1, .int .i64 0] 25 (0, 0)) :: Arg W :: []) wr) (fun x _ => p - (intOf x).toNat)
              case atStart =>
                refine ⟨0, EL, P, Q, wc, Nat.zero_le _, rfl, ?_, HC.out, HAt.out, HAt.out, HG⟩
                have h0 := inv_start (T := 600) (F := EL.map El.h) (fun g hg => by obtain ⟨x, hx, rfl⟩ := List.mem_map.1 hg; exact HGd.out x hx)
                exact ⟨h0.len, h0.good, h0.mono, h0.up, h0.one, fun i j g f hd => h0.done i j g f (by rcases hd with h | ⟨q, hq, _⟩; exact h; exact absurd hq (Nat.not_lt_zero _))⟩
              case round =>
                clear HG HC HAt
                obtain ⟨k, G, P, Q, wc, hk, rfl, hinv, hC, hat, hatE, HF⟩ := hrel
                have HC := Lib.hid hC
                have HAt := Lib.hid hat
                have HAE := Lib.hid hatE
                have HI2 := Lib.hid hinv
                have GL := Lib.hid (show G.length = EL.length by have := hinv.len; simpa using this)
                clear hinv hC hat hatE
                by_cases hkp : k < p
                · have g4x : (k : Int) < p := by omega
                  obtain ⟨y, hy⟩ : ∃ y, pr[k]? = some y := ⟨_, List.getElem?_eq_getElem (by rw [HPl.out]; exact hkp)⟩
                  have hyb := HPb.out y (List.mem_of_getElem? hy)
                  obtain ⟨m, rfl⟩ : ∃ m : Nat, y = m := ⟨y.toNat, by omega⟩
                  have hcy := Lib.hid (show (pr.map (Value.int .i64))[k]? = some (.int .i64 m) by rw [List.getElem?_map, hy]; rfl)
                  have HY := Lib.hid hy
                  obtain ⟨ia, hia⟩ : ∃ ia : Nat, m / EL.length = ia := ⟨_, rfl⟩
                  obtain ⟨ib, hib⟩ : ∃ ib : Nat, m % EL.length = ib := ⟨_, rfl⟩
                  have hial : ia < EL.length := by rw [← hia]; exact Nat.div_lt_of_lt_mul (by rw [HN.out]; omega)
                  have hibl : ib < EL.length := by rw [← hib]; exact Nat.mod_lt _ (by omega)
                  have HM := Lib.hid (show m = ia * EL.length + ib by rw [← hia, ← hib, Nat.mul_comm]; exact (Nat.div_add_mod m EL.length).symm)
                  have hd1 : (m : Int) / (EL.length : Int) = (ia : Int) := by rw [← hia]; exact (Int.natCast_ediv m EL.length).symm
                  have hd2 : (m : Int).tdiv (EL.length : Int) = (ia : Int) := by rw [← hia]; exact (Int.ofNat_tdiv m EL.length).symm
                  have hr1 : (m : Int) % (EL.length : Int) = (ib : Int) := by rw [← hib]; exact (Int.natCast_emod m EL.length).symm
                  have hr2 : (m : Int).tmod (EL.length : Int) = (ib : Int) := by rw [← hib]; exact (Int.ofNat_tmod m EL.length).symm
                  have gE0 : ¬ (EL.length : Int) = 0 := by omega
                  have gia : (ia : Int) < EL.length := by omega
                  have gib : (ib : Int) < EL.length := by omega
                  have hia5 : (ia : Int) < 5 := by omega
                  have hib5 : (ib : Int) < 5 := by omega
                  clear hia hib hy hyb
                  by_cases heq : ia = ib
                  · have hqb : ((ia : Int) == (ib : Int)) = true := by simp [heq]
                    have HEQ := Lib.hid heq
                    clear heq
                    go_wp2_with (first | ((with_reducible refine k_load (T := 3) ?_); refine st_load1 rfl _ _ rfl _ rfl ?_ (own_cell (HF.pick 2 rfl) hcy.out) ?_; (kernel_rfl); (intro K hK; go_simp)))
                    go_roundw
                    case rel =>
                      refine ⟨k + 1, G, P, Q, wc, by omega, by go_num, ?_, HC.out, HAt.out, HAE.out, HF⟩
                      have h0 := HI2.out
                      exact ⟨h0.len, h0.good, h0.mono, h0.up, h0.one, fun i j g f hd hg hf => h0.done i j g f (pair_next (EL.length) HY.out HM.out hibl (by have := (List.getElem?_eq_some_iff.1 hf).1; simpa using this) hd (fun e1 e2 => .inl (by rw [e1, e2]; exact HEQ.out))) hg hf⟩
                    case measure => simp [intOf]; omega
                  · have hqb : ((ia : Int) == (ib : Int)) = false := by simp; omega
                    obtain ⟨ga, hga⟩ : ∃ ga, G[ia]? = some ga := ⟨_, List.getElem?_eq_getElem (by rw [GL.out]; exact hial)⟩
                    obtain ⟨gb, hgb⟩ : ∃ gb, G[ib]? = some gb := ⟨_, List.getElem?_eq_getElem (by rw [GL.out]; exact hibl)⟩
                    have HGa := Lib.hid hga
                    have HGb := Lib.hid hgb
                    have GDa := Lib.hid (HI2.out.good ga.h (List.mem_map_of_mem (List.mem_of_getElem? hga)))
                    have GDb := Lib.hid (HI2.out.good gb.h (List.mem_map_of_mem (List.mem_of_getElem? hgb)))
                    have AAa := Lib.hid (HAt.out ga (List.mem_of_getElem? hga))
                    have AAb := Lib.hid (HAt.out gb (List.mem_of_getElem? hgb))
                    have SPr := Lib.hid (step_pair (T := 600) (by decide) GDa.out GDb.out ((ia : Int) + 1) ((ib : Int) + 1))
                    have MBk := Lib.hid (mend_block GDa.out.blk GDb.out.blk ((ia : Int) + 1) ((ib : Int) + 1))
                    have GDx := Lib.hid (good_mix GDa.out GDb.out)
                    have FA := Lib.hid (good_all GDa.out)
                    have FB := Lib.hid (good_all GDb.out)
                    have FX := Lib.hid (good_all GDx.out)
                    have qf := Lib.hid (show In64 ((ia : Int) + 1) from in_of (by omega) (by omega))
                    have qt := Lib.hid (show In64 ((ib : Int) + 1) from in_of (by omega) (by omega))
                    clear hga hgb heq
                    go_wp2_with (first | ((with_reducible refine k_load (T := 3) ?_); refine st_load1 rfl _ _ rfl _ rfl ?_ (own_cell (HF.pick 2 rfl) hcy.out) ?_; (kernel_rfl); (intro K hK; go_simp)))
                    clear hd1 hd2 hr1 hr2 hqb
                    have hwa : IntKind.i64.wrap ((ia : Int) + 1) = (ia : Int) + 1 := IntWalk.i64_in _ (by omega)
                    have hwb : IntKind.i64.wrap ((ib : Int) + 1) = (ib : Int) + 1 := IntWalk.i64_in _ (by omega)
                    apply wp_region_eff [13, 18, 19] (fun i => (#[[], [], [], [], [], [], [], [], [], [], [], [], [], [], [13], [13], [13], [13], [], [13, 18], [13], [13]] : Array (List Nat)).getD i []) (fun val i => ((_ :: _ :: _ :: _ :: _ :: _ :: _ :: _ :: .agg (hdV ga.h ga.d ga.e ga.l ga.r) :: _ :: _ :: _ :: .agg (hdV gb.h gb.d gb.e gb.l gb.r) :: val 13 :: _ :: _ :: _ :: _ :: val 18 :: val 19 :: _ :: _ :: []) : List Value).toArray.getD i undef) (fun E val => At W ((if E 13 = true then RwR (Go.Hp.Sub wc) (mixK ga.h gb.h, 1, true) (val 13) else emp) :: (if E 18 = true then PtrBlk (val 18) (.cells (if E 19 = true then tagg (val 13) else z7) 44 (0, 0)) else emp) :: OwnRow 44 7 (.slice (some bl) EL.length cap) EL.length (G.map El.cells).flatten :: Q :: OwnRow 3 1 (.slice (some bp) p cap3) p (pr.map (Value.int .i64)) :: OwnRow 44 7 (.slice (some bf) EL.length cap2) EL.length (EL.map El.cells).flatten :: Blk g8 (.cells #[.int .i64 1, .int .i64 3, .int .i64 1, .int .i64 0] 25 (0, 0)) :: Arg W :: [])) (by kernel_rfl) (by kernel_rfl) (by kernel_rfl) (by kernel_rfl) (HF.addEmp.addEmp)
                    case step =>
                      iterate 13 (refine ⟨eff_pl rfl (fun _ => by rfl) fun E val hn T ds w K H hk ho hK => ?_, ?_⟩; rotate_left)
                      refine ⟨eff_mk rfl (fun _ => by rfl) fun E val hE0 hcl hn T ds w K H hk ho hK => ?_, ?_⟩; rotate_left
                      iterate 4 (refine ⟨eff_pl rfl (fun _ => by rfl) fun E val hn T ds w K H hk ho hK => ?_, ?_⟩; rotate_left)
                      iterate 2 (refine ⟨eff_mk rfl (fun _ => by rfl) fun E val hE0 hcl hn T ds w K H hk ho hK => ?_, ?_⟩; rotate_left)
                      iterate 2 (refine ⟨eff_pl rfl (fun _ => by rfl) fun E val hn T ds w K H hk ho hK => ?_, ?_⟩; rotate_left)
                      exact trivial
                      · have o8 := ho 8 (by kernel_rfl); clear ho; simp [know, dstAt, Region.binds] at hk o8
                        (refine op_rowT (T := 25) rfl o8 a25 s25 H 6 rfl rfl ?_; exact hK _ H)
                      · have o22 := ho 22 (by kernel_rfl); clear ho; simp [know, dstAt, Region.binds] at hk o22; go_simp; exact hK _ H
                      · clear ho; simp [know, dstAt, Region.binds] at hk; go_simp; exact hK _ H
                      · have o23 := ho 23 (by kernel_rfl); clear ho; simp [know, dstAt, Region.binds] at hk o23; go_simp; exact hK _ H
                      · clear ho; simp [know, dstAt, Region.binds] at hk; go_simp; exact hK _ H
                      · have o9 := ho 9 (by kernel_rfl); clear ho; simp [know, dstAt, Region.binds] at hk o9; go_simp; exact hK _ H
                      · have o22 := ho 22 (by kernel_rfl); clear ho; simp [know, dstAt, Region.binds] at hk o22; go_simp; exact hK _ H
                      · clear ho; simp [know, dstAt, Region.binds] at hk; go_simp; exact hK _ H
                      · clear ho; simp [know, dstAt, Region.binds] at hk
                        (refine op_cellsT (vs := ga.cells) rfl hk a44 s44 (own_rec (H.pick 2 rfl) HGa.out) ?_; exact hK _ H)
                      · have o9 := ho 9 (by kernel_rfl); clear ho; simp [know, dstAt, Region.binds] at hk o9; go_simp; exact hK _ H
                      · have o23 := ho 23 (by kernel_rfl); clear ho; simp [know, dstAt, Region.binds] at hk o23; go_simp; exact hK _ H
                      · clear ho; simp [know, dstAt, Region.binds] at hk; go_simp; exact hK _ H
                      · clear ho; simp [know, dstAt, Region.binds] at hk
                        (refine op_cellsT (vs := gb.cells) rfl hk a44 s44 (own_rec (H.pick 2 rfl) HGb.out) ?_; exact hK _ H)
                      · clear ho; simp [know, dstAt, Region.binds] at hk
                        (have q19 : E 19 = false := (by cases h : E 19 with | false => rfl | true => (have h2 := hcl 19 (by decide) h 13 (by decide); rw [hE0] at h2; cases h2))); (simp only [hE0, q19, Bool.false_eq_true, if_false] at H); (have hsw := Lib.hid (HC.out.sub (H.pick 3 rfl))); go_simp; refine (row (f := (ia : Int) + 1) (t := (ib : Int) + 1) (kk := 1) (ka := 3) (kb := 1) (kc := 0) qf.out qt.out in1 in3 in1 in0 FA.out.1 FA.out.2.1 FA.out.2.2 FB.out.1 FB.out.2.1 FB.out.2.2 (S := Go.Hp.Sub wc) (fun _ he => hsw.out.trans he.sub) (fun _ hs => hd_sub AAa.out hs) (hd_sub AAb.out hsw.out) H.drop).mono ?_; rintro e w' hpost; rw [MBk.out] at hpost; obtain ⟨v, rfl, H2⟩ := rwr_mk hpost; refine hK _ _ ?_; have t13 : updE E 13 13 = true := rfl; have t19 : updE E 13 19 = false := q19; simp only [t13, t19, Bool.false_eq_true, if_true, if_false]; exact H2
                      · clear ho; simp [know, dstAt, Region.binds] at hk
                        first | (go_simp; exact hK _ H) | (have e13 := hn 13 (by decide); simp only [e13, if_true] at H; have hv13 := (At.and (H.pick 0 rfl)).1; have hk2 := hk.trans hv13; clear hk hv13; go_simp; exact hK _ (by simp only [e13, if_true]; exact H))
                      · clear ho; simp [know, dstAt, Region.binds] at hk
                        first | (have e13 := hn 13 (by decide); simp only [e13, if_true] at H; have hv13 := (At.and (H.pick 0 rfl)).1; have hk2 := hk.trans hv13; clear hk hv13; go_simp; exact hK _ (by simp only [e13, if_true]; exact H)) | (go_simp; exact hK _ H)
                      · clear ho; simp [know, dstAt, Region.binds] at hk
                        first | (have e13 := hn 13 (by decide); simp only [e13, if_true] at H; have hv13 := (At.and (H.pick 0 rfl)).1; have hk2 := hk.trans hv13; clear hk hv13; go_simp; exact hK _ (by simp only [e13, if_true]; exact H)) | (go_simp; exact hK _ H)
                      · clear ho; simp [know, dstAt, Region.binds] at hk
                        first | (have e13 := hn 13 (by decide); simp only [e13, if_true] at H; have hv13 := (At.and (H.pick 0 rfl)).1; have hk2 := hk.trans hv13; clear hk hv13; go_simp; exact hK _ (by simp only [e13, if_true]; exact H)) | (go_simp; exact hK _ H)
                      · clear ho; simp [know, dstAt, Region.binds] at hk
                        (have q19 : E 19 = false := (by cases h : E 19 with | false => rfl | true => (have h2 := hcl 19 (by decide) h 18 (by decide); rw [hE0] at h2; cases h2))); (simp only [hE0, Bool.false_eq_true, if_false] at H); refine op_allocT rfl z44 rfl (H.sel 2 [0]) ?_; (intro x w' H; refine hK _ _ ?_; have t18 : updE E 18 18 = true := rfl; have t19 : updE E 18 19 = false := q19; simp only [t18, t19, Bool.false_eq_true, if_true, if_false]; exact H.sel 2 [1, 0])
                      · clear ho; simp [know, dstAt, Region.binds] at hk
                        (have e13 := hn 13 (by decide)); (have e18 := hn 18 (by decide)); (simp only [hE0, e13, e18, Bool.false_eq_true, if_true, if_false] at H); (obtain ⟨h1v, hsz⟩ := rwr_one (H.pick 0 rfl) (HC.out.sub (H.pick 3 rfl))); (obtain ⟨g, hv18, HS⟩ := ptr_ex (H.pick 1 rfl)); refine op_putT rfl (hk.1.trans hv18) hk.2.1 h1v s44 HS 0 rfl (by rw [hsz]; rfl) hsz ?_; (intro w' H; refine hK _ _ ?_; have t13 : updE E 19 13 = true := e13; have t18 : updE E 19 18 = true := e18; have t19 : updE E 19 19 = true := rfl; simp only [t13, t18, t19, if_true]; exact (At.imp H fun _ hh => (⟨g, hv18, hh⟩ : PtrBlk (val 18) _ _)).sel 2 [1, 0])
                      · clear ho; simp [know, dstAt, Region.binds] at hk
                        first | (have e13 := hn 13 (by decide); simp only [e13, if_true] at H; have hv13 := (At.and (H.pick 0 rfl)).1; have hk2 := hk.trans hv13; clear hk hv13; go_simp; exact hK _ (by simp only [e13, if_true]; exact H)) | (go_simp; exact hK _ H)
                      · clear ho; simp [know, dstAt, Region.binds] at hk
                        first | (have e13 := hn 13 (by decide); simp only [e13, if_true] at H; have hv13 := (At.and (H.pick 0 rfl)).1; have hk2 := hk.trans hv13; clear hk hv13; go_simp; exact hK _ (by simp only [e13, if_true]; exact H)) | (go_simp; exact hK _ H)
                    case ins =>
                      iterate 13 (refine ⟨ins_pl rfl (fun _ _ _ => rfl), ?_⟩)
                      refine ⟨ins_mk rfl (fun _ => rfl), ?_⟩
                      iterate 4 (refine ⟨ins_pl rfl (fun val val' h => by first | rfl | ((have h13 := h 13 (by decide)); first | (simp only [h13]; done) | (simp only [h13]; rfl))), ?_⟩)
                      iterate 2 (refine ⟨ins_mk rfl (fun _ => rfl), ?_⟩)
                      iterate 2 (refine ⟨ins_pl rfl (fun val val' h => by first | rfl | ((have h13 := h 13 (by decide)); first | (simp only [h13]; done) | (simp only [h13]; rfl))), ?_⟩)
                      exact trivial
                    case jns =>
                      iterate 13 (refine ⟨j_pl (fun _ _ _ => rfl), ?_⟩)
                      refine ⟨j_mk rfl, ?_⟩
                      iterate 4 (refine ⟨j_pl (fun _ _ _ => rfl), ?_⟩)
                      iterate 2 (refine ⟨j_mk rfl, ?_⟩)
                      iterate 2 (refine ⟨j_pl (fun _ _ _ => rfl), ?_⟩)
                      exact trivial
                    case fin =>
                      intro E val w10 hE H
                      have e13 := hE 13 (by decide)
                      have e18 := hE 18 (by decide)
                      have e19 := hE 19 (by decide)
                      simp only [e13, e18, e19, if_true] at H
                      clear hE e13 e18 e19 HF
                      obtain ⟨g24, hv18, HX⟩ := ptr_ex (H.pick 1 rfl)
                      clear H
                      obtain ⟨vd, ve, vl, vr, P1, htg, hP1, HT⟩ := rwr_open (HX.pick 1 rfl)
                      rw [htg] at HT
                      clear HX
                      simp [putAll, Act.put, hv18]
                      clear hv18 htg
                      obtain ⟨Q2, wc2, hC2, HY⟩ := core_mk (At.fold (M := [_, _]) (HT.sel 4 [0, 3, 1, 2]))
                      have HS : At wc2 (P1 :: Q :: []) wc2 := At.flat hC2.self
                      have C2 := Lib.hid hC2
                      have hsb := HC.out.sub (HS.pick 1 rfl)
                      have AX := Lib.hid (hP1 _ _ _ hsb HS)
                      have AG2 := Lib.hid (HAt.out.sub hsb)
                      have AE2 := Lib.hid (HAE.out.sub hsb)
                      have AB2 := Lib.hid (hd_sub AAb.out hsb)
                      have HF : At W (Blk g24 (.cells (hdV (mixK ga.h gb.h) vd ve vl vr) 44 (0, 0)) :: OwnRow 44 7 (.slice (some bl) EL.length cap) EL.length (G.map El.cells).flatten :: Q2 :: OwnRow 3 1 (.slice (some bp) p cap3) p (pr.map (Value.int .i64)) :: OwnRow 44 7 (.slice (some bf) EL.length cap2) EL.length (EL.map El.cells).flatten :: Blk g8 (.cells #[.int .i64 1, .int .i64 3, .int .i64 1, .int .i64 0] 25 (0, 0)) :: Arg W :: []) w10 := HY.sel 3 [1, 2, 0]
                      clear HT hP1 hC2 HY HS hsb
                      go_wp2_with fail
                      obtain ⟨hok2, hst2⟩ := SPr.out
                      generalize hR2 : rowS 299 (askS ((ia : Int) + 1) ((ib : Int) + 1) 2 0 0 0 (mixK ga.h gb.h)) (mixK ga.h gb.h) gb.h = R2 at *
                      have HR2 := Lib.hid hR2
                      have HOK2 := Lib.hid hok2
                      have HST2 := Lib.hid hst2
                      clear hR2 hok2 hst2
                      apply wp_region_eff [10, 15, 16] (fun i => (#[[], [], [], [], [], [], [], [], [], [], [], [10], [10], [10], [10], [], [10, 15], [10], [10]] : Array (List Nat)).getD i []) (fun val i => ((_ :: _ :: _ :: _ :: _ :: _ :: _ :: _ :: _ :: .agg (hdV gb.h gb.d gb.e gb.l gb.r) :: val 10 :: _ :: _ :: _ :: _ :: val 15 :: val 16 :: _ :: _ :: []) : List Value).toArray.getD i undef) (fun E val => At W ((if E 10 = true then RwR (Go.Hp.Sub wc2) R2 (val 10) else emp) :: (if E 15 = true then PtrBlk (val 15) (.cells (if E 16 = true then tagg (val 10) else z7) 44 (0, 0)) else emp) :: Blk g24 (.cells (hdV (mixK ga.h gb.h) vd ve vl vr) 44 (0, 0)) :: OwnRow 44 7 (.slice (some bl) EL.length cap) EL.length (G.map El.cells).flatten :: Q2 :: OwnRow 3 1 (.slice (some bp) p cap3) p (pr.map (Value.int .i64)) :: OwnRow 44 7 (.slice (some bf) EL.length cap2) EL.length (EL.map El.cells).flatten :: Blk g8 (.cells #[.int .i64 1, .int .i64 3, .int .i64 1, .int .i64 0] 25 (0, 0)) :: Arg W :: [])) (by kernel_rfl) (by kernel_rfl) (by kernel_rfl) (by kernel_rfl) (HF.addEmp.addEmp)
                      case step =>
                        iterate 10 (refine ⟨eff_pl rfl (fun _ => by rfl) fun E val hn T ds w K H hk ho hK => ?_, ?_⟩; rotate_left)
                        refine ⟨eff_mk rfl (fun _ => by rfl) fun E val hE0 hcl hn T ds w K H hk ho hK => ?_, ?_⟩; rotate_left
                        iterate 4 (refine ⟨eff_pl rfl (fun _ => by rfl) fun E val hn T ds w K H hk ho hK => ?_, ?_⟩; rotate_left)
                        iterate 2 (refine ⟨eff_mk rfl (fun _ => by rfl) fun E val hE0 hcl hn T ds w K H hk ho hK => ?_, ?_⟩; rotate_left)
                        iterate 2 (refine ⟨eff_pl rfl (fun _ => by rfl) fun E val hn T ds w K H hk ho hK => ?_, ?_⟩; rotate_left)
                        exact trivial
                        · clear ho; simp [know, dstAt, Region.binds] at hk; go_simp; exact hK _ H
                        · have o22 := ho 22 (by kernel_rfl); clear ho; simp [know, dstAt, Region.binds] at hk o22; go_simp; exact hK _ H
                        · clear ho; simp [know, dstAt, Region.binds] at hk; go_simp; exact hK _ H
                        · have o23 := ho 23 (by kernel_rfl); clear ho; simp [know, dstAt, Region.binds] at hk o23; go_simp; exact hK _ H
                        · clear ho; simp [know, dstAt, Region.binds] at hk; go_simp; exact hK _ H
                        · have o24 := ho 24 (by kernel_rfl); clear ho; simp [know, dstAt, Region.binds] at hk o24
                          (refine op_rowT (T := 44) rfl o24 a44 s44 H 2 rfl rfl ?_; exact hK _ H)
                        · have o9 := ho 9 (by kernel_rfl); clear ho; simp [know, dstAt, Region.binds] at hk o9; go_simp; exact hK _ H
                        · have o23 := ho 23 (by kernel_rfl); clear ho; simp [know, dstAt, Region.binds] at hk o23; go_simp; exact hK _ H
                        · clear ho; simp [know, dstAt, Region.binds] at hk; go_simp; exact hK _ H
                        · clear ho; simp [know, dstAt, Region.binds] at hk
                          (refine op_cellsT (vs := gb.cells) rfl hk a44 s44 (own_rec (H.pick 3 rfl) HGb.out) ?_; exact hK _ H)
                        · clear ho; simp [know, dstAt, Region.binds] at hk
                          (have q16 : E 16 = false := (by cases h : E 16 with | false => rfl | true => (have h2 := hcl 16 (by decide) h 10 (by decide); rw [hE0] at h2; cases h2))); (simp only [hE0, q16, Bool.false_eq_true, if_false] at H); (have hsw := Lib.hid (C2.out.sub (H.pick 4 rfl))); go_simp; refine (row (f := (ia : Int) + 1) (t := (ib : Int) + 1) (kk := 2) (ka := 0) (kb := 0) (kc := 0) qf.out qt.out in2 in0 in0 in0 FX.out.1 FX.out.2.1 FX.out.2.2 FB.out.1 FB.out.2.1 FB.out.2.2 (S := Go.Hp.Sub wc2) (fun _ he => hsw.out.trans he.sub) (fun _ hs => hd_sub AX.out hs) (hd_sub AB2.out hsw.out) H.drop).mono ?_; rintro e w' hpost; rw [HR2.out] at hpost; obtain ⟨v, rfl, H2⟩ := rwr_mk hpost; refine hK _ _ ?_; have t10 : updE E 10 10 = true := rfl; have t16 : updE E 10 16 = false := q16; simp only [t10, t16, Bool.false_eq_true, if_true, if_false]; exact H2
                        · clear ho; simp [know, dstAt, Region.binds] at hk
                          first | (go_simp; exact hK _ H) | (have e10 := hn 10 (by decide); simp only [e10, if_true] at H; have hv10 := (At.and (H.pick 0 rfl)).1; have hk2 := hk.trans hv10; clear hk hv10; go_simp; exact hK _ (by simp only [e10, if_true]; exact H))
                        · clear ho; simp [know, dstAt, Region.binds] at hk
                          first | (have e10 := hn 10 (by decide); simp only [e10, if_true] at H; have hv10 := (At.and (H.pick 0 rfl)).1; have hk2 := hk.trans hv10; clear hk hv10; go_simp; exact hK _ (by simp only [e10, if_true]; exact H)) | (go_simp; exact hK _ H)
                        · clear ho; simp [know, dstAt, Region.binds] at hk
                          first | (have e10 := hn 10 (by decide); simp only [e10, if_true] at H; have hv10 := (At.and (H.pick 0 rfl)).1; have hk2 := hk.trans hv10; clear hk hv10; go_simp; exact hK _ (by simp only [e10, if_true]; exact H)) | (go_simp; exact hK _ H)
                        · clear ho; simp [know, dstAt, Region.binds] at hk
                          first | (have e10 := hn 10 (by decide); simp only [e10, if_true] at H; have hv10 := (At.and (H.pick 0 rfl)).1; have hk2 := hk.trans hv10; clear hk hv10; go_simp; exact hK _ (by simp only [e10, if_true]; exact H)) | (go_simp; exact hK _ H)
                        · clear ho; simp [know, dstAt, Region.binds] at hk
                          (have q16 : E 16 = false := (by cases h : E 16 with | false => rfl | true => (have h2 := hcl 16 (by decide) h 15 (by decide); rw [hE0] at h2; cases h2))); (simp only [hE0, Bool.false_eq_true, if_false] at H); refine op_allocT rfl z44 rfl (H.sel 2 [0]) ?_; (intro x w' H; refine hK _ _ ?_; have t15 : updE E 15 15 = true := rfl; have t16 : updE E 15 16 = false := q16; simp only [t15, t16, Bool.false_eq_true, if_true, if_false]; exact H.sel 2 [1, 0])
                        · clear ho; simp [know, dstAt, Region.binds] at hk
                          (have e10 := hn 10 (by decide)); (have e15 := hn 15 (by decide)); (simp only [hE0, e10, e15, Bool.false_eq_true, if_true, if_false] at H); (obtain ⟨h1v, hsz⟩ := rwr_one (H.pick 0 rfl) (C2.out.sub (H.pick 4 rfl))); (obtain ⟨g, hv15, HS⟩ := ptr_ex (H.pick 1 rfl)); refine op_putT rfl (hk.1.trans hv15) hk.2.1 h1v s44 HS 0 rfl (by rw [hsz]; rfl) hsz ?_; (intro w' H; refine hK _ _ ?_; have t10 : updE E 16 10 = true := e10; have t15 : updE E 16 15 = true := e15; have t16 : updE E 16 16 = true := rfl; simp only [t10, t15, t16, if_true]; exact (At.imp H fun _ hh => (⟨g, hv15, hh⟩ : PtrBlk (val 15) _ _)).sel 2 [1, 0])
                        · clear ho; simp [know, dstAt, Region.binds] at hk
                          first | (have e10 := hn 10 (by decide); simp only [e10, if_true] at H; have hv10 := (At.and (H.pick 0 rfl)).1; have hk2 := hk.trans hv10; clear hk hv10; go_simp; exact hK _ (by simp only [e10, if_true]; exact H)) | (go_simp; exact hK _ H)
                        · clear ho; simp [know, dstAt, Region.binds] at hk
                          first | (have e10 := hn 10 (by decide); simp only [e10, if_true] at H; have hv10 := (At.and (H.pick 0 rfl)).1; have hk2 := hk.trans hv10; clear hk hv10; go_simp; exact hK _ (by simp only [e10, if_true]; exact H)) | (go_simp; exact hK _ H)
                      case ins =>
                        iterate 10 (refine ⟨ins_pl rfl (fun _ _ _ => rfl), ?_⟩)
                        refine ⟨ins_mk rfl (fun _ => rfl), ?_⟩
                        iterate 4 (refine ⟨ins_pl rfl (fun val val' h => by first | rfl | ((have h10 := h 10 (by decide)); first | (simp only [h10]; done) | (simp only [h10]; rfl))), ?_⟩)
                        iterate 2 (refine ⟨ins_mk rfl (fun _ => rfl), ?_⟩)
                        iterate 2 (refine ⟨ins_pl rfl (fun val val' h => by first | rfl | ((have h10 := h 10 (by decide)); first | (simp only [h10]; done) | (simp only [h10]; rfl))), ?_⟩)
                        exact trivial
                      case jns =>
                        iterate 10 (refine ⟨j_pl (fun _ _ _ => rfl), ?_⟩)
                        refine ⟨j_mk rfl, ?_⟩
                        iterate 4 (refine ⟨j_pl (fun _ _ _ => rfl), ?_⟩)
                        iterate 2 (refine ⟨j_mk rfl, ?_⟩)
                        iterate 2 (refine ⟨j_pl (fun _ _ _ => rfl), ?_⟩)
                        exact trivial
                      case fin =>
                        intro E val w11 hE H
                        have e10 := hE 10 (by decide)
                        have e15 := hE 15 (by decide)
                        have e16 := hE 16 (by decide)
                        simp only [e10, e15, e16, if_true] at H
                        clear hE e10 e15 e16 HF
                        obtain ⟨g27, hv15, HX⟩ := ptr_ex (H.pick 1 rfl)
                        clear H
                        obtain ⟨ud, ue, ul, ur, P2, htg, hP2, HT⟩ := rwr_open (HX.pick 1 rfl)
                        rw [htg] at HT
                        clear HX hwa hwb
                        simp [putAll, Act.put, hv15]
                        clear hv15 htg
                        rw [HOK2.out]
                        obtain ⟨Q3, wc3, hC3, HY⟩ := core_mk (At.fold (M := [_, _]) (HT.sel 5 [0, 4, 1, 3]))
                        have HS : At wc3 (P2 :: Q2 :: []) wc3 := At.flat hC3.self
                        have C3 := Lib.hid hC3
                        have hsb := C2.out.sub (HS.pick 1 rfl)
                        have hy := hP2 _ _ _ hsb HS
                        have AY := Lib.hid hy
                        have AG3 := Lib.hid (AG2.out.sub hsb)
                        have AE3 := Lib.hid (AE2.out.sub hsb)
                        have r1 := row_one hy.d
                        have r2 := row_one hy.e.1
                        have r3 := row_one hy.l.1
                        have r4 := row_one hy.r.1
                        have HF : At W (OwnRow 44 7 (.slice (some bl) EL.length cap) EL.length (G.map El.cells).flatten :: Blk g27 (.cells (hdV R2.1 ud ue ul ur) 44 (0, 0)) :: Q3 :: OwnRow 3 1 (.slice (some bp) p cap3) p (pr.map (Value.int .i64)) :: OwnRow 44 7 (.slice (some bf) EL.length cap2) EL.length (EL.map El.cells).flatten :: Blk g8 (.cells #[.int .i64 1, .int .i64 3, .int .i64 1, .int .i64 0] 25 (0, 0)) :: Arg W :: []) w11 := HY.sel 3 [2, 1, 0]
                        have lnG : (G.map El.cells).flatten.length = EL.length * 7 := by rw [rows_len, GL.out]
                        have hoff : ia * 7 + 7 ≤ EL.length * 7 := by omega
                        have LnG := Lib.hid (And.intro lnG hoff)
                        clear HT hP2 hC3 HY HS hsb hy lnG hoff
                        go_wp2_with (first | ((with_reducible refine k_load (T := 44) ?_); refine st_row rfl _ _ rfl _ rfl a44 7 s44 HF 1 rfl rfl ?_; (intro K hK; go_simp)) | ((with_reducible refine k_load (T := 44) ?_); refine st_loads rfl _ _ rfl _ _ rfl a44 7 s44 HF 1 rfl ?_ ?_; (simp); (intro K hK; go_simp)) | ((with_reducible refine k_store (T := 44) ?_); refine st_ownPut rfl _ _ _ rfl (ia * 7) rfl (hdV R2.1 ud ue ul ur) rfl (hdV_one r1 r2 r3 r4) s44 HF ?_ ?_; (rw [LnG.out.1]; exact LnG.out.2); (clear HF; intro w HF K hK; go_simp)))
                        go_roundw
                        case rel =>
                          refine ⟨k + 1, G.set ia ⟨R2.1, ud, ue, ul, ur⟩, _, Q3, wc3, by omega, by go_num, ?_, C3.out, fun x hx => ?_, AE3.out, ?_⟩
                          · have h0 := inv_step HI2.out (show (G.map El.h)[ia]? = some ga.h by rw [List.getElem?_map, HGa.out]; rfl) (show (G.map El.h)[ib]? = some gb.h by rw [List.getElem?_map, HGb.out]; rfl) HST2.out
                            rw [show (G.set ia ⟨R2.1, ud, ue, ul, ur⟩).map El.h = (G.map El.h).set ia R2.1 by rw [List.map_set]]
                            refine ⟨h0.len, h0.good, h0.mono, h0.up, h0.one, fun i j g f hd hg hf => h0.done i j g f ?_ hg hf⟩
                            by_cases hij : i = ia ∧ j = ib
                            · exact .inr hij
                            · exact .inl (pair_next (EL.length) HY.out HM.out hibl (by have := (List.getElem?_eq_some_iff.1 hf).1; simpa using this) hd (fun e1 e2 => absurd ⟨e1, e2⟩ hij))
                          · rcases List.mem_or_eq_of_mem_set hx with hx | rfl
                            · exact AG3.out x hx
                            · exact AY.out
                          · have e := flatten_set (size := 7) (rs := G.map El.cells) (i := ia) (r := El.cells ⟨R2.1, ud, ue, ul, ur⟩) (fun r hr => by obtain ⟨x, _, rfl⟩ := List.mem_map.1 hr; rfl) (by rw [List.length_map, GL.out]; exact hial) rfl
                            rw [List.map_set, ← e]
                            exact HF.sel 3 [0, 2]
                        case measure => simp [intOf]; omega
                · have g4x : ¬ (k : Int) < p := by omega
                  obtain rfl : k = p := by omega
                  have HD := Lib.hid (fun (i j : Nat) (hi : i < (EL.map El.h).length) (hj : j < (EL.map El.h).length) => (show i = j ∨ ∃ q : Nat, q < k ∧ pr[q]? = some ((i : Int) * EL.length + j) from by
                    rw [List.length_map] at hi hj
                    right
                    have hlt : i * EL.length + j < k := by
                      rw [← HN.out]
                      have := Nat.mul_le_mul_right EL.length (show i + 1 ≤ EL.length by omega)
                      rw [Nat.add_mul] at this
                      omega
                    obtain ⟨q, hq⟩ := HPm.out _ hlt
                    refine ⟨q, by have := (List.getElem?_eq_some_iff.1 hq).1; rw [HPl.out] at this; exact this, ?_⟩
                    rw [hq, Int.natCast_add, Int.natCast_mul]))
                  obtain ⟨g0, hg0⟩ : ∃ g0, G[0]? = some g0 := ⟨_, List.getElem?_eq_getElem (by rw [GL.out]; omega)⟩
                  have HG0 := Lib.hid hg0
                  have HF2 := Lib.hid HF
                  clear hg0 g4x hkp
                  have g4y : ¬ (k : Int) < k := by omega
                  go_wp2_with fail
                  go_loopw [30] (fun x wr => ∃ i : Nat, i ≤ EL.length ∧ x = .int .i64 i ∧ At W (OwnRow 44 7 (.slice (some bl) EL.length cap) EL.length (G.map El.cells).flatten :: Q :: OwnRow 3 1 (.slice (some bp) k cap3) k (pr.map (Value.int .i64)) :: OwnRow 44 7 (.slice (some bf) EL.length cap2) EL.length (EL.map El.cells).flatten :: Blk g8 (.cells #[.int .i64 1, .int .i64 3, .int .i64 1, .int .i64 0] 25 (0, 0)) :: Arg W :: []) wr) (fun x _ => EL.length - (intOf x).toNat)
                  case atStart => exact ⟨0, Nat.zero_le _, rfl, HF⟩
                  case round =>
                    clear HF HF2
                    obtain ⟨i, hi, rfl, HF⟩ := hrel
                    by_cases hin : i < EL.length
                    · have g5x : (i : Int) < EL.length := by omega
                      have g50 : (0 : Int) < EL.length := by omega
                      have g51 : 0 < EL.length := by omega
                      obtain ⟨gi, hgi⟩ : ∃ gi, G[i]? = some gi := ⟨_, List.getElem?_eq_getElem (by rw [GL.out]; exact hin)⟩
                      have HGi := Lib.hid hgi
                      have hsame := inv_end HI2.out HD.out (show (G.map El.h)[i]? = some gi.h by rw [List.getElem?_map, hgi]; rfl) (show (G.map El.h)[0]? = some g0.h by rw [List.getElem?_map, HG0.out]; rfl)
                      have HSM := Lib.hid hsame
                      have GDi := Lib.hid (HI2.out.good gi.h (List.mem_map_of_mem (List.mem_of_getElem? hgi)))
                      have AI := Lib.hid (HAt.out gi (List.mem_of_getElem? hgi))
                      have A0 := Lib.hid (HAt.out g0 (List.mem_of_getElem? HG0.out))
                      have hz : ∀ w, (binOp .neq 27 (.agg #[.int .i64 gi.h.sn, .int .i64 gi.h.sc]) (.agg #[.int .i64 gi.h.sn, .int .i64 gi.h.sc])).run Try.prog w = .ok (.bool false) w := fun w => run_neq_self fStamp a27 (xs := [.int .i64 gi.h.sn, .int .i64 gi.h.sc]) ⟨⟨_, rfl⟩, ⟨_, rfl⟩, trivial⟩ w
                      have hz2 : ∀ w, (Op.equalIn 10000 27 (.agg #[.int .i64 gi.h.sn, .int .i64 gi.h.sc]) (.agg #[.int .i64 gi.h.sn, .int .i64 gi.h.sc])).run Try.prog w = .ok true w := fun w => run_eq_self 9 (by decide) fStamp a27 (xs := [.int .i64 gi.h.sn, .int .i64 gi.h.sc]) ⟨⟨_, rfl⟩, ⟨_, rfl⟩, trivial⟩
                      clear hgi hsame
                      go_wp2_with fail
                      apply wp_region_eff [] (fun i => (#[[], [], [], [], [], [], [], [], [], [], [], [], [], [], [], [], [], [], [], [], [], [], [], [], [], [], [], [], [], [], [], [], [], [], []] : Array (List Nat)).getD i []) (fun val i => ((_ :: _ :: _ :: _ :: _ :: stV gi.h :: _ :: _ :: _ :: _ :: stV gi.h :: .bool false :: .bool false :: _ :: _ :: _ :: _ :: _ :: gi.d :: _ :: _ :: _ :: _ :: g0.d :: .bool true :: _ :: .bool false :: .bool false :: _ :: _ :: _ :: .agg (hdV gi.h gi.d gi.e gi.l gi.r) :: .bool true :: _ :: _ :: []) : List Value).toArray.getD i undef) (fun E val => At W (OwnRow 44 7 (.slice (some bl) EL.length cap) EL.length (G.map El.cells).flatten :: Q :: OwnRow 3 1 (.slice (some bp) k cap3) k (pr.map (Value.int .i64)) :: OwnRow 44 7 (.slice (some bf) EL.length cap2) EL.length (EL.map El.cells).flatten :: Blk g8 (.cells #[.int .i64 1, .int .i64 3, .int .i64 1, .int .i64 0] 25 (0, 0)) :: Arg W :: [])) (by kernel_rfl) (by kernel_rfl) (by kernel_rfl) (by kernel_rfl) (HF)
                      case step =>
                        iterate 35 (refine ⟨eff_pl rfl (fun _ => by rfl) fun E val hn T ds w K H hk ho hK => ?_, ?_⟩; rotate_left)
                        exact trivial
                        · have o9 := ho 9 (by kernel_rfl); clear ho; simp [know, dstAt, Region.binds] at hk o9; go_simp; exact hK _ H
                        · have o30 := ho 30 (by kernel_rfl); clear ho; simp [know, dstAt, Region.binds] at hk o30; go_simp; exact hK _ H
                        · clear ho; simp [know, dstAt, Region.binds] at hk; go_simp; exact hK _ H
                        · clear ho; simp [know, dstAt, Region.binds] at hk; go_simp; exact hK _ H
                        · clear ho; simp [know, dstAt, Region.binds] at hk; go_simp; exact hK _ H
                        · clear ho; simp [know, dstAt, Region.binds] at hk
                          (refine op_cellsT (vs := [.int .i64 gi.h.sn, .int .i64 gi.h.sc]) rfl hk a27 s27 (el_stamp (own_rec H HGi.out)) ?_; exact hK _ H)
                        · have o9 := ho 9 (by kernel_rfl); clear ho; simp [know, dstAt, Region.binds] at hk o9; go_simp; exact hK _ H
                        · clear ho; simp [know, dstAt, Region.binds] at hk; go_simp; exact hK _ H
                        · clear ho; simp [know, dstAt, Region.binds] at hk; go_simp; exact hK _ H
                        · clear ho; simp [know, dstAt, Region.binds] at hk; go_simp; exact hK _ H
                        · clear ho; simp [know, dstAt, Region.binds] at hk
                          (refine op_cellsT (vs := [.int .i64 gi.h.sn, .int .i64 gi.h.sc]) rfl hk a27 s27 (by rw [HSM.out.1, HSM.out.2.1]; exact el_stamp (own_rec0 H HG0.out)) ?_; exact hK _ H)
                        · clear ho; simp [know, dstAt, Region.binds] at hk; go_simp; exact hK _ H
                        · clear ho; simp [know, dstAt, Region.binds] at hk; go_simp; exact hK _ H
                        · have o9 := ho 9 (by kernel_rfl); clear ho; simp [know, dstAt, Region.binds] at hk o9; go_simp; exact hK _ H
                        · have o30 := ho 30 (by kernel_rfl); clear ho; simp [know, dstAt, Region.binds] at hk o30; go_simp; exact hK _ H
                        · clear ho; simp [know, dstAt, Region.binds] at hk; go_simp; exact hK _ H
                        · clear ho; simp [know, dstAt, Region.binds] at hk; go_simp; exact hK _ H
                        · clear ho; simp [know, dstAt, Region.binds] at hk; go_simp; exact hK _ H
                        · clear ho; simp [know, dstAt, Region.binds] at hk
                          (refine op_load1T rfl hk.1 (by kernel_rfl) (own_rec H HGi.out 2 _ rfl) ?_; exact hK _ H)
                        · have o9 := ho 9 (by kernel_rfl); clear ho; simp [know, dstAt, Region.binds] at hk o9; go_simp; exact hK _ H
                        · clear ho; simp [know, dstAt, Region.binds] at hk; go_simp; exact hK _ H
                        · clear ho; simp [know, dstAt, Region.binds] at hk; go_simp; exact hK _ H
                        · clear ho; simp [know, dstAt, Region.binds] at hk; go_simp; exact hK _ H
                        · clear ho; simp [know, dstAt, Region.binds] at hk
                          (refine op_load1T rfl hk.1 (by kernel_rfl) (own_rec0 H HG0.out 2 _ rfl) ?_; exact hK _ H)
                        · clear ho; simp [know, dstAt, Region.binds] at hk
                          (go_simp; refine (sameB (hd_sub AI.out (HC.out.sub (H.pick 1 rfl))).d (by have := (hd_sub A0.out (HC.out.sub (H.pick 1 rfl))).d; rw [← HSM.out.2.2] at this; exact this) H).mono ?_; rintro e w' ⟨rfl, H⟩; rw [show (gi.h.data == gi.h.data) = true by simp]; exact hK _ H)
                        · clear ho; simp [know, dstAt, Region.binds] at hk; go_simp; exact hK _ H
                        · clear ho; simp [know, dstAt, Region.binds] at hk; go_simp; exact hK _ H
                        · clear ho; simp [know, dstAt, Region.binds] at hk; go_simp; exact hK _ H
                        · have o9 := ho 9 (by kernel_rfl); clear ho; simp [know, dstAt, Region.binds] at hk o9; go_simp; exact hK _ H
                        · have o30 := ho 30 (by kernel_rfl); clear ho; simp [know, dstAt, Region.binds] at hk o30; go_simp; exact hK _ H
                        · clear ho; simp [know, dstAt, Region.binds] at hk; go_simp; exact hK _ H
                        · clear ho; simp [know, dstAt, Region.binds] at hk
                          (refine op_cellsT (vs := gi.cells) rfl hk.1 a44 s44 (own_rec H HGi.out) ?_; exact hK _ H)
                        · clear ho; simp [know, dstAt, Region.binds] at hk
                          (go_simp; obtain ⟨u', _, _, hp'⟩ := GDi.out.plain; refine (right hp' (hd_sub AI.out (HC.out.sub (H.pick 1 rfl))) H).mono ?_; rintro e w' ⟨rfl, H⟩; exact hK _ H)
                        · clear ho; simp [know, dstAt, Region.binds] at hk; go_simp; exact hK _ H
                        · clear ho; simp [know, dstAt, Region.binds] at hk; go_simp; exact hK _ H
                      case ins =>
                        iterate 35 (refine ⟨ins_pl rfl (fun _ _ _ => rfl), ?_⟩)
                        exact trivial
                      case jns =>
                        iterate 35 (refine ⟨j_pl (fun _ _ _ => rfl), ?_⟩)
                        exact trivial
                      case fin =>
                        intro E val w12 hE H
                        clear HF hE
                        have HF := H
                        clear H
                        simp [putAll, Act.put]
                        clear hz hz2
                        go_wp2_with fail
                        go_loopw [31] (fun x wr => ∃ a : Nat, a ≤ 439 ∧ x = .int .i64 (a + 1) ∧ At W (OwnRow 44 7 (.slice (some bl) EL.length cap) EL.length (G.map El.cells).flatten :: Q :: OwnRow 3 1 (.slice (some bp) k cap3) k (pr.map (Value.int .i64)) :: OwnRow 44 7 (.slice (some bf) EL.length cap2) EL.length (EL.map El.cells).flatten :: Blk g8 (.cells #[.int .i64 1, .int .i64 3, .int .i64 1, .int .i64 0] 25 (0, 0)) :: Arg W :: []) wr) (fun x _ => 441 - (intOf x).toNat)
                        case atStart => exact ⟨0, by decide, rfl, HF⟩
                        case round =>
                          clear HF
                          obtain ⟨a, ha, rfl, HF⟩ := hrel
                          by_cases hal : a < 439
                          · have g6x : (a : Int) + 1 < 440 := by omega
                            go_wp2_with fail
                            go_loopw [32] (fun x wr => ∃ j : Nat, j ≤ EL.length ∧ x = .int .i64 j ∧ At W (OwnRow 44 7 (.slice (some bl) EL.length cap) EL.length (G.map El.cells).flatten :: Q :: OwnRow 3 1 (.slice (some bp) k cap3) k (pr.map (Value.int .i64)) :: OwnRow 44 7 (.slice (some bf) EL.length cap2) EL.length (EL.map El.cells).flatten :: Blk g8 (.cells #[.int .i64 1, .int .i64 3, .int .i64 1, .int .i64 0] 25 (0, 0)) :: Arg W :: []) wr) (fun x _ => EL.length - (intOf x).toNat)
                            case atStart => exact ⟨0, Nat.zero_le _, rfl, HF⟩
                            case round =>
                              clear HF
                              obtain ⟨j, hj, rfl, HF⟩ := hrel
                              by_cases hjn : j < EL.length
                              · have g7x : (j : Int) < EL.length := by omega
                                obtain ⟨ej, hej⟩ : ∃ ej, EL[j]? = some ej := ⟨_, List.getElem?_eq_getElem hjn⟩
                                have HEj := Lib.hid hej
                                have AE := Lib.hid (HAE.out ej (List.mem_of_getElem? hej))
                                have GDe := Lib.hid (good_all (HGd.out ej (List.mem_of_getElem? hej)))
                                have GDg := Lib.hid (good_all GDi.out)
                                have Hdn := Lib.hid ((HI2.out.done i j gi.h ej.h (HD.out i j (by rw [List.length_map]; exact hin) (by rw [List.length_map]; exact hjn)) (by rw [List.getElem?_map, HGi.out]; rfl) (by rw [List.getElem?_map, hej]; rfl)).1 (a + 1))
                                have le := Lib.hid (show ej.h.row.length ≤ 140737488355328 by have := may_len GDe.out.1; omega)
                                have lg := Lib.hid (show gi.h.row.length ≤ 140737488355328 by have := may_len GDg.out.1; omega)
                                clear hej
                                cases hkj : knowsS ej.h (a + 1) with
                                | false =>
                                  have KJ := Lib.hid hkj
                                  clear hkj
                                  go_wp2_with (first | ((with_reducible refine k_load (T := 44) ?_); refine st_loadEl (hT := rfl) rfl _ _ rfl _ rfl ej (own_rec (HF.pick 3 rfl) HEj.out) ?_; (intro K hK; go_simp)))
                                  refine (knows GDe.out.1.rise GDe.out.2.1 le.out (hd_sub AE.out (HC.out.sub (HF.pick 1 rfl))) (a + 1) HF).mono ?_
                                  rintro e w14 ⟨rfl, H1⟩
                                  replace HF := H1
                                  clear H1
                                  rw [KJ.out]
                                  go_wp2_with fail
                                  go_roundw
                                  case rel => exact ⟨j + 1, by omega, by go_num, HF⟩
                                  case measure => simp [intOf]; omega
                                | true =>
                                  have KJ := Lib.hid hkj
                                  have KI := Lib.hid (Hdn.out hkj)
                                  clear hkj
                                  go_wp2_with (first | ((with_reducible refine k_load (T := 44) ?_); refine st_loadEl (hT := rfl) rfl _ _ rfl _ rfl ej (own_rec (HF.pick 3 rfl) HEj.out) ?_; (intro K hK; go_simp)))
                                  refine (knows GDe.out.1.rise GDe.out.2.1 le.out (hd_sub AE.out (HC.out.sub (HF.pick 1 rfl))) (a + 1) HF).mono ?_
                                  rintro e w14 ⟨rfl, H1⟩
                                  replace HF := H1
                                  clear H1
                                  rw [KJ.out]
                                  go_wp2_with (first | ((with_reducible refine k_load (T := 44) ?_); refine st_loadEl (hT := rfl) rfl _ _ rfl _ rfl gi (own_rec HF HGi.out) ?_; (intro K hK; go_simp)))
                                  refine (knows GDg.out.1.rise GDg.out.2.1 lg.out (hd_sub AI.out (HC.out.sub (HF.pick 1 rfl))) (a + 1) HF).mono ?_
                                  rintro e w15 ⟨rfl, H1⟩
                                  replace HF := H1
                                  clear H1
                                  rw [KI.out]
                                  go_wp2_with fail
                                  go_roundw
                                  case rel => exact ⟨j + 1, by omega, by go_num, HF⟩
                                  case measure => simp [intOf]; omega
                              · have g7x : ¬ (j : Int) < EL.length := by omega
                                go_wp2_with fail
                                go_roundw
                                case rel => exact ⟨a + 1, by omega, by go_num, HF⟩
                                case measure => simp [intOf]; omega
                          · have g6x : ¬ (a : Int) + 1 < 440 := by omega
                            go_wp2_with fail
                            go_roundw
                            case rel => exact ⟨i + 1, by omega, by go_num, HF⟩
                            case measure => simp [intOf]; omega
                    · have g5x : ¬ (i : Int) < EL.length := by omega
                      go_wp2_with fail
                      go_ret
                      exact ⟨rfl, HF.below 5 rfl⟩
end

theorem own : ownKnob Try.prog.godebug = none := by kernel_rfl

theorem lifted (os : Os) (started : os.Started) (H : Type) (enc : TypeId × Value → H) :
    ReturnsInHanded {} Try.checked os 7 .any (Rows.mendAllSpec.pre6 enc Try.prog Try.f7 Rows.mendAllRow.domain false) (Rows.mendAllSpec.post enc Try.prog Try.f7 false true false false) := by
  refine frame_true (C := Try.checked) started own (by kernel_rfl) Try.func7
    (ChangeSpec.witness6 (enc := enc) (C := Try.checked) false ⟨#[], #[.int .i64 0, .slice none 0 0, .slice none 0 0], []⟩ 8 (by kernel_rfl) (by kernel_rfl) (by kernel_rfl) (by kernel_rfl)) rfl ?_ (by kernel_rfl) (by kernel_rfl) (by kernel_rfl) Try.underlying4 ?_
  · intro ds hds
    match ds, hds with
    | [_, _, _], _ => rfl
  · rintro W args ds p ⟨base, hval⟩ hA hwt
    have hp : Try.f7.params.toList = [3, 73, 73] := by rw [Try.params7]
    rw [hp] at hA hwt
    obtain ⟨v0, r0, d0, e0, p0, q0, ha, rfl, rfl, h0, hA⟩ := trodAll_cons hA
    obtain ⟨v1, r1, d1, e1, p1, q1, rfl, rfl, rfl, h1, hA⟩ := trodAll_cons hA
    obtain ⟨v2, r2, d2, e2, p2, q2, rfl, rfl, rfl, h2, hA⟩ := trodAll_cons hA
    obtain ⟨rfl, rfl, rfl⟩ := trodAll_nil hA
    have ha2 : args = #[v0, v1, v2] := by cases args; simp_all
    subst ha2
    simp only [DataW.weightsEach, List.all_append, Bool.and_eq_true] at hwt
    obtain ⟨a0, b0⟩ := Lw.arg_int (hval 0 _ _ (by rw [Try.params7]; rfl) rfl) h0 hwt.1
    obtain ⟨a1, b1⟩ := Lw.arg_ints (hval 1 _ _ (by rw [Try.params7]; rfl) rfl) h1 hwt.2.1
    obtain ⟨a2, b2⟩ := Lw.arg_ints (hval 2 _ _ (by rw [Try.params7]; rfl) rfl) h2 hwt.2.2.1
    exact walk b0 b1 b2

theorem over : Rows.mendAllRow.holds Try.pinned (OpenSpec.ofChange Rows.mendAllSpec) :=
  OpenClaim.holds_of_wide 7 Try.f7 rfl rfl rfl rfl rfl rfl rfl ⟨rfl, rfl, rfl, rfl, rfl⟩ rfl rfl rfl rfl rfl (by kernel_rfl) Try.func7 (by kernel_rfl)
    (of_decide_eq_true (by kernel_rfl)) (by unfold Func.isWrapper; first | (rw [if_pos (by decide +kernel)]; kernel_rfl) | (rw [if_neg (by decide +kernel)]; exact ⟨rfl, rfl⟩))
    (fun os started H enc _ => lifted os started H enc)

theorem proved : Rows.MendAllSaid := over
#print axioms proved
end mendAll
end Go.Proofs.Ytjobojgmadjmfaa
