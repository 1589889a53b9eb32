/-
  A command on a bucket of its own, as a plain function, and the code of it (all but the list of entries).
-/
import Derived.Test.YtcofcikdknmggaaBkNm
namespace Go.Proofs.Ytcofcikdknmggaa
open Go.Hp Go.RowKit
set_option linter.unusedVariables false
set_option linter.unusedSimpArgs false
set_option maxRecDepth 100000
set_option maxHeartbeats 1000000
namespace Bk

structure Bu where
  u : Int
  es : List En
  ls : List La
structure An where
  err : Int
  e : En
  l : List En
def an0 : An := ⟨0, en0, []⟩

/-- Is a command refused whatever else it is? -/
def wrongS (c : Cm) : Bool := decide (c.k < 1) || (decide (7 < c.k) || (decide (c.cl < 1) || (decide (255 < c.cl) || (decide (c.op < 1) || decide (1099511627776 < c.op)))))
def lastS (c : Cm) (u : Int) (err : Int) (x : En) : La := ⟨c.cl, c.op, u, err, x.fc, x.fo, x.sz⟩
def seatS (ls : List La) (x : La) : List La := if seB ls x.cl = true then ls.set (seI ls x.cl) x else insAt ls (seI ls x.cl) x

/-- What apply tells (an error, an answer) and leaves. -/
def applyS (b : Bu) (c : Cm) (room : Int) : (Int × An) × Bu :=
  if wrongS c = true then ((105, an0), b)
  else if 1048576 ≤ b.u then ((4, an0), b)
  else if c.k = 4 then ((0, ⟨0, en0, namesS b.es ⟨#[]⟩⟩), ⟨b.u + 1, b.es, b.ls⟩)
  else if c.k = 3 then ((0, ⟨(changeS b.es c room).1.1, (changeS b.es c room).1.2, []⟩), ⟨b.u + 1, (changeS b.es c room).2, b.ls⟩)
  else ((0, ⟨(changeS b.es c room).1.1, (changeS b.es c room).1.2, []⟩), ⟨b.u + 1, (changeS b.es c room).2, seatS b.ls (lastS c (b.u + 1) (changeS b.es c room).1.1 (changeS b.es c room).1.2)⟩)

theorem changeS_len (l : List En) (c : Cm) (room : Int) : (changeS l c room).2.length ≤ l.length + 1 := by
  unfold changeS
  have := plI_le l c.nm
  (repeat' split) <;> dsimp only
  all_goals first
    | omega
    | (rw [insAt_len (plI_le l c.nm)]; exact Nat.le_refl _)
    | (rw [List.length_set]; omega)
    | (simp only [List.length_append, List.length_take, List.length_drop]; omega)

theorem results_cell_tmp {P : Program} {fn : Func} {p q : Tmp} {ty : TypeId} (h : fn.results = #[.cell p ty, .tmp q]) {tmps : Array Value} {w : World} {g : Nat} {t : TypeId} {cs : Array Value} {fr : Nat × Nat} {n : Nat}
    (hp : tmps.getD p undef = .pointer (some ⟨g, 0, none⟩)) (hT : aggT P ty = true) (hn : sizeT P ty = some n) (hg : w.heap[g]? = some (.cells cs t fr)) (hc : cs.size = n) :
    (results fn tmps).run P w = .ok (.tuple #[.agg cs, tmps.getD q undef]) w := by
  have hr := run_loadVar_agg (P := P) (off := 0) hT hn hg (by omega)
  have e : cs.extract 0 (0 + n) = cs := by rw [Nat.zero_add, ← hc, Array.extract_size]
  rw [e] at hr
  have hp' : tmps[p]?.getD undef = .pointer (some ⟨g, 0, none⟩) := by simpa using hp
  simp [results, h, hp', asAddr, hr]

/-- A bucket in a variable, its lists the call's own. -/
def BB (gb : Nat) (b : Bu) (L : List HProp) (w0 w : World) : Prop := ∃ ve vl, At w0 (Blk gb (.cells #[.int .i64 b.u, ve, vl] 25 (0, 0)) :: OE ve b.es :: OL vl b.ls :: L) w

def ApPost (w0 : World) (L : List HProp) (gb : Nat) (r : (Int × An) × Bu) (e : Ending) (w' : World) : Prop :=
  ∃ ve vl va, e = .returned (.tuple #[anV r.1.2.err r.1.2.e va, .int .i64 r.1.1]) ∧ At w0 (Blk gb (.cells #[.int .i64 r.2.u, ve, vl] 25 (0, 0)) :: OE ve r.2.es :: OL vl r.2.ls :: OE va r.1.2.l :: L) w'

theorem lC_set {l : List La} {i : Nat} {x : La} (h : i < l.length) : (lC l).take (i * 7) ++ x.cells ++ (lC l).drop (i * 7 + 7) = lC (l.set i x) := by
  unfold lC
  rw [flatten_set (size := 7) (by intro r hr; obtain ⟨e, _, rfl⟩ := List.mem_map.1 hr; rfl) (by rw [List.length_map]; exact h) rfl, List.map_set]

section
variable {w0 w : World} {L : List HProp}

theorem apply_no {gb : Nat} {room : Int} {ve vl : Value} {b : Bu} {c : Cm} {r : Int} (hr : applyS b c room = ((r, an0), b)) (hc : wrongS c = true ∧ r = 105 ∨ wrongS c = false ∧ 1048576 ≤ b.u ∧ r = 4)
    (H : At w0 (Blk gb (.cells #[.int .i64 b.u, ve, vl] 25 (0, 0)) :: OE ve b.es :: OL vl b.ls :: L) w) :
    Calls Try.prog 31 #[.pointer (some ⟨gb, 0, none⟩), .agg c.cells.toArray, .int .i64 room] w (ApPost w0 L gb (applyS b c room)) := by
  rw [hr]
  clear hr
  obtain ⟨kd, cl, op, nm, fc, fo, nc, no, sz⟩ := c
  obtain ⟨u, es, ls⟩ := b
  dsimp only at H hc ⊢
  simp only [Cm.cells]
  unfold wrongS at hc
  dsimp only at hc
  have hfin := Lib.hid (show ∀ w' g4 g6 r, At w0 (Blk g6 (.cells #[.int .i64 0, .string ⟨#[]⟩, .int .i64 0, .int .i64 0, .int .i64 0, .slice none 0 0] 41 (0, 0)) :: Blk g4 (.cells #[.int .i64 kd, .int .i64 cl, .int .i64 op, .string nm, .int .i64 fc, .int .i64 fo, .int .i64 nc, .int .i64 no, .int .i64 sz] 29 (0, 0)) :: Blk gb (.cells #[.int .i64 u, ve, vl] 25 (0, 0)) :: OE ve es :: OL vl ls :: L) w' →
      ApPost w0 L gb ((r, an0), ⟨u, es, ls⟩) (.returned (.tuple #[.agg #[.int .i64 0, .string ⟨#[]⟩, .int .i64 0, .int .i64 0, .int .i64 0, .slice none 0 0], .int .i64 r])) w' from fun w' g4 g6 r H => ⟨ve, vl, _, rfl, (own_nil H 39 4).sel 6 [3, 4, 5, 0]⟩)
  rcases hc with ⟨hc, rfl⟩ | ⟨hc, hu, rfl⟩
  · by_cases h1 : kd < 1
    · clear hc
      go_enter Try.func31, Try.ntmps31
      go_wp2_with (first | ((with_reducible refine k_box ?_); refine st_box rfl _ _ rfl _ rfl H ?_; (clear H; intro g4 w H K hK; simp only [Value.cells, Act.eval, Value.cells, Array.getD_eq_getD_getElem?, List.getElem?_toArray, List.getElem?_cons_succ, List.getElem?_cons_zero, Option.getD_some] at H; go_simp)) | ((with_reducible refine k_alloc (T := 41) ?_); refine st_alloc rfl _ rfl _ z41 _ rfl H ?_; (clear H; intro g6 w H K hK; simp only [Value.cells] at H; go_simp)) | ((with_reducible refine k_load ?_); (first | refine st_load rfl _ _ rfl _ _ rfl ?_ H 1 rfl rfl ?_ | refine st_load rfl _ _ rfl _ _ rfl ?_ H 2 rfl rfl ?_); (kernel_rfl); (intro K hK; go_simp)) | ((with_reducible refine k_store (T := 41) ?_); refine st_put rfl _ _ _ rfl _ rfl _ rfl ?_ s41 H 0 rfl rfl ?_; (simp [Value.oneCell']); (clear H; intro w H K hK; simp only [List.set_cons_zero, List.set_cons_succ, Act.eval, Value.cells, Array.getD_eq_getD_getElem?, List.getElem?_toArray, List.getElem?_cons_succ, List.getElem?_cons_zero, Option.getD_some] at H; go_simp)))
      refine bodyPost_ret (results_cell_tmp rfl rfl a41 s41 (H.get 0 rfl) rfl) rfl ?_
      exact hfin.out _ _ _ _ H
    · by_cases h2 : 7 < kd
      · clear hc
        go_enter Try.func31, Try.ntmps31
        go_wp2_with (first | ((with_reducible refine k_box ?_); refine st_box rfl _ _ rfl _ rfl H ?_; (clear H; intro g4 w H K hK; simp only [Value.cells, Act.eval, Value.cells, Array.getD_eq_getD_getElem?, List.getElem?_toArray, List.getElem?_cons_succ, List.getElem?_cons_zero, Option.getD_some] at H; go_simp)) | ((with_reducible refine k_alloc (T := 41) ?_); refine st_alloc rfl _ rfl _ z41 _ rfl H ?_; (clear H; intro g6 w H K hK; simp only [Value.cells] at H; go_simp)) | ((with_reducible refine k_load ?_); (first | refine st_load rfl _ _ rfl _ _ rfl ?_ H 1 rfl rfl ?_ | refine st_load rfl _ _ rfl _ _ rfl ?_ H 2 rfl rfl ?_); (kernel_rfl); (intro K hK; go_simp)) | ((with_reducible refine k_store (T := 41) ?_); refine st_put rfl _ _ _ rfl _ rfl _ rfl ?_ s41 H 0 rfl rfl ?_; (simp [Value.oneCell']); (clear H; intro w H K hK; simp only [List.set_cons_zero, List.set_cons_succ, Act.eval, Value.cells, Array.getD_eq_getD_getElem?, List.getElem?_toArray, List.getElem?_cons_succ, List.getElem?_cons_zero, Option.getD_some] at H; go_simp)))
        refine bodyPost_ret (results_cell_tmp rfl rfl a41 s41 (H.get 0 rfl) rfl) rfl ?_
        exact hfin.out _ _ _ _ H
      · by_cases h3 : cl < 1
        · clear hc
          go_enter Try.func31, Try.ntmps31
          go_wp2_with (first | ((with_reducible refine k_box ?_); refine st_box rfl _ _ rfl _ rfl H ?_; (clear H; intro g4 w H K hK; simp only [Value.cells, Act.eval, Value.cells, Array.getD_eq_getD_getElem?, List.getElem?_toArray, List.getElem?_cons_succ, List.getElem?_cons_zero, Option.getD_some] at H; go_simp)) | ((with_reducible refine k_alloc (T := 41) ?_); refine st_alloc rfl _ rfl _ z41 _ rfl H ?_; (clear H; intro g6 w H K hK; simp only [Value.cells] at H; go_simp)) | ((with_reducible refine k_load ?_); (first | refine st_load rfl _ _ rfl _ _ rfl ?_ H 1 rfl rfl ?_ | refine st_load rfl _ _ rfl _ _ rfl ?_ H 2 rfl rfl ?_); (kernel_rfl); (intro K hK; go_simp)) | ((with_reducible refine k_store (T := 41) ?_); refine st_put rfl _ _ _ rfl _ rfl _ rfl ?_ s41 H 0 rfl rfl ?_; (simp [Value.oneCell']); (clear H; intro w H K hK; simp only [List.set_cons_zero, List.set_cons_succ, Act.eval, Value.cells, Array.getD_eq_getD_getElem?, List.getElem?_toArray, List.getElem?_cons_succ, List.getElem?_cons_zero, Option.getD_some] at H; go_simp)))
          refine bodyPost_ret (results_cell_tmp rfl rfl a41 s41 (H.get 0 rfl) rfl) rfl ?_
          exact hfin.out _ _ _ _ H
        · by_cases h4 : 255 < cl
          · clear hc
            go_enter Try.func31, Try.ntmps31
            go_wp2_with (first | ((with_reducible refine k_box ?_); refine st_box rfl _ _ rfl _ rfl H ?_; (clear H; intro g4 w H K hK; simp only [Value.cells, Act.eval, Value.cells, Array.getD_eq_getD_getElem?, List.getElem?_toArray, List.getElem?_cons_succ, List.getElem?_cons_zero, Option.getD_some] at H; go_simp)) | ((with_reducible refine k_alloc (T := 41) ?_); refine st_alloc rfl _ rfl _ z41 _ rfl H ?_; (clear H; intro g6 w H K hK; simp only [Value.cells] at H; go_simp)) | ((with_reducible refine k_load ?_); (first | refine st_load rfl _ _ rfl _ _ rfl ?_ H 1 rfl rfl ?_ | refine st_load rfl _ _ rfl _ _ rfl ?_ H 2 rfl rfl ?_); (kernel_rfl); (intro K hK; go_simp)) | ((with_reducible refine k_store (T := 41) ?_); refine st_put rfl _ _ _ rfl _ rfl _ rfl ?_ s41 H 0 rfl rfl ?_; (simp [Value.oneCell']); (clear H; intro w H K hK; simp only [List.set_cons_zero, List.set_cons_succ, Act.eval, Value.cells, Array.getD_eq_getD_getElem?, List.getElem?_toArray, List.getElem?_cons_succ, List.getElem?_cons_zero, Option.getD_some] at H; go_simp)))
            refine bodyPost_ret (results_cell_tmp rfl rfl a41 s41 (H.get 0 rfl) rfl) rfl ?_
            exact hfin.out _ _ _ _ H
          · by_cases h5 : op < 1
            · clear hc
              go_enter Try.func31, Try.ntmps31
              go_wp2_with (first | ((with_reducible refine k_box ?_); refine st_box rfl _ _ rfl _ rfl H ?_; (clear H; intro g4 w H K hK; simp only [Value.cells, Act.eval, Value.cells, Array.getD_eq_getD_getElem?, List.getElem?_toArray, List.getElem?_cons_succ, List.getElem?_cons_zero, Option.getD_some] at H; go_simp)) | ((with_reducible refine k_alloc (T := 41) ?_); refine st_alloc rfl _ rfl _ z41 _ rfl H ?_; (clear H; intro g6 w H K hK; simp only [Value.cells] at H; go_simp)) | ((with_reducible refine k_load ?_); (first | refine st_load rfl _ _ rfl _ _ rfl ?_ H 1 rfl rfl ?_ | refine st_load rfl _ _ rfl _ _ rfl ?_ H 2 rfl rfl ?_); (kernel_rfl); (intro K hK; go_simp)) | ((with_reducible refine k_store (T := 41) ?_); refine st_put rfl _ _ _ rfl _ rfl _ rfl ?_ s41 H 0 rfl rfl ?_; (simp [Value.oneCell']); (clear H; intro w H K hK; simp only [List.set_cons_zero, List.set_cons_succ, Act.eval, Value.cells, Array.getD_eq_getD_getElem?, List.getElem?_toArray, List.getElem?_cons_succ, List.getElem?_cons_zero, Option.getD_some] at H; go_simp)))
              refine bodyPost_ret (results_cell_tmp rfl rfl a41 s41 (H.get 0 rfl) rfl) rfl ?_
              exact hfin.out _ _ _ _ H
            · have h6 : 1099511627776 < op := by simpa [h1, h2, h3, h4, h5] using hc
              clear hc
              go_enter Try.func31, Try.ntmps31
              go_wp2_with (first | ((with_reducible refine k_box ?_); refine st_box rfl _ _ rfl _ rfl H ?_; (clear H; intro g4 w H K hK; simp only [Value.cells, Act.eval, Value.cells, Array.getD_eq_getD_getElem?, List.getElem?_toArray, List.getElem?_cons_succ, List.getElem?_cons_zero, Option.getD_some] at H; go_simp)) | ((with_reducible refine k_alloc (T := 41) ?_); refine st_alloc rfl _ rfl _ z41 _ rfl H ?_; (clear H; intro g6 w H K hK; simp only [Value.cells] at H; go_simp)) | ((with_reducible refine k_load ?_); (first | refine st_load rfl _ _ rfl _ _ rfl ?_ H 1 rfl rfl ?_ | refine st_load rfl _ _ rfl _ _ rfl ?_ H 2 rfl rfl ?_); (kernel_rfl); (intro K hK; go_simp)) | ((with_reducible refine k_store (T := 41) ?_); refine st_put rfl _ _ _ rfl _ rfl _ rfl ?_ s41 H 0 rfl rfl ?_; (simp [Value.oneCell']); (clear H; intro w H K hK; simp only [List.set_cons_zero, List.set_cons_succ, Act.eval, Value.cells, Array.getD_eq_getD_getElem?, List.getElem?_toArray, List.getElem?_cons_succ, List.getElem?_cons_zero, Option.getD_some] at H; go_simp)))
              refine bodyPost_ret (results_cell_tmp rfl rfl a41 s41 (H.get 0 rfl) rfl) rfl ?_
              exact hfin.out _ _ _ _ H
  · simp only [Bool.or_eq_false_iff, decide_eq_false_iff_not] at hc
    obtain ⟨h1, h2, h3, h4, h5, h6⟩ := hc
    go_enter Try.func31, Try.ntmps31
    go_wp2_with (first | ((with_reducible refine k_box ?_); refine st_box rfl _ _ rfl _ rfl H ?_; (clear H; intro g4 w H K hK; simp only [Value.cells, Act.eval, Value.cells, Array.getD_eq_getD_getElem?, List.getElem?_toArray, List.getElem?_cons_succ, List.getElem?_cons_zero, Option.getD_some] at H; go_simp)) | ((with_reducible refine k_alloc (T := 41) ?_); refine st_alloc rfl _ rfl _ z41 _ rfl H ?_; (clear H; intro g6 w H K hK; simp only [Value.cells] at H; go_simp)) | ((with_reducible refine k_load ?_); (first | refine st_load rfl _ _ rfl _ _ rfl ?_ H 1 rfl rfl ?_ | refine st_load rfl _ _ rfl _ _ rfl ?_ H 2 rfl rfl ?_); (kernel_rfl); (intro K hK; go_simp)) | ((with_reducible refine k_store (T := 41) ?_); refine st_put rfl _ _ _ rfl _ rfl _ rfl ?_ s41 H 0 rfl rfl ?_; (simp [Value.oneCell']); (clear H; intro w H K hK; simp only [List.set_cons_zero, List.set_cons_succ, Act.eval, Value.cells, Array.getD_eq_getD_getElem?, List.getElem?_toArray, List.getElem?_cons_succ, List.getElem?_cons_zero, Option.getD_some] at H; go_simp)))
    refine bodyPost_ret (results_cell_tmp rfl rfl a41 s41 (H.get 0 rfl) rfl) rfl ?_
    exact hfin.out _ _ _ _ H

theorem apply_do {gb : Nat} {room : Int} {ve vl : Value} {b : Bu} {c : Cm} (hc : wrongS c = false) (hu : b.u < 1048576) (hu0 : -9223372036854775808 ≤ b.u) (hk4 : ¬ c.k = 4) (be : (b.es.length + 1) * 40 ≤ 140737488355328) (bl : (b.ls.length + 1) * 56 ≤ 140737488355328)
    (H : At w0 (Blk gb (.cells #[.int .i64 b.u, ve, vl] 25 (0, 0)) :: OE ve b.es :: OL vl b.ls :: L) w) :
    Calls Try.prog 31 #[.pointer (some ⟨gb, 0, none⟩), .agg c.cells.toArray, .int .i64 room] w (ApPost w0 L gb (applyS b c room)) := by
  obtain ⟨⟨⟨er, x⟩, es2⟩, hch⟩ : ∃ r, changeS b.es c room = r := ⟨_, rfl⟩
  have hap : applyS b c room = if c.k = 3 then ((0, ⟨er, x, []⟩), ⟨b.u + 1, es2, b.ls⟩) else ((0, ⟨er, x, []⟩), ⟨b.u + 1, es2, seatS b.ls (lastS c (b.u + 1) er x)⟩) := by
    unfold applyS
    rw [if_neg (by rw [hc]; decide), if_neg (by omega), if_neg hk4, hch]
  rw [hap]
  clear hap
  obtain ⟨kd, cl, op, nm, fc, fo, nc, no, sz⟩ := c
  obtain ⟨u, es, ls⟩ := b
  obtain ⟨xn, xf, xo, xs⟩ := x
  have Hch := Lib.hid hch
  clear hch
  dsimp only at H hc hu hu0 hk4 be bl Hch ⊢
  simp only [lastS]
  obtain ⟨ad, cap, rfl, c1, c2, c3, c4, c5⟩ := own_value (H.pick 2 rfl)
  replace H : At w0 (Blk gb (.cells #[.int .i64 u, ve, .slice ad ls.length cap] 25 (0, 0)) :: OE ve es :: OL (.slice ad ls.length cap) ls :: L) w := H
  clear c3 c5
  unfold wrongS at hc
  simp only [Bool.or_eq_false_iff, decide_eq_false_iff_not] at hc
  obtain ⟨h1, h2, h3, h4, h5, h6⟩ := hc
  have hw : IntKind.i64.wrap (u + 1) = u + 1 := IntWalk.i64_in _ (by omega)
  have hk4' : (kd == 4) = false := by simpa using hk4
  have hl1 : ls.length ≤ 140737488355328 := by omega
  simp only [Cm.cells]
  by_cases hk3 : kd = 3
  · subst hk3
    rw [if_pos rfl]
    go_enter Try.func31, Try.ntmps31
    go_wp2_with (first | ((with_reducible refine k_box ?_); refine st_box rfl _ _ rfl _ rfl H ?_; (clear H; intro g4 w H K hK; simp only [Value.cells, Act.eval, Value.cells, Array.getD_eq_getD_getElem?, List.getElem?_toArray, List.getElem?_cons_succ, List.getElem?_cons_zero, Option.getD_some] at H; go_simp)) | ((with_reducible refine k_alloc (T := 41) ?_); refine st_alloc rfl _ rfl _ z41 _ rfl H ?_; (clear H; intro g6 w H K hK; simp only [Value.cells] at H; go_simp)) | ((with_reducible refine k_load (T := 29) ?_); refine st_row rfl _ _ rfl _ rfl a29 9 s29 H 1 rfl rfl ?_; (intro K hK; go_simp)) | ((with_reducible refine k_load (T := 29) ?_); refine st_loads rfl _ _ rfl _ _ rfl a29 9 s29 H 1 rfl ?_ ?_; (simp); (intro K hK; go_simp)) | ((with_reducible refine k_load ?_); (first | refine st_load rfl _ _ rfl _ _ rfl ?_ H 1 rfl rfl ?_ | refine st_load rfl _ _ rfl _ _ rfl ?_ H 2 rfl rfl ?_); (kernel_rfl); (intro K hK; go_simp)) | ((with_reducible refine k_store ?_); refine st_store rfl _ _ _ rfl _ _ rfl _ rfl rfl ?_ H 2 rfl ?_ ?_; (kernel_rfl); (simp); (clear H; intro w H K hK; simp only [List.set_cons_zero, List.set_cons_succ, List.setIfInBounds_toArray, Act.eval, Value.cells, Array.getD_eq_getD_getElem?, List.getElem?_toArray, List.getElem?_cons_succ, List.getElem?_cons_zero, Option.getD_some] at H; go_simp)))
    refine (show Calls _ _ _ _ (ChPost w0 _ gb (u + 1) _ ((er, ⟨xn, xf, xo, xs⟩), es2) ) from by rw [← Hch.out]; exact change be (H.sel 5 [2, 3, 0, 1, 4])).mono ?_
    rintro e w3 ⟨ve2, rfl, H3⟩
    clear H
    have H := H3
    clear H3
    simp only [anV, nl]
    go_wp2_with ((with_reducible refine k_store (T := 41) ?_); refine st_put rfl _ _ _ rfl _ rfl _ rfl ?_ s41 H 2 rfl rfl ?_; (simp [Value.oneCell']); (clear H; intro w H K hK; simp only [List.set_cons_zero, List.set_cons_succ, Act.eval, Value.cells, Array.getD_eq_getD_getElem?, List.getElem?_toArray, List.getElem?_cons_succ, List.getElem?_cons_zero, Option.getD_some] at H; go_simp))
    refine bodyPost_ret (results_cell_tmp rfl rfl a41 s41 (H.get 2 rfl) rfl) rfl ?_
    exact ⟨ve2, _, _, rfl, (own_nil H 39 4).sel 6 [1, 2, 5, 0]⟩
  · rw [if_neg hk3]
    have hk3' : (kd == 3) = false := by simpa using hk3
    go_enter Try.func31, Try.ntmps31
    go_wp2_with (first | ((with_reducible refine k_box ?_); refine st_box rfl _ _ rfl _ rfl H ?_; (clear H; intro g4 w H K hK; simp only [Value.cells, Act.eval, Value.cells, Array.getD_eq_getD_getElem?, List.getElem?_toArray, List.getElem?_cons_succ, List.getElem?_cons_zero, Option.getD_some] at H; go_simp)) | ((with_reducible refine k_alloc (T := 41) ?_); refine st_alloc rfl _ rfl _ z41 _ rfl H ?_; (clear H; intro g6 w H K hK; simp only [Value.cells] at H; go_simp)) | ((with_reducible refine k_load (T := 29) ?_); refine st_row rfl _ _ rfl _ rfl a29 9 s29 H 1 rfl rfl ?_; (intro K hK; go_simp)) | ((with_reducible refine k_load (T := 29) ?_); refine st_loads rfl _ _ rfl _ _ rfl a29 9 s29 H 1 rfl ?_ ?_; (simp); (intro K hK; go_simp)) | ((with_reducible refine k_load ?_); (first | refine st_load rfl _ _ rfl _ _ rfl ?_ H 1 rfl rfl ?_ | refine st_load rfl _ _ rfl _ _ rfl ?_ H 2 rfl rfl ?_); (kernel_rfl); (intro K hK; go_simp)) | ((with_reducible refine k_store ?_); refine st_store rfl _ _ _ rfl _ _ rfl _ rfl rfl ?_ H 2 rfl ?_ ?_; (kernel_rfl); (simp); (clear H; intro w H K hK; simp only [List.set_cons_zero, List.set_cons_succ, List.setIfInBounds_toArray, Act.eval, Value.cells, Array.getD_eq_getD_getElem?, List.getElem?_toArray, List.getElem?_cons_succ, List.getElem?_cons_zero, Option.getD_some] at H; go_simp)))
    refine (show Calls _ _ _ _ (ChPost w0 _ gb (u + 1) _ ((er, ⟨xn, xf, xo, xs⟩), es2) ) from by rw [← Hch.out]; exact change be (H.sel 5 [2, 3, 0, 1, 4])).mono ?_
    rintro e w3 ⟨ve2, rfl, H3⟩
    clear H
    have H := H3
    clear H3
    simp only [anV, nl]
    go_wp2_with (first | ((with_reducible refine k_alloc (T := 41) ?_); refine st_alloc rfl _ rfl _ z41 _ rfl H ?_; (clear H; intro g10 w H K hK; simp only [Value.cells] at H; go_simp)) | ((with_reducible refine k_store (T := 41) ?_); refine st_put rfl _ _ _ rfl _ rfl _ rfl ?_ s41 H 0 rfl rfl ?_; (simp [Value.oneCell']); (clear H; intro w H K hK; simp only [List.set_cons_zero, List.set_cons_succ, Act.eval, Value.cells, Array.getD_eq_getD_getElem?, List.getElem?_toArray, List.getElem?_cons_succ, List.getElem?_cons_zero, Option.getD_some] at H; go_simp)))
    apply wp_region_eff [17, 18] (fun i => (#[[], [], [], [], [], [], [], [], [], [], [], [], [], [], [], [], [], [], [17]] : Array (List Nat)).getD i []) (fun val i => ((_ :: _ :: _ :: _ :: _ :: _ :: _ :: _ :: _ :: _ :: _ :: _ :: _ :: _ :: _ :: _ :: _ :: val 17 :: val 18 :: []) : List Value).toArray.getD i undef) (fun E val => At w0 (Blk g10 (.cells #[.int .i64 er, .string xn, .int .i64 xf, .int .i64 xo, .int .i64 xs, .slice none 0 0] 41 (0, 0)) :: Blk gb (.cells #[.int .i64 (u + 1), ve2, .slice ad ls.length cap] 25 (0, 0)) :: OE ve2 es2 :: Blk g6 (.cells #[.int .i64 0, .string ⟨#[]⟩, .int .i64 0, .int .i64 0, .int .i64 0, .slice none 0 0] 41 (0, 0)) :: Blk g4 (.cells #[.int .i64 kd, .int .i64 cl, .int .i64 op, .string nm, .int .i64 fc, .int .i64 fo, .int .i64 nc, .int .i64 no, .int .i64 sz] 29 (0, 0)) :: OL (.slice ad ls.length cap) ls :: (if E 17 = true then PtrBlk (val 17) (.cells (if E 18 = true then #[.int .i64 cl, .int .i64 op, .int .i64 (u + 1), .int .i64 er, .int .i64 xf, .int .i64 xo, .int .i64 xs] else #[.int .i64 0, .int .i64 0, .int .i64 0, .int .i64 0, .int .i64 0, .int .i64 0, .int .i64 0]) 53 (0, 0)) else emp) :: L)) (by kernel_rfl) (by kernel_rfl) (by kernel_rfl) (by kernel_rfl) (H.addEmp.sel 7 [1, 2, 3, 4, 5, 6, 0])
    case step =>
      iterate 17 (refine ⟨eff_pl rfl (fun _ => by rfl) fun E val hn T ds w K H hk ho hK => ?_, ?_⟩; rotate_left)
      iterate 2 (refine ⟨eff_mk rfl (fun _ => by rfl) fun E val hE0 hcl hn T ds w K H hk ho hK => ?_, ?_⟩; rotate_left)
      exact trivial
      · have o4 := ho 4 (by kernel_rfl); clear ho; simp [know, dstAt, Region.binds] at hk o4; go_simp; exact hK _ H
      · clear ho; simp [know, dstAt, Region.binds] at hk
        first | (refine op_loadT rfl hk ?_ H 0 rfl rfl ?_; (kernel_rfl); exact hK _ H) | (refine op_loadT rfl hk ?_ H 1 rfl rfl ?_; (kernel_rfl); exact hK _ H) | (refine op_loadT rfl hk ?_ H 4 rfl rfl ?_; (kernel_rfl); exact hK _ H)
      · have o4 := ho 4 (by kernel_rfl); clear ho; simp [know, dstAt, Region.binds] at hk o4; go_simp; exact hK _ H
      · clear ho; simp [know, dstAt, Region.binds] at hk
        first | (refine op_loadT rfl hk ?_ H 0 rfl rfl ?_; (kernel_rfl); exact hK _ H) | (refine op_loadT rfl hk ?_ H 1 rfl rfl ?_; (kernel_rfl); exact hK _ H) | (refine op_loadT rfl hk ?_ H 4 rfl rfl ?_; (kernel_rfl); exact hK _ H)
      · have o0 := ho 0 (by kernel_rfl); clear ho; simp [know, dstAt, Region.binds] at hk o0; go_simp; exact hK _ H
      · clear ho; simp [know, dstAt, Region.binds] at hk; go_simp; exact hK _ H
      · clear ho; simp [know, dstAt, Region.binds] at hk; go_simp; exact hK _ H
      · clear ho; simp [know, dstAt, Region.binds] at hk
        first | (refine op_loadT rfl hk ?_ H 0 rfl rfl ?_; (kernel_rfl); exact hK _ H) | (refine op_loadT rfl hk ?_ H 1 rfl rfl ?_; (kernel_rfl); exact hK _ H) | (refine op_loadT rfl hk ?_ H 4 rfl rfl ?_; (kernel_rfl); exact hK _ H)
      · have o10 := ho 10 (by kernel_rfl); clear ho; simp [know, dstAt, Region.binds] at hk o10; go_simp; exact hK _ H
      · clear ho; simp [know, dstAt, Region.binds] at hk
        first | (refine op_loadT rfl hk ?_ H 0 rfl rfl ?_; (kernel_rfl); exact hK _ H) | (refine op_loadT rfl hk ?_ H 1 rfl rfl ?_; (kernel_rfl); exact hK _ H) | (refine op_loadT rfl hk ?_ H 4 rfl rfl ?_; (kernel_rfl); exact hK _ H)
      · have o10 := ho 10 (by kernel_rfl); clear ho; simp [know, dstAt, Region.binds] at hk o10; go_simp; exact hK _ H
      · clear ho; simp [know, dstAt, Region.binds] at hk; go_simp; exact hK _ H
      · clear ho; simp [know, dstAt, Region.binds] at hk
        first | (refine op_loadsT (T := 27) (n := 2) rfl hk a27 s27 H 0 rfl rfl rfl ?_; exact hK _ H) | (refine op_loadsT (T := 27) (n := 2) rfl hk a27 s27 H 4 rfl rfl rfl ?_; exact hK _ H) | (refine op_loadT rfl hk ?_ H 0 rfl rfl ?_; (kernel_rfl); exact hK _ H) | (refine op_loadT rfl hk ?_ H 1 rfl rfl ?_; (kernel_rfl); exact hK _ H) | (refine op_loadT rfl hk ?_ H 4 rfl rfl ?_; (kernel_rfl); exact hK _ H)
      · have o10 := ho 10 (by kernel_rfl); clear ho; simp [know, dstAt, Region.binds] at hk o10; go_simp; exact hK _ H
      · clear ho; simp [know, dstAt, Region.binds] at hk; go_simp; exact hK _ H
      · clear ho; simp [know, dstAt, Region.binds] at hk
        first | (refine op_loadT rfl hk ?_ H 0 rfl rfl ?_; (kernel_rfl); exact hK _ H) | (refine op_loadT rfl hk ?_ H 1 rfl rfl ?_; (kernel_rfl); exact hK _ H) | (refine op_loadT rfl hk ?_ H 4 rfl rfl ?_; (kernel_rfl); exact hK _ H)
      · clear ho; simp [know, dstAt, Region.binds] at hk; go_simp; exact hK _ H
      · clear ho; simp [know, dstAt, Region.binds] at hk
        (have q18 : E 18 = false := (by cases h : E 18 with | false => rfl | true => (have h2 := hcl 18 (by decide) h 17 (by decide); rw [hE0] at h2; cases h2))); (simp only [hE0, Bool.false_eq_true, if_false] at H); refine op_allocT rfl z53 rfl (H.sel 7 [0, 1, 2, 3, 4, 5]) ?_; (intro x w' H; refine hK _ _ ?_; have t17 : updE E 17 17 = true := rfl; have t18 : updE E 17 18 = false := q18; simp only [t17, t18, Bool.false_eq_true, if_true, if_false]; exact H.sel 7 [1, 2, 3, 4, 5, 6, 0])
      · clear ho; simp [know, dstAt, Region.binds] at hk
        (have e17 := hn 17 (by decide)); (simp only [hE0, e17, Bool.false_eq_true, if_true, if_false] at H); (obtain ⟨g, hv17, HS⟩ := ptr_ex (H.pick 6 rfl)); refine op_putT rfl (hk.1.trans hv17) hk.2.1 ?_ s53 HS 0 rfl rfl rfl ?_; (simp [Value.oneCell']); (intro w' H; refine hK _ _ ?_; have t17 : updE E 18 17 = true := e17; have t18 : updE E 18 18 = true := rfl; simp only [t17, t18, if_true]; exact (At.imp H fun _ hh => (⟨g, hv17, hh⟩ : PtrBlk (val 17) _ _)).sel 7 [1, 2, 3, 4, 5, 6, 0])
    case ins =>
      iterate 17 (refine ⟨ins_pl rfl (fun _ _ _ => rfl), ?_⟩)
      iterate 2 (refine ⟨ins_mk rfl (fun _ => rfl), ?_⟩)
      exact trivial
    case jns =>
      iterate 17 (refine ⟨j_pl (fun _ _ _ => rfl), ?_⟩)
      iterate 2 (refine ⟨j_mk rfl, ?_⟩)
      exact trivial
    case fin =>
      intro E val w4 hE H
      have e17 := hE 17 (by decide)
      have e18 := hE 18 (by decide)
      simp only [e17, e18, if_true] at H
      clear hE e17 e18
      obtain ⟨g11, hv17, HX⟩ := ptr_ex (H.pick 6 rfl)
      clear H
      have H : At w0 (Blk g11 (.cells #[.int .i64 cl, .int .i64 op, .int .i64 (u + 1), .int .i64 er, .int .i64 xf, .int .i64 xo, .int .i64 xs] 53 (0, 0)) :: Blk g10 (.cells #[.int .i64 er, .string xn, .int .i64 xf, .int .i64 xo, .int .i64 xs, .slice none 0 0] 41 (0, 0)) :: Blk gb (.cells #[.int .i64 (u + 1), ve2, .slice ad ls.length cap] 25 (0, 0)) :: OE ve2 es2 :: Blk g6 (.cells #[.int .i64 0, .string ⟨#[]⟩, .int .i64 0, .int .i64 0, .int .i64 0, .slice none 0 0] 41 (0, 0)) :: Blk g4 (.cells #[.int .i64 kd, .int .i64 cl, .int .i64 op, .string nm, .int .i64 fc, .int .i64 fo, .int .i64 nc, .int .i64 no, .int .i64 sz] 29 (0, 0)) :: OL (.slice ad ls.length cap) ls :: L) w4 := HX
      clear HX
      simp [putAll, Act.put]
      simp only [hv17]
      clear hv17
      go_wp2_with fail
      apply wp_region_eff [] (fun i => (#[[], [], [], [], [], [], [], [], [], [], [], []] : Array (List Nat)).getD i []) (fun val i => (([_, _, _, _, _, _, .tuple #[.int .i64 (seI ls cl : Nat), .bool (seB ls cl)], _, _, _, _, _]) : List Value).toArray.getD i undef) (fun E val => At w0 (Blk g11 (.cells #[.int .i64 cl, .int .i64 op, .int .i64 (u + 1), .int .i64 er, .int .i64 xf, .int .i64 xo, .int .i64 xs] 53 (0, 0)) :: Blk g10 (.cells #[.int .i64 er, .string xn, .int .i64 xf, .int .i64 xo, .int .i64 xs, .slice none 0 0] 41 (0, 0)) :: Blk gb (.cells #[.int .i64 (u + 1), ve2, .slice ad ls.length cap] 25 (0, 0)) :: OE ve2 es2 :: Blk g6 (.cells #[.int .i64 0, .string ⟨#[]⟩, .int .i64 0, .int .i64 0, .int .i64 0, .slice none 0 0] 41 (0, 0)) :: Blk g4 (.cells #[.int .i64 kd, .int .i64 cl, .int .i64 op, .string nm, .int .i64 fc, .int .i64 fo, .int .i64 nc, .int .i64 no, .int .i64 sz] 29 (0, 0)) :: OL (.slice ad ls.length cap) ls :: L)) (by kernel_rfl) (by kernel_rfl) (by kernel_rfl) (by kernel_rfl) (H)
      case step =>
        iterate 12 (refine ⟨eff_pl rfl (fun _ => by rfl) fun E val hn T ds w K H hk ho hK => ?_, ?_⟩; rotate_left)
        exact trivial
        · have o0 := ho 0 (by kernel_rfl); clear ho; simp [know, dstAt, Region.binds] at hk o0; go_simp; exact hK _ H
        · clear ho; simp [know, dstAt, Region.binds] at hk; go_simp; exact hK _ H
        · clear ho; simp [know, dstAt, Region.binds] at hk; go_simp; exact hK _ H
        · clear ho; simp [know, dstAt, Region.binds] at hk
          first | (refine op_loadT rfl hk ?_ H 2 rfl rfl ?_; (kernel_rfl); exact hK _ H) | (refine op_loadT rfl hk ?_ H 5 rfl rfl ?_; (kernel_rfl); exact hK _ H)
        · have o4 := ho 4 (by kernel_rfl); clear ho; simp [know, dstAt, Region.binds] at hk o4; go_simp; exact hK _ H
        · clear ho; simp [know, dstAt, Region.binds] at hk
          first | (refine op_loadT rfl hk ?_ H 2 rfl rfl ?_; (kernel_rfl); exact hK _ H) | (refine op_loadT rfl hk ?_ H 5 rfl rfl ?_; (kernel_rfl); exact hK _ H)
        · clear ho; simp [know, dstAt, Region.binds] at hk
          (go_simp; refine (seat hl1 (ol_recs (H.pick 6 rfl)) cl H).mono ?_; rintro e w' ⟨rfl, he, H⟩; exact hK _ H)
        · clear ho; simp [know, dstAt, Region.binds] at hk; go_simp; exact hK _ H
        · clear ho; simp [know, dstAt, Region.binds] at hk; go_simp; exact hK _ H
        · clear ho; simp [know, dstAt, Region.binds] at hk; go_simp; exact hK _ H
        · clear ho; simp [know, dstAt, Region.binds] at hk; go_simp; exact hK _ H
        · clear ho; simp [know, dstAt, Region.binds] at hk; go_simp; exact hK _ H
      case ins =>
        iterate 12 (refine ⟨ins_pl rfl (fun _ _ _ => rfl), ?_⟩)
        exact trivial
      case jns =>
        iterate 12 (refine ⟨j_pl (fun _ _ _ => rfl), ?_⟩)
        exact trivial
      case fin =>
        intro E val w5 hE H
        clear hE
        simp [putAll, Act.put]
        have hil := seI_le ls cl
        cases hb : seB ls cl with
        | true =>
          have hlt := seB_lt hb
          have g1 : ((seI ls cl : Nat) : Int) < ls.length := by omega
          obtain ⟨b, rfl⟩ := c4 (by omega)
          have Hset := Lib.hid (fun (y : La) => lC_set (l := ls) (x := y) hlt)
          have hS := Lib.hid (show seatS ls ⟨cl, op, u + 1, er, xf, xo, xs⟩ = ls.set (seI ls cl) ⟨cl, op, u + 1, er, xf, xo, xs⟩ by unfold seatS; dsimp only; rw [if_pos hb])
          clear hb c4
          go_wp2_with fail
          apply wp_region_eff [7] (fun i => (#[[], [], [], [], [], [], [], []] : Array (List Nat)).getD i []) (fun val i => ((_ :: _ :: _ :: _ :: _ :: _ :: _ :: val 7 :: []) : List Value).toArray.getD i undef) (fun E val => At w0 (Blk g11 (.cells #[.int .i64 cl, .int .i64 op, .int .i64 (u + 1), .int .i64 er, .int .i64 xf, .int .i64 xo, .int .i64 xs] 53 (0, 0)) :: Blk g10 (.cells #[.int .i64 er, .string xn, .int .i64 xf, .int .i64 xo, .int .i64 xs, .slice none 0 0] 41 (0, 0)) :: Blk gb (.cells #[.int .i64 (u + 1), ve2, .slice (some b) ls.length cap] 25 (0, 0)) :: OE ve2 es2 :: Blk g6 (.cells #[.int .i64 0, .string ⟨#[]⟩, .int .i64 0, .int .i64 0, .int .i64 0, .slice none 0 0] 41 (0, 0)) :: Blk g4 (.cells #[.int .i64 kd, .int .i64 cl, .int .i64 op, .string nm, .int .i64 fc, .int .i64 fo, .int .i64 nc, .int .i64 no, .int .i64 sz] 29 (0, 0)) :: OwnRow 53 7 (.slice (some b) ls.length cap) ls.length (if E 7 = true then lC (ls.set (seI ls cl) ⟨cl, op, u + 1, er, xf, xo, xs⟩) else lC ls) :: L)) (by kernel_rfl) (by kernel_rfl) (by kernel_rfl) (by kernel_rfl) (H)
          case step =>
            iterate 7 (refine ⟨eff_pl rfl (fun _ => by rfl) fun E val hn T ds w K H hk ho hK => ?_, ?_⟩; rotate_left)
            refine ⟨eff_mk rfl (fun _ => by rfl) fun E val hE0 hcl hn T ds w K H hk ho hK => ?_, ?_⟩; rotate_left
            exact trivial
            · have o0 := ho 0 (by kernel_rfl); clear ho; simp [know, dstAt, Region.binds] at hk o0; go_simp; exact hK _ H
            · clear ho; simp [know, dstAt, Region.binds] at hk; go_simp; exact hK _ H
            · clear ho; simp [know, dstAt, Region.binds] at hk; go_simp; exact hK _ H
            · clear ho; simp [know, dstAt, Region.binds] at hk
              (refine op_loadT rfl hk ?_ H 2 rfl rfl ?_; (kernel_rfl); exact hK _ H)
            · have o12 := ho 12 (by kernel_rfl); clear ho; simp [know, dstAt, Region.binds] at hk o12; go_simp; exact hK _ H
            · have o11 := ho 11 (by kernel_rfl); clear ho; simp [know, dstAt, Region.binds] at hk o11
              (refine op_rowT (T := 53) rfl o11 a53 s53 H 0 rfl rfl ?_; exact hK _ H)
            · clear ho; simp [know, dstAt, Region.binds] at hk; go_simp; exact hK _ H
            · clear ho; simp [know, dstAt, Region.binds] at hk
              (simp only [hE0, Bool.false_eq_true, if_false] at H); refine op_ownPutT (seI ls cl * 7) rfl hk.1 hk.2.1 (by simp [Value.oneCell']) s53 (H.pick 6 rfl) (by rw [lC_len]; show seI ls cl * 7 + 7 ≤ _; omega) ?_; (intro w' H; refine hK _ _ ?_; have t7 : updE E 7 7 = true := rfl; simp only [t7, if_true]; rw [← Hset.out ⟨cl, op, u + 1, er, xf, xo, xs⟩]; exact H.sel 7 [1, 2, 3, 4, 5, 6, 0])
          case ins =>
            iterate 7 (refine ⟨ins_pl rfl (fun _ _ _ => rfl), ?_⟩)
            refine ⟨ins_mk rfl (fun _ => rfl), ?_⟩
            exact trivial
          case jns =>
            iterate 7 (refine ⟨j_pl (fun _ _ _ => rfl), ?_⟩)
            refine ⟨j_mk rfl, ?_⟩
            exact trivial
          case fin =>
            intro E val w6 hE H
            have e7 := hE 7 (by decide)
            simp only [e7, if_true] at H
            clear hE e7
            simp [putAll, Act.put]
            go_wp2_with (first | ((with_reducible refine k_load (T := 41) ?_); refine st_row rfl _ _ rfl _ rfl a41 6 s41 H 1 rfl rfl ?_; (intro K hK; go_simp)) | ((with_reducible refine k_load (T := 41) ?_); refine st_loads rfl _ _ rfl _ _ rfl a41 6 s41 H 1 rfl ?_ ?_; (simp); (intro K hK; go_simp)) | ((with_reducible refine k_store (T := 41) ?_); refine st_put rfl _ _ _ rfl _ rfl _ rfl ?_ s41 H 4 rfl rfl ?_; (simp [Value.oneCell']); (clear H; intro w H K hK; simp only [List.set_cons_zero, List.set_cons_succ, Act.eval, Value.cells, Array.getD_eq_getD_getElem?, List.getElem?_toArray, List.getElem?_cons_succ, List.getElem?_cons_zero, Option.getD_some] at H; go_simp)))
            refine bodyPost_ret (results_cell_tmp rfl rfl a41 s41 (H.get 4 rfl) rfl) rfl ?_
            refine ⟨ve2, .slice (some b) ls.length cap, _, rfl, ?_⟩
            dsimp only
            rw [hS.out]
            unfold OL
            rw [List.length_set]
            exact (own_nil H 39 4).sel 8 [3, 4, 7, 0]
        | false =>
          have hS := Lib.hid (show seatS ls ⟨cl, op, u + 1, er, xf, xo, xs⟩ = insAt ls (seI ls cl) ⟨cl, op, u + 1, er, xf, xo, xs⟩ by unfold seatS; dsimp only; rw [if_neg (by rw [hb]; decide)])
          clear hb c4
          go_wp2_with fail
          apply wp_region_eff [4, 7, 8, 11] (fun i => (#[[], [], [], [], [], [], [], [], [4, 7], [], [], [4, 7, 8]] : Array (List Nat)).getD i []) (fun val i => ((_ :: _ :: _ :: _ :: val 4 :: _ :: _ :: val 7 :: val 8 :: _ :: _ :: val 11 :: []) : List Value).toArray.getD i undef) (fun E val => At w0 (Blk g11 (.cells #[.int .i64 cl, .int .i64 op, .int .i64 (u + 1), .int .i64 er, .int .i64 xf, .int .i64 xo, .int .i64 xs] 53 (0, 0)) :: Blk g10 (.cells #[.int .i64 er, .string xn, .int .i64 xf, .int .i64 xo, .int .i64 xs, .slice none 0 0] 41 (0, 0)) :: Blk gb (.cells (if E 11 = true then #[.int .i64 (u + 1), ve2, val 8] else #[.int .i64 (u + 1), ve2, .slice ad ls.length cap]) 25 (0, 0)) :: OE ve2 es2 :: Blk g6 (.cells #[.int .i64 0, .string ⟨#[]⟩, .int .i64 0, .int .i64 0, .int .i64 0, .slice none 0 0] 41 (0, 0)) :: Blk g4 (.cells #[.int .i64 kd, .int .i64 cl, .int .i64 op, .string nm, .int .i64 fc, .int .i64 fo, .int .i64 nc, .int .i64 no, .int .i64 sz] 29 (0, 0)) :: (if E 8 = true then OL (val 8) (insAt ls (seI ls cl) ⟨cl, op, u + 1, er, xf, xo, xs⟩) else OL (.slice ad ls.length cap) ls) :: (if E 7 = true then (if E 8 = true then emp else SlBlk (val 7) #[.int .i64 cl, .int .i64 op, .int .i64 (u + 1), .int .i64 er, .int .i64 xf, .int .i64 xo, .int .i64 xs] 53) else emp) :: (if E 4 = true then pur (val 4 = .slice ad ls.length cap) else emp) :: L)) (by kernel_rfl) (by kernel_rfl) (by kernel_rfl) (by kernel_rfl) ((H.addEmp.addEmp).sel 9 [2, 3, 4, 5, 6, 7, 8, 0, 1])
          case step =>
            iterate 4 (refine ⟨eff_pl rfl (fun _ => by rfl) fun E val hn T ds w K H hk ho hK => ?_, ?_⟩; rotate_left)
            refine ⟨eff_mk rfl (fun _ => by rfl) fun E val hE0 hcl hn T ds w K H hk ho hK => ?_, ?_⟩; rotate_left
            iterate 2 (refine ⟨eff_pl rfl (fun _ => by rfl) fun E val hn T ds w K H hk ho hK => ?_, ?_⟩; rotate_left)
            iterate 2 (refine ⟨eff_mk rfl (fun _ => by rfl) fun E val hE0 hcl hn T ds w K H hk ho hK => ?_, ?_⟩; rotate_left)
            iterate 2 (refine ⟨eff_pl rfl (fun _ => by rfl) fun E val hn T ds w K H hk ho hK => ?_, ?_⟩; rotate_left)
            refine ⟨eff_mk rfl (fun _ => by rfl) fun E val hE0 hcl hn T ds w K H hk ho hK => ?_, ?_⟩; rotate_left
            exact trivial
            · have o0 := ho 0 (by kernel_rfl); clear ho; simp [know, dstAt, Region.binds] at hk o0; go_simp; exact hK _ H
            · have o0 := ho 0 (by kernel_rfl); clear ho; simp [know, dstAt, Region.binds] at hk o0; go_simp; exact hK _ H
            · clear ho; simp [know, dstAt, Region.binds] at hk; go_simp; exact hK _ H
            · clear ho; simp [know, dstAt, Region.binds] at hk; go_simp; exact hK _ H
            · clear ho; simp [know, dstAt, Region.binds] at hk
              (have q8 : E 8 = false := (by cases h : E 8 with | false => rfl | true => (have h2 := hcl 8 (by decide) h 4 (by decide); rw [hE0] at h2; cases h2))); (have q11 : E 11 = false := (by cases h : E 11 with | false => rfl | true => (have h2 := hcl 11 (by decide) h 4 (by decide); rw [hE0] at h2; cases h2))); (simp only [hE0, q8, q11, Bool.false_eq_true, if_false] at H); refine op_loadT rfl hk (by kernel_rfl) H 2 rfl rfl ?_; refine hK _ _ ?_; have t8 : updE E 4 8 = false := q8; have t11 : updE E 4 11 = false := q11; have t4 : updE E 4 4 = true := rfl; simp only [t4, t8, t11, Bool.false_eq_true, if_false, if_true]; exact (At.pure (p := (Value.slice ad ls.length cap) = .slice ad ls.length cap) rfl H).sel 10 [1, 2, 3, 4, 5, 6, 7, 8, 0]
            · have o12 := ho 12 (by kernel_rfl); clear ho; simp [know, dstAt, Region.binds] at hk o12; go_simp; exact hK _ H
            · have o11 := ho 11 (by kernel_rfl); clear ho; simp [know, dstAt, Region.binds] at hk o11
              (refine op_rowT (T := 53) rfl o11 a53 s53 H 0 rfl rfl ?_; exact hK _ H)
            · clear ho; simp [know, dstAt, Region.binds] at hk
              (have q8 : E 8 = false := (by cases h : E 8 with | false => rfl | true => (have h2 := hcl 8 (by decide) h 7 (by decide); rw [hE0] at h2; cases h2))); (simp only [hE0, q8, Bool.false_eq_true, if_false] at H); refine op_lit1T rfl (c := #[.int .i64 cl, .int .i64 op, .int .i64 (u + 1), .int .i64 er, .int .i64 xf, .int .i64 xo, .int .i64 xs]) hk Try.underlying23 s53 z53 rfl rfl (by decide) (by decide) H ?_; (intro x w' H; refine hK _ _ ?_; have t8 : updE E 7 8 = false := q8; have t7 : updE E 7 7 = true := rfl; simp only [t7, t8, Bool.false_eq_true, if_false, if_true]; exact H.sel 10 [1, 2, 3, 4, 5, 6, 7, 0, 9])
            · clear ho; simp [know, dstAt, Region.binds] at hk
              (have q11 : E 11 = false := (by cases h : E 11 with | false => rfl | true => (have h2 := hcl 11 (by decide) h 8 (by decide); rw [hE0] at h2; cases h2))); (have e4 := hn 4 (by decide)); (have e7 := hn 7 (by decide)); (simp only [hE0, e4, e7, q11, Bool.false_eq_true, if_false, if_true] at H); (have hv4 := (At.unpure (H.pick 8 rfl)).1); (obtain ⟨gs, hv7, HS⟩ := sl_ex (H.pick 7 rfl)); (replace HS := HS.sel 9 [7, 0, 1, 2, 3, 4, 5, 6, 8]); (obtain ⟨y1, y2, y3⟩ := hk); (replace y1 := y1.trans hv4); (replace y3 := y3.trans hv7); clear hv4 hv7 H; go_simp; refine (insL (l := ls) (x := ⟨cl, op, u + 1, er, xf, xo, xs⟩) hil bl HS).mono ?_; rintro e w' ⟨v', rfl, H⟩; refine hK _ _ ?_; have t11 : updE E 8 11 = false := q11; have t8 : updE E 8 8 = true := rfl; have t7 : updE E 8 7 = true := e7; have t4 : updE E 8 4 = true := e4; simp only [t4, t7, t8, t11, Bool.false_eq_true, if_false, if_true]; exact H.addEmp.sel 9 [2, 3, 4, 5, 6, 7, 1, 0, 8]
            · clear ho; simp [know, dstAt, Region.binds] at hk; go_simp; exact hK _ H
            · clear ho; simp [know, dstAt, Region.binds] at hk; go_simp; exact hK _ H
            · clear ho; simp [know, dstAt, Region.binds] at hk
              (have e8 := hn 8 (by decide)); (simp only [hE0, e8, Bool.false_eq_true, if_false, if_true] at H); refine op_storeT rfl hk.1 hk.2.1 (ol_one (H.pick 6 rfl)) (by kernel_rfl) H 2 rfl (show 2 < 3 by decide) ?_; (intro w' H; refine hK _ _ ?_; have t8 : updE E 11 8 = true := e8; have t11 : updE E 11 11 = true := rfl; simp only [t8, t11, if_true]; exact H)
          case ins =>
            iterate 4 (refine ⟨ins_pl rfl (fun _ _ _ => rfl), ?_⟩)
            refine ⟨ins_mk rfl (fun _ => rfl), ?_⟩
            iterate 2 (refine ⟨ins_pl rfl (fun _ _ _ => rfl), ?_⟩)
            iterate 2 (refine ⟨ins_mk rfl (fun _ => rfl), ?_⟩)
            iterate 2 (refine ⟨ins_pl rfl (fun _ _ _ => rfl), ?_⟩)
            refine ⟨ins_mk rfl (fun _ => rfl), ?_⟩
            exact trivial
          case jns =>
            iterate 4 (refine ⟨j_pl (fun _ _ _ => rfl), ?_⟩)
            refine ⟨j_mk rfl, ?_⟩
            iterate 2 (refine ⟨j_pl (fun _ _ _ => rfl), ?_⟩)
            iterate 2 (refine ⟨j_mk rfl, ?_⟩)
            iterate 2 (refine ⟨j_pl (fun _ _ _ => rfl), ?_⟩)
            refine ⟨j_mk rfl, ?_⟩
            exact trivial
          case fin =>
            intro E val w6 hE H
            have e4 := hE 4 (by decide)
            have e7 := hE 7 (by decide)
            have e8 := hE 8 (by decide)
            have e11 := hE 11 (by decide)
            simp only [e4, e7, e8, e11, if_true] at H
            clear hE e4 e7 e8 e11
            simp [putAll, Act.put]
            go_wp2_with (first | ((with_reducible refine k_load (T := 41) ?_); refine st_row rfl _ _ rfl _ rfl a41 6 s41 H 1 rfl rfl ?_; (intro K hK; go_simp)) | ((with_reducible refine k_load (T := 41) ?_); refine st_loads rfl _ _ rfl _ _ rfl a41 6 s41 H 1 rfl ?_ ?_; (simp); (intro K hK; go_simp)) | ((with_reducible refine k_store (T := 41) ?_); refine st_put rfl _ _ _ rfl _ rfl _ rfl ?_ s41 H 4 rfl rfl ?_; (simp [Value.oneCell']); (clear H; intro w H K hK; simp only [List.set_cons_zero, List.set_cons_succ, Act.eval, Value.cells, Array.getD_eq_getD_getElem?, List.getElem?_toArray, List.getElem?_cons_succ, List.getElem?_cons_zero, Option.getD_some] at H; go_simp)))
            refine bodyPost_ret (results_cell_tmp rfl rfl a41 s41 (H.get 4 rfl) rfl) rfl ?_
            refine ⟨ve2, val 8, _, rfl, ?_⟩
            dsimp only
            rw [hS.out]
            exact (own_nil H 39 4).sel 10 [3, 4, 7, 0]
end
end Bk
end Go.Proofs.Ytcofcikdknmggaa
