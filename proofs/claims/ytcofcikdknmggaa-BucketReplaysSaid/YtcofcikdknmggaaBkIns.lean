/-
  Insert and Delete, on rows of the call's own.
-/
import Derived.Test.YtcofcikdknmggaaBkData
import Derived.Test.YtcofcikdknmggaaBkOps
import Derived.Lib.Overlaps
import Derived.Lib.Walk
import Derived.Deep.RegionLaw
import Derived.WalkSpells
namespace Go.Proofs.Ytcofcikdknmggaa
open Go.Hp Go.RowKit
set_option linter.unusedVariables false
set_option linter.unusedSimpArgs false
set_option maxRecDepth 100000
set_option maxHeartbeats 1000000
namespace Bk

theorem step_copy {P : Program} {ops : Array Oper} {o : Oper} {a : Act} {w : World} {K : Act → World → Prop} {Q : Exit → Act → World → Prop} {E : Prop}
    (hg : o.guard = none) (d x : Operand) (dT sT : TypeId) (hop : o.op = Op.call { callee := Callee.builtin Builtin.copy, args := #[d, x], argTypes := #[dT, sT] })
    (v u : Value) (hd : a.eval d = v) (hx : a.eval x = u) {v' : Value} {w' : World} (hr : (Builtin.copy_ #[dT, sT] o.type #[v, u]).run P w = .ok v' w') (hK : K (a.put o.dst v') w') :
    if Region.wanted o (yielded ops a.tmps) = true then Oper.wp P o a w K Q else E := by
  have hw : Region.wanted o (yielded ops a.tmps) = true := by simp [Region.wanted, hg]
  rw [if_pos hw]
  unfold Oper.wp
  simp [execOp, hop, resolve, invoke, builtin, hd, hx, hr, Result.andThen]
  exact hK

theorem step_append {P : Program} {ops : Array Oper} {o : Oper} {a : Act} {w : World} {K : Act → World → Prop} {Q : Exit → Act → World → Prop} {E : Prop}
    (hg : o.guard = none) (d x : Operand) (dT sT : TypeId) (hop : o.op = Op.call { callee := Callee.builtin Builtin.append, args := #[d, x], argTypes := #[dT, sT] })
    (v u : Value) (hd : a.eval d = v) (hx : a.eval x = u) {v' : Value} {w' : World} (hr : (Builtin.append_ #[dT, sT] o.type #[v, u]).run P w = .ok v' w') (hK : K (a.put o.dst v') w') :
    if Region.wanted o (yielded ops a.tmps) = true then Oper.wp P o a w K Q else E := by
  have hw : Region.wanted o (yielded ops a.tmps) = true := by simp [Region.wanted, hg]
  rw [if_pos hw]
  unfold Oper.wp
  simp [execOp, hop, resolve, invoke, builtin, hd, hx, hr, Result.andThen]
  exact hK

theorem st_copyEq {P : Program} {ops : Array Oper} {rest : List Oper} {o : Oper} {a : Act} {w : World} {Q : Exit → Act → World → Prop} (hw : Region.wanted o (yielded ops a.tmps) = true) (d s : Operand) (t t' : TypeId)
    (ho : o.op = .call { callee := .builtin .copy, args := #[d, s], argTypes := #[t, t'] }) (v u : Value) (hd : a.eval d = v) (hs : a.eval s = u) {v' : Value} {w' : World}
    (hr : (Builtin.copy_ #[t, t'] o.type #[v, u]).run P w = .ok v' w') (h : ∀ K : Act → World → Prop, (∀ a w, wpList P ops Q rest a w → K a w) → K (a.put o.dst v') w') : wpList P ops Q (o :: rest) a w :=
  st_value hw (v := v') (w' := w') (by simp [execOp, ho, resolve, invoke, builtin, hd, hs, hr]) (h _ fun _ _ h => h)

theorem app_run {P : Program} {w : World} {s ty e : TypeId} {size : Nat} (ht : P.underlying s = some (.slice e)) (hsz : sizeT P e = some size) {g m cap k c' : Nat} {cur : List Value} (hg : w.heap[g]? = some (.cells cur.toArray e (0, 0)))
    (ad : Addr) (vs : List Value) (hvl : vs.length = k * size) (hv : ∀ j v, vs[j]? = some v → w.cell? (ad.add j) = some v) (h1 : ∀ v ∈ vs, v.oneCell' = true) (hroom : m + k ≤ cap) (hc : m * size + vs.length ≤ cur.length) :
    (Builtin.append_ #[s, s] ty #[.slice (some ⟨g, 0, none⟩) m cap, .slice (some ad) k c']).run P w = .ok (.slice (some ⟨g, 0, none⟩) (m + k) cap) (w.setRow g (splice cur (m * size) vs).toArray) := by
  unfold sizeT at hsz
  cases hi : P.info? e with
  | none => simp [hi] at hsz
  | some ti =>
    have his : ti.size = size := by simpa [hi] using hsz
    have hr := run_append_room (P := P) w s ty e ti ht hi g m cap cur.toArray hg ad k c' vs (by rw [his]; exact hvl) hv h1 hroom (by rw [his]; simpa using hc)
    rw [his] at hr
    simpa [splice] using hr

theorem shape_of {w : World} {g : Nat} {c : Array Value} {t : TypeId} {fr : Nat × Nat} (h : w.heap[g]? = some (.cells c t fr)) : w.shape? g = some (t, c.size) := by
  unfold World.shape?
  simp [h]
theorem frozen_of {w : World} {g k : Nat} {c : Array Value} {t : TypeId} (h : w.heap[g]? = some (.cells c t (0, 0))) : w.frozen? ⟨g, k, none⟩ = false := by
  simp [World.frozen?, h]

theorem splice_eq (c v : List Value) (o : Nat) : splice c o v = c.take o ++ v ++ c.drop (o + v.length) := by simp [splice]
theorem splice_len {c v : List Value} {o : Nat} (h : o + v.length ≤ c.length) : (splice c o v).length = c.length := by
  rw [splice_eq]
  simp only [List.length_append, List.length_take, List.length_drop]
  omega

theorem take_of {c xs : List Value} {N A : Nat} (hx : c.take N = xs) (hA : A ≤ N) : c.take A = xs.take A := by
  rw [← hx, List.take_take, Nat.min_eq_left hA]

theorem ins_room {c xs new : List Value} {A N s : Nat} (hx : c.take N = xs) (hA : A ≤ N) (hN : N + s ≤ c.length) (hn : new.length = s) :
    (splice (splice c (A + s) (xs.drop A)) A new).take (N + s) = xs.take A ++ new ++ xs.drop A ∧ (splice (splice c (A + s) (xs.drop A)) A new).length = c.length := by
  have hxl : xs.length = N := by rw [← hx, List.length_take]; omega
  have hl1 : (splice c (A + s) (xs.drop A)).length = c.length := splice_len (by rw [List.length_drop]; omega)
  refine ⟨?_, by rw [splice_len (by omega), hl1]⟩
  have e1 : (splice c (A + s) (xs.drop A)).take A = xs.take A := by
    rw [splice_eq]
    rw [List.append_assoc, List.take_append_of_le_length (by rw [List.length_take]; omega), List.take_take, Nat.min_eq_left (by omega), take_of hx hA]
  have e2 : (splice c (A + s) (xs.drop A)).drop (A + s) = xs.drop A ++ c.drop (N + s) := by
    rw [splice_eq]
    rw [List.append_assoc, List.drop_append_of_le_length (by rw [List.length_take]; omega), List.drop_eq_nil_of_le (by rw [List.length_take]; omega), List.nil_append, List.length_drop, show A + s + (xs.length - A) = N + s by omega]
  generalize hc1 : splice c (A + s) (xs.drop A) = c1 at *
  rw [splice_eq]
  rw [e1, hn, e2, ← List.append_assoc, List.take_append_of_le_length (by simp only [List.length_append, List.length_take, List.length_drop]; omega)]
  exact List.take_of_length_le (by simp only [List.length_append, List.length_take, List.length_drop]; omega)

theorem ins_grow {c xs new : List Value} {A N s : Nat} (hxl : xs.length = N) (hx : c.take A = xs.take A) (hA : A ≤ N) (hN : N + s ≤ c.length) (hn : new.length = s) :
    (splice (splice c A new) (A + s) (xs.drop A)).take (N + s) = xs.take A ++ new ++ xs.drop A ∧ (splice (splice c A new) (A + s) (xs.drop A)).length = c.length := by
  have hl1 : (splice c A new).length = c.length := splice_len (by omega)
  refine ⟨?_, by rw [splice_len (by rw [List.length_drop]; omega), hl1]⟩
  have e1 : (splice c A new).take (A + s) = xs.take A ++ new := by
    rw [splice_eq]
    rw [hx, List.take_append_of_le_length (by simp only [List.length_append, List.length_take]; omega)]
    exact List.take_of_length_le (by simp only [List.length_append, List.length_take]; omega)
  generalize hc1 : splice c A new = c1 at *
  rw [splice_eq]
  rw [e1, List.take_append_of_le_length (by simp only [List.length_append, List.length_take, List.length_drop]; omega)]
  exact List.take_of_length_le (by simp only [List.length_append, List.length_take, List.length_drop]; omega)

theorem cells_at {w : World} {g : Nat} {c : List Value} {t : TypeId} {fr : Nat × Nat} (hg : w.heap[g]? = some (.cells c.toArray t fr)) {off : Nat} {vs : List Value} (h : ∀ j u, vs[j]? = some u → c[off + j]? = some u) :
    ∀ j u, vs[j]? = some u → w.cell? ((⟨g, off, none⟩ : Addr).add j) = some u := by
  intro j u hj
  rw [Addr.add_lit, cell_of_row w g _ _ _ _ hg]
  simpa using h j u hj

theorem bytes39 : bytesT Try.prog 39 = some 40 := by kernel_rfl
theorem bytes53 : bytesT Try.prog 53 = some 56 := by kernel_rfl
theorem z39 : zeroT Try.prog 39 = some (.agg #[.string ⟨#[]⟩, .int .i64 0, .int .i64 0, .int .i64 0]) := by kernel_rfl
theorem z53 : zeroT Try.prog 53 = some (.agg #[.int .i64 0, .int .i64 0, .int .i64 0, .int .i64 0, .int .i64 0, .int .i64 0, .int .i64 0]) := by kernel_rfl

section
variable {w0 w : World} {L : List HProp}

theorem ovE (w : World) (gx g off lb cb : Nat) (hne : gx ≠ g) {cx c : Array Value} {tx t : TypeId} (hx : w.heap[gx]? = some (.cells cx tx (0, 0))) (hg : w.heap[g]? = some (.cells c t (0, 0))) (hc : 0 < c.size) :
    (callFunc 63 #[.slice (some ⟨gx, 0, none⟩) 1 1, .slice (some ⟨g, off, none⟩) lb cb]).run Try.prog w = .ok (.value (.bool false)) w := by
  rw [run_callFunc_extern Try.func63 (by kernel_rfl) (by kernel_rfl) (by kernel_rfl) (e := Extern.SlicesOverlaps.overlaps #[22, 22] #[4]) (by kernel_rfl),
    Lib.run_overlaps_apart w 22 4 39 Try.underlying22 4 (fun w => Go.Hp.run_sizeOf (w := w) s39) ⟨gx, 0, none⟩ ⟨g, off, none⟩ 1 1 lb cb hne tx t cx.size c.size (shape_of hx) (shape_of hg) (by omega) (frozen_of hx) (frozen_of hx)]
  rfl
theorem ovL (w : World) (gx g off lb cb : Nat) (hne : gx ≠ g) {cx c : Array Value} {tx t : TypeId} (hx : w.heap[gx]? = some (.cells cx tx (0, 0))) (hg : w.heap[g]? = some (.cells c t (0, 0))) (hc : 0 < c.size) :
    (callFunc 58 #[.slice (some ⟨gx, 0, none⟩) 1 1, .slice (some ⟨g, off, none⟩) lb cb]).run Try.prog w = .ok (.value (.bool false)) w := by
  rw [run_callFunc_extern Try.func58 (by kernel_rfl) (by kernel_rfl) (by kernel_rfl) (e := Extern.SlicesOverlaps.overlaps #[23, 23] #[4]) (by kernel_rfl),
    Lib.run_overlaps_apart w 23 4 53 Try.underlying23 7 (fun w => Go.Hp.run_sizeOf (w := w) s53) ⟨gx, 0, none⟩ ⟨g, off, none⟩ 1 1 lb cb hne tx t cx.size c.size (shape_of hx) (shape_of hg) (by omega) (frozen_of hx) (frozen_of hx)]
  rfl

theorem insE_end {v : Value} {n : Nat} {xs new : List Value} {gx : Nat} (hnl : new.length = 4) (h1n : ∀ u ∈ new, u.oneCell' = true) (hby : (n + 1) * 40 ≤ 140737488355328)
    (H : At w0 (OwnRow 39 4 v n xs :: Blk gx (.cells new.toArray 39 (0, 0)) :: L) w) :
    Calls Try.prog 56 #[v, .int .i64 n, .slice (some ⟨gx, 0, none⟩) 1 1] w (fun e w' => ∃ v', e = .returned v' ∧ At w0 (OwnRow 39 4 v' (n + 1) (xs ++ new) :: Blk gx (.cells new.toArray 39 (0, 0)) :: L) w') := by
  obtain ⟨ad, cap, rfl, c1, c2, c3, c4, c5⟩ := own_value H
  have Hn := Lib.hid hnl
  have H1 := Lib.hid h1n
  have c6 : n + 1 ≤ maxLen := by simp only [maxLen]; omega
  clear c3 c4 c5 hnl h1n
  go_enter Try.func56, Try.ntmps56
  go_wp2_with ((with_reducible refine k_builtin ?_); refine st_append rfl _ _ _ rfl 39 Try.underlying22 4 ?_ 40 ?_ _ z39 rfl _ _ _ rfl H (some ⟨gx, 0, none⟩) 1 1 new rfl Hn.out ?_ H1.out ?_ ?_ ?_; (kernel_rfl); (kernel_rfl); (intro _; exact ⟨_, rfl, cells_of (H.get 1 rfl)⟩); (omega); (omega); (clear H; intro v1 w2 H K hK; go_simp))
  all_goals (go_ret; exact ⟨_, rfl, H⟩)

theorem insE_mid {v : Value} {n i : Nat} {xs new : List Value} {gx : Nat} (hi : i < n) (hnl : new.length = 4) (h1 : ∀ u ∈ xs, u.oneCell' = true) (h1n : ∀ u ∈ new, u.oneCell' = true) (hby : (n + 1) * 40 ≤ 140737488355328)
    (H : At w0 (OwnRow 39 4 v n xs :: Blk gx (.cells new.toArray 39 (0, 0)) :: L) w) :
    Calls Try.prog 56 #[v, .int .i64 i, .slice (some ⟨gx, 0, none⟩) 1 1] w (fun e w' => ∃ v', e = .returned v' ∧ At w0 (OwnRow 39 4 v' (n + 1) (xs.take (i * 4) ++ new ++ xs.drop (i * 4)) :: Blk gx (.cells new.toArray 39 (0, 0)) :: L) w') := by
  rcases own_cases H with ⟨_, h0, _, _⟩ | ⟨g, cap, cur, rfl, c1, c2, c3, c4, c5, H2⟩
  · omega
  clear H
  obtain ⟨c, rfl⟩ : ∃ c : List Value, cur = c.toArray := ⟨cur.toList, by simp⟩
  have hcl : c.length = cap * 4 := by simpa using c3
  replace c5 : c.take (n * 4) = xs := by simpa using c5
  clear c3
  have hdl : (xs.drop (i * 4)).length = (n - i) * 4 := by rw [List.length_drop, c4]; omega
  have h1d : ∀ u ∈ xs.drop (i * 4), u.oneCell' = true := fun u hu => h1 u (List.mem_of_mem_drop hu)
  simp only [maxLen] at c2
  have hw1 : IntKind.i64.wrap ((i : Int) + 1) = (i : Int) + 1 := IntWalk.i64_in _ (by omega)
  have hw2 : IntKind.i64.wrap ((n : Int) + 1) = (n : Int) + 1 := IntWalk.i64_in _ (by omega)
  by_cases hroom : n + 1 ≤ cap
  · have hne : gx ≠ g := H2.ne01.symm
    have hov := fun lb cb => ovE w gx g ((i + 1) * 4) lb cb hne (H2.get 1 rfl) (H2.get 0 rfl) (by simp only [List.size_toArray]; omega)
    obtain ⟨w1, hr1, H3⟩ := copy_run (P := Try.prog) (w := w.drew) (ty := 3) (dT := 22) (sT := 22) (g := g) (off := (i + 1) * 4) (dLen := n + 1 - (i + 1)) (dCap := cap - (i + 1)) (sLen := n + 1 - i) (sCap := cap - i) (sp := some ⟨g, i * 4, none⟩) (vs := xs.drop (i * 4)) (n := n - i) Try.underlying22 s39
      (by simp only [Nat.min_def]; split <;> omega) hdl (fun _ => ⟨_, rfl, cells_at (H2.get 0 rfl) fun j u hj => by rw [List.getElem?_drop, ← c5, List.getElem?_take] at hj; split at hj; exact hj; cases hj⟩) h1d H2.drew 0 rfl (by rw [hdl]; omega)
    obtain ⟨w2, hr2, H4⟩ := copy_run (P := Try.prog) (w := w1) (ty := 3) (dT := 22) (sT := 22) (g := g) (off := i * 4) (dLen := n + 1 - i) (dCap := cap - i) (sLen := 1) (sCap := 1) (sp := some ⟨gx, 0, none⟩) (vs := new) (n := 1) Try.underlying22 s39
      (by simp only [Nat.min_def]; split <;> omega) hnl (fun _ => ⟨_, rfl, cells_of (H3.get 1 rfl)⟩) h1n H3 0 rfl (by rw [splice_len (by rw [hdl]; omega)]; omega)
    have hfin := Lib.hid (show ∀ w', At w0 (Blk g (.cells (splice (splice c ((i + 1) * 4) (xs.drop (i * 4))) (i * 4) new).toArray 39 (0, 0)) :: Blk gx (.cells new.toArray 39 (0, 0)) :: L) w' → At w0 (OwnRow 39 4 (.slice (some ⟨g, 0, none⟩) (n + 1) cap) (n + 1) (xs.take (i * 4) ++ new ++ xs.drop (i * 4)) :: Blk gx (.cells new.toArray 39 (0, 0)) :: L) w' from fun w' H => by
      obtain ⟨e1, e2⟩ := ins_room (A := i * 4) (N := n * 4) (s := 4) c5 (by omega) (by omega) hnl
      rw [show i * 4 + 4 = (i + 1) * 4 by omega] at e1 e2
      refine own_mk H hroom (by simp only [maxLen]; omega) (by rw [List.size_toArray, e2, hcl]) (by simp only [List.length_append, List.length_take, List.length_drop]; omega) ?_
      rw [show (n + 1) * 4 = n * 4 + 4 by omega]
      exact e1)
    have H4 := Lib.hid H4
    have k1 : ¬ (cap = i) := by omega
    have k2 : ¬ (cap = i + 1) := by omega
    have k3 : ¬ ((i : Int) = n) := by omega
    have k4 : ((i : Int) + 1).toNat = i + 1 := by omega
    have k5 : (0 : Int) ≤ (i : Int) + 1 := by omega
    have k6 : i ≤ n := by omega
    have k7 : (i : Int) ≤ (n : Int) + 1 := by omega
    have k8 : (i : Int) ≤ n := by omega
    clear H2 H3 h1 h1n h1d hdl c4 c5 hnl
    go_enter Try.func56, Try.ntmps56
    go_wp2_with (simp only [hov])
    go_region_law (refine step_copy rfl _ _ 22 22 rfl _ _ (by simp [Act.eval, Act.put]) (by simp [Act.eval, Act.put]) hr1 ?_)
    go_wp2_with ((with_reducible refine k_builtin ?_); refine st_copyEq rfl _ _ 22 22 rfl _ _ rfl rfl hr2 ?_; (intro K hK; go_simp))
    go_ret
    exact ⟨_, rfl, hfin.out _ H4.out⟩
  · obtain rfl : cap = n := by omega
    have hcell := Lib.hid (show 0 < i → ∃ b, (some (⟨g, 0, none⟩ : Addr)) = some b ∧ ∀ j v, (xs.take (i * 4))[j]? = some v → w.cell? (b.add j) = some v from fun _ => ⟨_, rfl, fun j u hj => by
      rw [List.getElem?_take] at hj
      split at hj
      · rw [← c5, List.getElem?_take] at hj
        split at hj
        · exact cells_of (H2.get 0 rfl) j u hj
        · cases hj
      · cases hj⟩)
    have hol := Lib.hid (show (xs.take (i * 4)).length = i * 4 by rw [List.length_take]; omega)
    have hw3 : IntKind.i64.wrap ((cap : Int) + 1 - (i : Int)) = (cap : Int) + 1 - (i : Int) := IntWalk.i64_in _ (by omega)
    have hik : i + (cap + 1 - i) = cap + 1 := by omega
    have k1 : ¬ (cap = i) := by omega
    have k0 : ¬ (cap = 0) := by omega
    have k3 : ¬ ((i : Int) = cap) := by omega
    have k4 : ((i : Int) + 1).toNat = i + 1 := by omega
    have k5 : (0 : Int) ≤ (i : Int) + 1 := by omega
    have k6 : i ≤ cap := by omega
    have k7 : (i : Int) ≤ (cap : Int) + 1 := by omega
    have k8 : (i : Int) ≤ cap := by omega
    have k9 : (cap : Int) < (cap : Int) + 1 := by omega
    have Hd := Lib.hid hdl
    have H1 := Lib.hid h1d
    have Hn := Lib.hid hnl
    have H1n := Lib.hid h1n
    have C4 := Lib.hid c4
    have C5 := Lib.hid c5
    have Hcl := Lib.hid hcl
    clear hdl h1d hnl h1n c4 c5 h1 hcl
    go_enter Try.func56, Try.ntmps56
    go_wp2_with (first | ((with_reducible refine k_builtin ?_); refine st_appendZ rfl _ _ 22 3 rfl 39 Try.underlying22 Try.underlying3 4 s39 40 bytes39 _ z39 rfl (by decide) (some ⟨g, 0, none⟩) i cap (cap + 1 - i) _ rfl rfl (by omega) (xs.take (i * 4)) hol.out hcell.out (by omega) (by omega) (by simp only [maxLen]; omega) (by rw [hik]; exact hby) H2 ?_; (clear H2; intro g2 cap2 cur w hc1 hc2 hc3 hc4 H2 K hK; rw [hik] at hc1; rw [hik]; have hc3 := Lib.hid hc3; have hc4 := Lib.hid hc4; have q1 : ¬ (cap2 = i) := (by omega); have q2 : ¬ (cap2 = i + 1) := (by omega); go_simp))        | ((with_reducible refine k_builtin ?_); refine st_copyR rfl _ _ 22 22 rfl 39 Try.underlying22 4 s39 g2 (i * 4) (cap + 1 - i) (cap2 - i) 1 1 (some ⟨gx, 0, none⟩) rfl rfl new 1 (by simp only [Nat.min_def]; split <;> omega) Hn.out (fun _ => ⟨_, rfl, cells_of (H2.get 2 rfl)⟩) H1n.out H2 0 rfl (by have := hc3.out; have := Hn.out; omega) ?_; (clear H2; intro w H2 K hK; go_simp)))
    have hsl : (splice cur (i * 4) new).length = cap2 * 4 := by have := hc3.out; have := Hn.out; rw [splice_len (by omega)]; omega
    obtain ⟨w1, hr1, H3⟩ := copy_run (P := Try.prog) (w := w.drew) (ty := 3) (dT := 22) (sT := 22) (g := g2) (off := (i + 1) * 4) (dLen := cap + 1 - (i + 1)) (dCap := cap2 - (i + 1)) (sLen := cap - i) (sCap := cap - i) (sp := some ⟨g, i * 4, none⟩) (vs := xs.drop (i * 4)) (n := cap - i) Try.underlying22 s39
      (by simp only [Nat.min_def]; split <;> omega) Hd.out (fun _ => ⟨_, rfl, cells_at (H2.get 1 rfl) fun j u hj => by rw [List.getElem?_drop, ← C5.out, List.getElem?_take] at hj; split at hj; exact hj; cases hj⟩) H1.out H2.drew 0 rfl (by rw [Hd.out, hsl]; omega)
    clear hsl H2
    have H3 := Lib.hid H3
    go_region_law (refine step_copy rfl _ _ 22 22 rfl _ _ (by simp [Act.eval, Act.put]) (by simp [Act.eval, Act.put]) hr1 ?_)
    go_wp2_with fail
    go_ret
    refine ⟨_, rfl, ?_⟩
    obtain ⟨e1, e2⟩ := ins_grow (c := cur) (xs := xs) (new := new) (A := i * 4) (N := cap * 4) (s := 4) C4.out hc4.out (by omega) (by have := hc3.out; omega) Hn.out
    rw [show i * 4 + 4 = (i + 1) * 4 by omega] at e1 e2
    have H3 := H3.out.sel 3 [0, 2]
    have Hnl := Hn.out
    have Hxl := C4.out
    refine own_mk H3 hc1 hc2 (by rw [List.size_toArray, e2, hc3.out]) (by simp only [List.length_append, List.length_take, List.length_drop]; omega) ?_
    rw [show (cap + 1) * 4 = cap * 4 + 4 by omega]
    exact e1
theorem insL_end {v : Value} {n : Nat} {xs new : List Value} {gx : Nat} (hnl : new.length = 7) (h1n : ∀ u ∈ new, u.oneCell' = true) (hby : (n + 1) * 56 ≤ 140737488355328)
    (H : At w0 (OwnRow 53 7 v n xs :: Blk gx (.cells new.toArray 53 (0, 0)) :: L) w) :
    Calls Try.prog 45 #[v, .int .i64 n, .slice (some ⟨gx, 0, none⟩) 1 1] w (fun e w' => ∃ v', e = .returned v' ∧ At w0 (OwnRow 53 7 v' (n + 1) (xs ++ new) :: Blk gx (.cells new.toArray 53 (0, 0)) :: L) w') := by
  obtain ⟨ad, cap, rfl, c1, c2, c3, c4, c5⟩ := own_value H
  have Hn := Lib.hid hnl
  have H1 := Lib.hid h1n
  have c6 : n + 1 ≤ maxLen := by simp only [maxLen]; omega
  clear c3 c4 c5 hnl h1n
  go_enter Try.func45, Try.ntmps45
  go_wp2_with ((with_reducible refine k_builtin ?_); refine st_append rfl _ _ _ rfl 53 Try.underlying23 7 ?_ 56 ?_ _ z53 rfl _ _ _ rfl H (some ⟨gx, 0, none⟩) 1 1 new rfl Hn.out ?_ H1.out ?_ ?_ ?_; (kernel_rfl); (kernel_rfl); (intro _; exact ⟨_, rfl, cells_of (H.get 1 rfl)⟩); (omega); (omega); (clear H; intro v1 w2 H K hK; go_simp))
  all_goals (go_ret; exact ⟨_, rfl, H⟩)

theorem insL_mid {v : Value} {n i : Nat} {xs new : List Value} {gx : Nat} (hi : i < n) (hnl : new.length = 7) (h1 : ∀ u ∈ xs, u.oneCell' = true) (h1n : ∀ u ∈ new, u.oneCell' = true) (hby : (n + 1) * 56 ≤ 140737488355328)
    (H : At w0 (OwnRow 53 7 v n xs :: Blk gx (.cells new.toArray 53 (0, 0)) :: L) w) :
    Calls Try.prog 45 #[v, .int .i64 i, .slice (some ⟨gx, 0, none⟩) 1 1] w (fun e w' => ∃ v', e = .returned v' ∧ At w0 (OwnRow 53 7 v' (n + 1) (xs.take (i * 7) ++ new ++ xs.drop (i * 7)) :: Blk gx (.cells new.toArray 53 (0, 0)) :: L) w') := by
  rcases own_cases H with ⟨_, h0, _, _⟩ | ⟨g, cap, cur, rfl, c1, c2, c3, c4, c5, H2⟩
  · omega
  clear H
  obtain ⟨c, rfl⟩ : ∃ c : List Value, cur = c.toArray := ⟨cur.toList, by simp⟩
  have hcl : c.length = cap * 7 := by simpa using c3
  replace c5 : c.take (n * 7) = xs := by simpa using c5
  clear c3
  have hdl : (xs.drop (i * 7)).length = (n - i) * 7 := by rw [List.length_drop, c4]; omega
  have h1d : ∀ u ∈ xs.drop (i * 7), u.oneCell' = true := fun u hu => h1 u (List.mem_of_mem_drop hu)
  simp only [maxLen] at c2
  have hw1 : IntKind.i64.wrap ((i : Int) + 1) = (i : Int) + 1 := IntWalk.i64_in _ (by omega)
  have hw2 : IntKind.i64.wrap ((n : Int) + 1) = (n : Int) + 1 := IntWalk.i64_in _ (by omega)
  by_cases hroom : n + 1 ≤ cap
  · have hne : gx ≠ g := H2.ne01.symm
    have hov := fun lb cb => ovL w gx g ((i + 1) * 7) lb cb hne (H2.get 1 rfl) (H2.get 0 rfl) (by simp only [List.size_toArray]; omega)
    obtain ⟨w1, hr1, H3⟩ := copy_run (P := Try.prog) (w := w.drew) (ty := 3) (dT := 23) (sT := 23) (g := g) (off := (i + 1) * 7) (dLen := n + 1 - (i + 1)) (dCap := cap - (i + 1)) (sLen := n + 1 - i) (sCap := cap - i) (sp := some ⟨g, i * 7, none⟩) (vs := xs.drop (i * 7)) (n := n - i) Try.underlying23 s53
      (by simp only [Nat.min_def]; split <;> omega) hdl (fun _ => ⟨_, rfl, cells_at (H2.get 0 rfl) fun j u hj => by rw [List.getElem?_drop, ← c5, List.getElem?_take] at hj; split at hj; exact hj; cases hj⟩) h1d H2.drew 0 rfl (by rw [hdl]; omega)
    obtain ⟨w2, hr2, H4⟩ := copy_run (P := Try.prog) (w := w1) (ty := 3) (dT := 23) (sT := 23) (g := g) (off := i * 7) (dLen := n + 1 - i) (dCap := cap - i) (sLen := 1) (sCap := 1) (sp := some ⟨gx, 0, none⟩) (vs := new) (n := 1) Try.underlying23 s53
      (by simp only [Nat.min_def]; split <;> omega) hnl (fun _ => ⟨_, rfl, cells_of (H3.get 1 rfl)⟩) h1n H3 0 rfl (by rw [splice_len (by rw [hdl]; omega)]; omega)
    have hfin := Lib.hid (show ∀ w', At w0 (Blk g (.cells (splice (splice c ((i + 1) * 7) (xs.drop (i * 7))) (i * 7) new).toArray 53 (0, 0)) :: Blk gx (.cells new.toArray 53 (0, 0)) :: L) w' → At w0 (OwnRow 53 7 (.slice (some ⟨g, 0, none⟩) (n + 1) cap) (n + 1) (xs.take (i * 7) ++ new ++ xs.drop (i * 7)) :: Blk gx (.cells new.toArray 53 (0, 0)) :: L) w' from fun w' H => by
      obtain ⟨e1, e2⟩ := ins_room (A := i * 7) (N := n * 7) (s := 7) c5 (by omega) (by omega) hnl
      rw [show i * 7 + 7 = (i + 1) * 7 by omega] at e1 e2
      refine own_mk H hroom (by simp only [maxLen]; omega) (by rw [List.size_toArray, e2, hcl]) (by simp only [List.length_append, List.length_take, List.length_drop]; omega) ?_
      rw [show (n + 1) * 7 = n * 7 + 7 by omega]
      exact e1)
    have H4 := Lib.hid H4
    have k1 : ¬ (cap = i) := by omega
    have k2 : ¬ (cap = i + 1) := by omega
    have k3 : ¬ ((i : Int) = n) := by omega
    have k4 : ((i : Int) + 1).toNat = i + 1 := by omega
    have k5 : (0 : Int) ≤ (i : Int) + 1 := by omega
    have k6 : i ≤ n := by omega
    have k7 : (i : Int) ≤ (n : Int) + 1 := by omega
    have k8 : (i : Int) ≤ n := by omega
    clear H2 H3 h1 h1n h1d hdl c4 c5 hnl
    go_enter Try.func45, Try.ntmps45
    go_wp2_with (simp only [hov])
    go_region_law (refine step_copy rfl _ _ 23 23 rfl _ _ (by simp [Act.eval, Act.put]) (by simp [Act.eval, Act.put]) hr1 ?_)
    go_wp2_with ((with_reducible refine k_builtin ?_); refine st_copyEq rfl _ _ 23 23 rfl _ _ rfl rfl hr2 ?_; (intro K hK; go_simp))
    go_ret
    exact ⟨_, rfl, hfin.out _ H4.out⟩
  · obtain rfl : cap = n := by omega
    have hcell := Lib.hid (show 0 < i → ∃ b, (some (⟨g, 0, none⟩ : Addr)) = some b ∧ ∀ j v, (xs.take (i * 7))[j]? = some v → w.cell? (b.add j) = some v from fun _ => ⟨_, rfl, fun j u hj => by
      rw [List.getElem?_take] at hj
      split at hj
      · rw [← c5, List.getElem?_take] at hj
        split at hj
        · exact cells_of (H2.get 0 rfl) j u hj
        · cases hj
      · cases hj⟩)
    have hol := Lib.hid (show (xs.take (i * 7)).length = i * 7 by rw [List.length_take]; omega)
    have hw3 : IntKind.i64.wrap ((cap : Int) + 1 - (i : Int)) = (cap : Int) + 1 - (i : Int) := IntWalk.i64_in _ (by omega)
    have hik : i + (cap + 1 - i) = cap + 1 := by omega
    have k1 : ¬ (cap = i) := by omega
    have k0 : ¬ (cap = 0) := by omega
    have k3 : ¬ ((i : Int) = cap) := by omega
    have k4 : ((i : Int) + 1).toNat = i + 1 := by omega
    have k5 : (0 : Int) ≤ (i : Int) + 1 := by omega
    have k6 : i ≤ cap := by omega
    have k7 : (i : Int) ≤ (cap : Int) + 1 := by omega
    have k8 : (i : Int) ≤ cap := by omega
    have k9 : (cap : Int) < (cap : Int) + 1 := by omega
    have Hd := Lib.hid hdl
    have H1 := Lib.hid h1d
    have Hn := Lib.hid hnl
    have H1n := Lib.hid h1n
    have C4 := Lib.hid c4
    have C5 := Lib.hid c5
    have Hcl := Lib.hid hcl
    clear hdl h1d hnl h1n c4 c5 h1 hcl
    go_enter Try.func45, Try.ntmps45
    go_wp2_with (first | ((with_reducible refine k_builtin ?_); refine st_appendZ rfl _ _ 23 3 rfl 53 Try.underlying23 Try.underlying3 7 s53 56 bytes53 _ z53 rfl (by decide) (some ⟨g, 0, none⟩) i cap (cap + 1 - i) _ rfl rfl (by omega) (xs.take (i * 7)) hol.out hcell.out (by omega) (by omega) (by simp only [maxLen]; omega) (by rw [hik]; exact hby) H2 ?_; (clear H2; intro g2 cap2 cur w hc1 hc2 hc3 hc4 H2 K hK; rw [hik] at hc1; rw [hik]; have hc3 := Lib.hid hc3; have hc4 := Lib.hid hc4; have q1 : ¬ (cap2 = i) := (by omega); have q2 : ¬ (cap2 = i + 1) := (by omega); go_simp))        | ((with_reducible refine k_builtin ?_); refine st_copyR rfl _ _ 23 23 rfl 53 Try.underlying23 7 s53 g2 (i * 7) (cap + 1 - i) (cap2 - i) 1 1 (some ⟨gx, 0, none⟩) rfl rfl new 1 (by simp only [Nat.min_def]; split <;> omega) Hn.out (fun _ => ⟨_, rfl, cells_of (H2.get 2 rfl)⟩) H1n.out H2 0 rfl (by have := hc3.out; have := Hn.out; omega) ?_; (clear H2; intro w H2 K hK; go_simp)))
    have hsl : (splice cur (i * 7) new).length = cap2 * 7 := by have := hc3.out; have := Hn.out; rw [splice_len (by omega)]; omega
    obtain ⟨w1, hr1, H3⟩ := copy_run (P := Try.prog) (w := w.drew) (ty := 3) (dT := 23) (sT := 23) (g := g2) (off := (i + 1) * 7) (dLen := cap + 1 - (i + 1)) (dCap := cap2 - (i + 1)) (sLen := cap - i) (sCap := cap - i) (sp := some ⟨g, i * 7, none⟩) (vs := xs.drop (i * 7)) (n := cap - i) Try.underlying23 s53
      (by simp only [Nat.min_def]; split <;> omega) Hd.out (fun _ => ⟨_, rfl, cells_at (H2.get 1 rfl) fun j u hj => by rw [List.getElem?_drop, ← C5.out, List.getElem?_take] at hj; split at hj; exact hj; cases hj⟩) H1.out H2.drew 0 rfl (by rw [Hd.out, hsl]; omega)
    clear hsl H2
    have H3 := Lib.hid H3
    go_region_law (refine step_copy rfl _ _ 23 23 rfl _ _ (by simp [Act.eval, Act.put]) (by simp [Act.eval, Act.put]) hr1 ?_)
    go_wp2_with fail
    go_ret
    refine ⟨_, rfl, ?_⟩
    obtain ⟨e1, e2⟩ := ins_grow (c := cur) (xs := xs) (new := new) (A := i * 7) (N := cap * 7) (s := 7) C4.out hc4.out (by omega) (by have := hc3.out; omega) Hn.out
    rw [show i * 7 + 7 = (i + 1) * 7 by omega] at e1 e2
    have H3 := H3.out.sel 3 [0, 2]
    have Hnl := Hn.out
    have Hxl := C4.out
    refine own_mk H3 hc1 hc2 (by rw [List.size_toArray, e2, hc3.out]) (by simp only [List.length_append, List.length_take, List.length_drop]; omega) ?_
    rw [show (cap + 1) * 7 = cap * 7 + 7 by omega]
    exact e1

theorem delE_raw {v : Value} {i m : Nat} {xs : List Value} (h1 : ∀ u ∈ xs, u.oneCell' = true) (hby : (i + 1 + m) * 40 ≤ 140737488355328)
    (H : At w0 (OwnRow 39 4 v (i + 1 + m) xs :: L) w) :
    Calls Try.prog 57 #[v, .int .i64 i, .int .i64 ((i : Int) + 1)] w (fun e w' => ∃ v', e = .returned v' ∧ At w0 (OwnRow 39 4 v' (i + m) (xs.take (i * 4) ++ xs.drop ((i + 1) * 4)) :: L) w') := by
  rcases own_cases H with ⟨_, h0, _, _⟩ | ⟨g, cap, cur, rfl, c1, c2, c3, c4, c5, H2⟩
  · omega
  clear H
  obtain ⟨c, rfl⟩ : ∃ c : List Value, cur = c.toArray := ⟨cur.toList, by simp⟩
  have hcl : c.length = cap * 4 := by simpa using c3
  replace c5 : c.take ((i + 1 + m) * 4) = xs := by simpa using c5
  clear c3
  have hdl : (xs.drop ((i + 1) * 4)).length = m * 4 := by rw [List.length_drop, c4]; omega
  have h1d : ∀ u ∈ xs.drop ((i + 1) * 4), u.oneCell' = true := fun u hu => h1 u (List.mem_of_mem_drop hu)
  simp only [maxLen] at c2
  have hsl : (splice c (i * 4) (xs.drop ((i + 1) * 4))).length = cap * 4 := by rw [splice_len (by rw [hdl]; omega)]; exact hcl
  have hfin := Lib.hid (show ∀ w' (zs : List Value), zs.length = 1 * 4 → At w0 (Blk g (.cells (splice (splice c (i * 4) (xs.drop ((i + 1) * 4))) ((i + m) * 4) zs).toArray 39 (0, 0)) :: L) w' → At w0 (OwnRow 39 4 (.slice (some ⟨g, 0, none⟩) (i + m) cap) (i + m) (xs.take (i * 4) ++ xs.drop ((i + 1) * 4)) :: L) w' from fun w' zs hz H => by
    refine own_mk H (by omega) (by simp only [maxLen]; omega) (by rw [List.size_toArray, splice_len (by omega), hsl]) (by simp only [List.length_append, List.length_take, List.length_drop]; omega) ?_
    show (splice (splice c (i * 4) (xs.drop ((i + 1) * 4))) ((i + m) * 4) zs).take ((i + m) * 4) = _
    generalize hc1 : splice c (i * 4) (xs.drop ((i + 1) * 4)) = c1 at *
    rw [splice_eq, List.append_assoc, List.take_append_of_le_length (by rw [List.length_take]; omega), List.take_take, Nat.min_self, ← hc1, splice_eq, take_of c5 (by omega), List.take_append_of_le_length (by simp only [List.length_append, List.length_take, List.length_drop]; omega)]
    exact List.take_of_length_le (by simp only [List.length_append, List.length_take, List.length_drop]; omega))
  have k2 : ¬ (cap = i) := by omega
  have k3 : ¬ (cap = i + m) := by omega
  have k0 : ¬ (cap = 0) := by omega
  have k4 : ((i : Int) + 1).toNat = i + 1 := by omega
  have k5 : (0 : Int) ≤ (i : Int) + 1 := by omega
  have k6 : i ≤ cap := by omega
  have k7 : (i : Int) ≤ (i : Int) + 1 := by omega
  have k8 : (i : Int) ≤ cap := by omega
  have k9 : (i : Int) + 1 ≤ (i : Int) + 1 + m := by omega
  have k10 : (i : Int) + 1 + m ≤ cap := by omega
  have k11 : (i : Int) + m ≤ (i : Int) + 1 + m := by omega
  have k12 : (0 : Int) ≤ (i : Int) + m := by omega
  have k13 : (0 : Int) ≤ (i : Int) + 1 + m := by omega
  have k14 : ((i : Int) + 1 + m).toNat = i + 1 + m := by omega
  have k15 : ((i : Int) + m).toNat = i + m := by omega
  have k16 : i + 1 + m - (i + m) = 1 := by omega
  have k17 : i + 1 + m - (i + 1) = m := by omega
  have Hsl := Lib.hid hsl
  by_cases hm : m = 0
  · subst hm
    have e0 : xs.drop ((i + 1) * 4) = [] := List.eq_nil_of_length_eq_zero (by omega)
    have e1 : splice c (i * 4) (xs.drop ((i + 1) * 4)) = c := by rw [e0]; simp [splice]
    have hfin2 := Lib.hid (show ∀ w' (zs : List Value), zs.length = 1 * 4 → At w0 (Blk g (.cells (splice c (i * 4) zs).toArray 39 (0, 0)) :: L) w' → At w0 (OwnRow 39 4 (.slice (some ⟨g, 0, none⟩) i cap) i (xs.take (i * 4) ++ xs.drop ((i + 1) * 4)) :: L) w' from fun w' zs hz H => hfin.out w' zs hz (by rw [e1]; exact H))
    have Hcl := Lib.hid hcl
    have HF := H2.drew
    have hr2 := fun ad cc => run_append_none (P := Try.prog) (w := w.drew) (ty := 22) Try.underlying22 s39 (.slice (some ⟨g, 0, none⟩) i cap) ad i cap cc _ rfl (by omega)
    clear H2 h1 h1d hdl c4 c5 hcl hsl hfin e0 e1 Hsl k16 k17 k14 k15 k9 k10 k11 k12 k13 k3
    by_cases hci : cap = i + 1
    · subst hci
      go_enter Try.func57, Try.ntmps57
      go_wp2_with fail
      go_region_law (refine step_append rfl _ _ 22 22 rfl _ _ (by simp [Act.eval, Act.put]) (by simp [Act.eval, Act.put]) (hr2 (some ⟨g, 0, none⟩) 0) ?_)
      go_wp2_with ((with_reducible refine k_builtin ?_); refine st_clear rfl _ 22 rfl 39 Try.underlying22 4 _ z39 rfl (by decide) g (i * 4) 1 1 rfl (by decide) HF 0 rfl (by have := Hcl.out; omega) ?_; (clear HF; intro zs w hz H3 K hK; go_simp))
      go_ret
      exact ⟨_, rfl, hfin2.out _ zs hz H3⟩
    · have k18 : i + 1 - i = 1 := by omega
      go_enter Try.func57, Try.ntmps57
      go_wp2_with fail
      go_region_law (refine step_append rfl _ _ 22 22 rfl _ _ (by simp [Act.eval, Act.put]) (by simp [Act.eval, Act.put]) (hr2 (some ⟨g, (i + 1) * 4, none⟩) (cap - (i + 1))) ?_)
      go_wp2_with ((with_reducible refine k_builtin ?_); refine st_clear rfl _ 22 rfl 39 Try.underlying22 4 _ z39 rfl (by decide) g (i * 4) 1 (cap - i) rfl (by decide) HF 0 rfl (by have := Hcl.out; omega) ?_; (clear HF; intro zs w hz H3 K hK; go_simp))
      go_ret
      exact ⟨_, rfl, hfin2.out _ zs hz H3⟩
  · have k18 : ¬ (cap = i + 1) := by omega
    have hr2 := app_run (P := Try.prog) (w := w.drew) (s := 22) (ty := 22) (m := i) (cap := cap) (k := m) (c' := cap - (i + 1)) Try.underlying22 s39 (H2.get 0 rfl) ⟨g, (i + 1) * 4, none⟩ (xs.drop ((i + 1) * 4)) hdl
      (cells_at (H2.get 0 rfl) fun j u hj => by rw [List.getElem?_drop, ← c5, List.getElem?_take] at hj; split at hj; exact hj; cases hj) h1d (by omega) (by rw [hdl, hcl]; omega)
    have H3 : At w0 (Blk g (.cells (splice c (i * 4) (xs.drop ((i + 1) * 4))).toArray 39 (0, 0)) :: L) (w.drew.setRow g (splice c (i * 4) (xs.drop ((i + 1) * 4))).toArray) := H2.drew.setRow0
    generalize w.drew.setRow g (splice c (i * 4) (xs.drop ((i + 1) * 4))).toArray = w1 at H3 hr2
    clear H2 h1 h1d hdl c4 c5 hcl hsl
    go_enter Try.func57, Try.ntmps57
    go_wp2_with fail
    go_region_law (refine step_append rfl _ _ 22 22 rfl _ _ (by simp [Act.eval, Act.put]) (by simp [Act.eval, Act.put]) hr2 ?_)
    go_wp2_with ((with_reducible refine k_builtin ?_); refine st_clear rfl _ 22 rfl 39 Try.underlying22 4 _ z39 rfl (by decide) g ((i + m) * 4) 1 (cap - (i + m)) rfl (by decide) H3 0 rfl (by have := Hsl.out; omega) ?_; (clear H3; intro zs w hz H3 K hK; go_simp))
    go_ret
    exact ⟨_, rfl, hfin.out _ zs hz H3⟩
end
end Bk
end Go.Proofs.Ytcofcikdknmggaa
