/-
  What the law BucketReplays asks besides: rows of commands of the call's own, slices of a row, appended rows of answers, a cut's place.
-/
import Derived.Test.YtcofcikdknmggaaBkRRep
namespace Go.Proofs.Ytcofcikdknmggaa
open Go.Hp Go.RowKit
set_option linter.unusedVariables false
set_option linter.unusedSimpArgs false
set_option maxRecDepth 100000
set_option maxHeartbeats 2000000
namespace Bk

theorem cr_len : ∀ (l : List La) (lo : Int), CR l → (∀ x ∈ l, lo ≤ x.cl ∧ x.cl ≤ 255) → lo ≤ 256 → (l.length : Int) ≤ 256 - lo
  | [], lo, _, _, h => by simp; omega
  | y :: l, lo, h, ha, hlo => by
    unfold CR at h
    obtain ⟨h1, h2⟩ := List.pairwise_cons.1 h
    have hy := ha y (by simp)
    have := cr_len l (lo + 1) h2 (fun x hx => by have := h1 x hx; have := (ha x (by simp [hx])).2; omega) (by omega)
    simp only [List.length_cons]
    omega
theorem vb_ls {b : Bu} (h : VB b) : b.ls.length ≤ 255 := by
  obtain ⟨h1, h2, h3, ⟨h4, h5⟩, h6, h7⟩ := vb_iff.1 h
  have := cr_len b.ls 1 h6 (fun x hx => inB_le (h7 x hx).cl) (by decide)
  omega

theorem bytes29 : bytesT Try.prog 29 = some 80 := by kernel_rfl
theorem Cm.fits (c : Cm) : Fits cmdK c.cells := ⟨⟨_, rfl⟩, ⟨_, rfl⟩, ⟨_, rfl⟩, ⟨_, rfl⟩, ⟨_, rfl⟩, ⟨_, rfl⟩, ⟨_, rfl⟩, ⟨_, rfl⟩, ⟨_, rfl⟩, trivial⟩
def cC (l : List Cm) : List Value := (l.map Cm.cells).flatten
def cm0 : Cm := ⟨0, 0, 0, ⟨#[]⟩, 0, 0, 0, 0, 0⟩
theorem cC_len (l : List Cm) : (cC l).length = l.length * 9 := by
  unfold cC
  rw [flat_len (size := 9) (by intro r hr; obtain ⟨e, _, rfl⟩ := List.mem_map.1 hr; rfl), List.length_map]
theorem cC_one (l : List Cm) : ∀ u ∈ cC l, u.oneCell' = true := by
  intro u hu
  obtain ⟨r, hr, hu2⟩ := List.mem_flatten.1 hu
  obtain ⟨c, _, rfl⟩ := List.mem_map.1 hr
  simp only [Cm.cells, List.mem_cons, List.not_mem_nil, or_false] at hu2
  rcases hu2 with rfl | rfl | rfl | rfl | rfl | rfl | rfl | rfl | rfl <;> rfl
theorem cC_set {m : List Cm} {k : Nat} (hk : k < m.length) (c : Cm) : (cC m).take (k * 9) ++ c.cells ++ (cC m).drop (k * 9 + 9) = cC (m.set k c) := by
  unfold cC
  rw [flatten_set (size := 9) (rs := m.map Cm.cells) (i := k) (r := c.cells) (by intro r hr; obtain ⟨e, _, rfl⟩ := List.mem_map.1 hr; rfl) (by rw [List.length_map]; exact hk) rfl, List.map_set]

section
variable {w0 w W : World} {L : List HProp}
theorem oc_recs {v : Value} {l : List Cm} {n : Nat} (hn : n = l.length) (H : At w0 (OwnRow 29 9 v n (cC l) :: L) w) : RecsAt w v 9 (l.map Cm.cells) := by
  subst hn
  obtain ⟨ad, cap, h1, h2, h3, h4, h5, h6⟩ := own_value H
  exact ⟨⟨ad, cap, by rw [List.length_map]; exact h1, by rw [List.length_map]; exact h2, h3, by rw [List.length_map]; exact h5, h6⟩, by intro r hr; obtain ⟨e, _, rfl⟩ := List.mem_map.1 hr; rfl⟩
end

/-- Where a slice of a slice begins. -/
def cutA (cap l size : Nat) (ad : Option Addr) : Option Addr := if cap = l then ad else ad.map (·.add (l * size))

theorem recs_to {w : World} {ad : Option Addr} {n cap size k : Nat} {rs : List (List Value)} (h : RecsAt w (.slice ad n cap) size rs) (hn : n = rs.length) (hk : k ≤ n) : RecsAt w (.slice (cutA cap 0 size ad) k cap) size (rs.take k) := by
  subst hn
  obtain ⟨⟨ad1, cap1, hv, h2, h3, h4, h5⟩, h6⟩ := h
  cases hv
  have hl : (rs.take k).length = k := by rw [List.length_take]; omega
  refine ⟨⟨cutA cap 0 size ad, cap, by rw [hl], by rw [hl]; omega, h3, fun h0 => ?_, fun b hb j u hj => ?_⟩, fun r hr => h6 r (List.mem_of_mem_take hr)⟩
  · rw [hl] at h0
    obtain ⟨b, rfl⟩ := h4 (by omega)
    unfold cutA
    split
    · exact ⟨_, rfl⟩
    · exact ⟨_, rfl⟩
  · have hj2 : rs.flatten[j]? = some u := by
      have e : rs.flatten = (rs.take k).flatten ++ (rs.drop k).flatten := by rw [← List.flatten_append, List.take_append_drop]
      rw [e, List.getElem?_append_left (List.getElem?_eq_some_iff.1 hj).1]
      exact hj
    unfold cutA at hb
    split at hb
    · exact h5 b hb j u hj2
    · cases ad with
      | none => cases hb
      | some b0 =>
        cases hb
        rw [Addr.add_add, Nat.zero_mul, Nat.zero_add]
        exact h5 b0 rfl j u hj2

theorem recs_from {w : World} {ad : Option Addr} {n cap size k : Nat} {rs : List (List Value)} (h : RecsAt w (.slice ad n cap) size rs) (hn : n = rs.length) (hk : k ≤ n) : RecsAt w (.slice (cutA cap k size ad) (n - k) (cap - k)) size (rs.drop k) := by
  subst hn
  obtain ⟨⟨ad1, cap1, hv, h2, h3, h4, h5⟩, h6⟩ := h
  cases hv
  have hl : (rs.drop k).length = rs.length - k := List.length_drop
  refine ⟨⟨cutA cap k size ad, cap - k, by rw [hl], by rw [hl]; omega, by omega, fun h0 => ?_, fun b hb j u hj => ?_⟩, fun r hr => h6 r (List.mem_of_mem_drop hr)⟩
  · rw [hl] at h0
    obtain ⟨b, rfl⟩ := h4 (by omega)
    unfold cutA
    split
    · exact ⟨_, rfl⟩
    · exact ⟨_, rfl⟩
  · have hlt : (rs.take k).flatten.length = k * size := by
      rw [flat_len (size := size) (fun r hr => h6 r (List.mem_of_mem_take hr)), List.length_take, Nat.min_eq_left hk]
    have hj2 : rs.flatten[k * size + j]? = some u := by
      have e : rs.flatten = (rs.take k).flatten ++ (rs.drop k).flatten := by rw [← List.flatten_append, List.take_append_drop]
      rw [e, List.getElem?_append_right (by omega), hlt, Nat.add_sub_cancel_left]
      exact hj
    unfold cutA at hb
    split at hb
    · rename_i hc
      exfalso
      have hd : rs.drop k = [] := List.drop_of_length_le (by omega)
      rw [hd] at hj
      simp at hj
    · cases ad with
      | none => cases hb
      | some b0 =>
        cases hb
        rw [Addr.add_add]
        exact h5 b0 rfl _ u hj2

section
variable {P : Program} {T : TypeId} {o : Oper} {w : World} {Tm : Array Value} {ds : List Deferred} {K : Act → World → Prop} {Q : Exit → Act → World → Prop} {t u : Tmp}
theorem op_sliceTo {e : TypeId} {ad : Option Addr} {n cap k size : Nat} (ho : o.op = .slice T (.tmp t) none (some (.tmp u)) none) (hx : Tm[t]?.getD undef = .slice ad n cap) (hy : Tm[u]?.getD undef = .int .i64 k) (hT : P.underlying T = some (.slice e)) (hs : sizeT P e = some size) (hk : k ≤ cap)
    (h : K (Act.put ⟨Tm, ds⟩ o.dst (.slice (cutA cap 0 size ad) k cap)) w) : o.wp P ⟨Tm, ds⟩ w K Q := by
  have hx' : Act.eval ⟨Tm, ds⟩ (.tmp t) = .slice ad n cap := by simpa [Act.eval] using hx
  have hy' : Act.eval ⟨Tm, ds⟩ (.tmp u) = .int .i64 k := by simpa [Act.eval] using hy
  have hb : ∀ code, (Instr.sliceBound (.int .i64 (k : Int)) cap code).run P w = .ok k w := fun code => by
    rw [run_sliceBound (w := w) (k := .i64) (i := (k : Int)) (y := cap) (code := code) (by omega) (by omega)]
    rfl
  refine op_value (v := .slice (cutA cap 0 size ad) k cap) (w' := w) ?_ h
  simp [execOp, ho, hx', hy', Instr.sliceAt, Instr.slice, run_underlying hT, Instr.sliceBounds, Go.Hp.run_sizeOf (w := w) hs, hb, cutA]
theorem op_sliceFrom {e : TypeId} {ad : Option Addr} {n cap k size : Nat} (ho : o.op = .slice T (.tmp t) (some (.tmp u)) none none) (hx : Tm[t]?.getD undef = .slice ad n cap) (hy : Tm[u]?.getD undef = .int .i64 k) (hT : P.underlying T = some (.slice e)) (hs : sizeT P e = some size) (hk : k ≤ n)
    (h : K (Act.put ⟨Tm, ds⟩ o.dst (.slice (cutA cap k size ad) (n - k) (cap - k))) w) : o.wp P ⟨Tm, ds⟩ w K Q := by
  have hx' : Act.eval ⟨Tm, ds⟩ (.tmp t) = .slice ad n cap := by simpa [Act.eval] using hx
  have hy' : Act.eval ⟨Tm, ds⟩ (.tmp u) = .int .i64 k := by simpa [Act.eval] using hy
  have hb : ∀ code, (Instr.sliceBound (.int .i64 (k : Int)) n code).run P w = .ok k w := fun code => by
    rw [run_sliceBound (w := w) (k := .i64) (i := (k : Int)) (y := n) (code := code) (by omega) (by omega)]
    rfl
  refine op_value (v := .slice (cutA cap k size ad) (n - k) (cap - k)) (w' := w) ?_ h
  simp [execOp, ho, hx', hy', Instr.sliceAt, Instr.slice, run_underlying hT, Instr.sliceBounds, Go.Hp.run_sizeOf (w := w) hs, hb, cutA]
end

/-- What the program's Replay hands back. -/
def RqH (R : (Int × List An) × Bu) (v : Value) : HProp := fun hp => ∃ (a1 : Option Addr) (n1 c1 : Nat) (a2 : Option Addr) (n2 c2 : Nat) (a3 : Option Addr) (n3 c3 : Nat), v = .tuple #[.agg #[.int .i64 R.2.u, .slice a1 n1 c1, .slice a2 n2 c2], .slice a3 n3 c3, .int .i64 R.1.1] ∧ Stars [OE (.slice a1 n1 c1) R.2.es, OL (.slice a2 n2 c2) R.2.ls, AnsRow (.slice a3 n3 c3) R.1.2] hp
section
variable {w0 w W : World} {L : List HProp}
theorem rqh_mk {R : (Int × List An) × Bu} {v1 v2 v3 : Value} (H : At w0 (OE v1 R.2.es :: OL v2 R.2.ls :: AnsRow v3 R.1.2 :: L) w) : At w0 (RqH R (.tuple #[.agg #[.int .i64 R.2.u, v1, v2], v3, .int .i64 R.1.1]) :: L) w := by
  obtain ⟨a1, n1, c1, rfl⟩ := own_form H
  obtain ⟨a2, n2, c2, rfl⟩ := own_form (H.pick 1 rfl)
  obtain ⟨a3, n3, c3, rfl, _⟩ := ansrow_form (H.pick 2 rfl)
  exact At.imp (At.fold (M := [_, _, _]) H) fun _ hh => ⟨a1, n1, c1, a2, n2, c2, a3, n3, c3, rfl, hh⟩
theorem rqh_open {R : (Int × List An) × Bu} {v : Value} (H : At w0 (RqH R v :: L) w) : ∃ (a1 : Option Addr) (n1 c1 : Nat) (a2 : Option Addr) (n2 c2 : Nat) (a3 : Option Addr) (n3 c3 : Nat), v = .tuple #[.agg #[.int .i64 R.2.u, .slice a1 n1 c1, .slice a2 n2 c2], .slice a3 n3 c3, .int .i64 R.1.1] ∧ At w0 (OE (.slice a1 n1 c1) R.2.es :: OL (.slice a2 n2 c2) R.2.ls :: AnsRow (.slice a3 n3 c3) R.1.2 :: L) w := by
  obtain ⟨a1, H⟩ := At.ex H
  obtain ⟨n1, H⟩ := At.ex H
  obtain ⟨c1, H⟩ := At.ex H
  obtain ⟨a2, H⟩ := At.ex H
  obtain ⟨n2, H⟩ := At.ex H
  obtain ⟨c2, H⟩ := At.ex H
  obtain ⟨a3, H⟩ := At.ex H
  obtain ⟨n3, H⟩ := At.ex H
  obtain ⟨c3, H⟩ := At.ex H
  obtain ⟨hv, H⟩ := At.and H
  exact ⟨a1, n1, c1, a2, n2, c2, a3, n3, c3, hv, At.flat H⟩

theorem ansC_one {xs : List (An × Value)} (H : At w0 (Pool xs :: L) w) : ∀ u ∈ ansC xs, u.oneCell' = true := by
  intro u hu
  unfold ansC at hu
  obtain ⟨r, hr, hu2⟩ := List.mem_flatten.1 hu
  obtain ⟨x, hx, rfl⟩ := List.mem_map.1 hr
  obtain ⟨k, hk⟩ := List.getElem?_of_mem hx
  obtain ⟨ad, cap, hv, _⟩ := (pool_get hk H).value
  simp only [anC, List.mem_cons, List.not_mem_nil, or_false] at hu2
  rcases hu2 with rfl | rfl | rfl | rfl | rfl | rfl
  · rfl
  · rfl
  · rfl
  · rfl
  · rfl
  · rw [hv]; rfl
theorem ansrow_app {v : Value} {xs ys : List (An × Value)} (H : At w0 (OwnRow 41 6 v (xs.length + ys.length) (ansC xs ++ ansC ys) :: Pool xs :: Pool ys :: L) w) : At w0 (AnsRow v (xs.map Prod.fst ++ ys.map Prod.fst) :: L) w := by
  have H1 : At w0 (Pool xs :: Pool ys :: OwnRow 41 6 v (xs.length + ys.length) (ansC xs ++ ansC ys) :: L) w := H.perm (List.Perm.trans (List.Perm.swap _ _ _) (List.Perm.cons _ (List.Perm.swap _ _ _)))
  have H2 := pool_app H1
  rw [← List.map_append]
  refine ansrow_mk (H := ?_)
  rw [ansC_app, List.length_append]
  exact H2.perm (List.Perm.swap _ _ _)
end

theorem mod_in {cut : Int} {n : Nat} (hn : 0 < n) : -(n : Int) < cut.tmod n ∧ cut.tmod n < n :=
  ⟨Int.lt_tmod_of_pos _ (by omega), Int.tmod_lt_of_pos _ (by omega)⟩
end Bk
end Go.Proofs.Ytcofcikdknmggaa
