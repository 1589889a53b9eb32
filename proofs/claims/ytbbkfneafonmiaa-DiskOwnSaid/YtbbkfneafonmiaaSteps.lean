/-
  What arguments of these statements read as.
-/
import Derived.Test.YtbbkfneafonmiaaRows
import Derived.Test.YtbbkfneafonmiaaFrame
import Derived.Outline
namespace Go.Proofs.Ytbbkfneafonmiaa
open Go.Hp Go.RowKit Go.ChangeShapes Go.Deep
set_option linter.unusedVariables false
set_option linter.unusedSimpArgs false
namespace Lw

structure StepV where
  kind : Int
  n : Int
  m : Int
  dv : Value
  data : List UInt8
  deriving Inhabited

def In64 (n : Int) : Prop := -9223372036854775808 ≤ n ∧ n ≤ 9223372036854775807

structure StepOk (w : World) (a : Addr) (s : StepV) : Prop where
  c0 : w.cell? (a.add 0) = some (.int .i64 s.kind)
  c1 : w.cell? (a.add 1) = some (.int .i64 s.n)
  c2 : w.cell? (a.add 2) = some (.int .i64 s.m)
  c3 : w.cell? (a.add 3) = some s.dv
  d : BytesAt w s.dv s.data
  k64 : In64 s.kind
  n64 : In64 s.n
  m64 : In64 s.m
  len : s.data.length ≤ reachBytes

def StepsAt (w : World) (v : Value) (l : List StepV) : Prop :=
  ∃ ad cap, v = .slice ad l.length cap ∧ l.length ≤ cap ∧ cap ≤ maxLen ∧ ∀ (i : Nat) s, l[i]? = some s → ∃ b, ad = some b ∧ StepOk w (b.add (i * 4)) s

variable {H : Type} {enc : TypeId × Value → H} {W : World}

theorem int_range {n : Int} (h : (Lit.int .i64 n).wf = true) : In64 n := by
  simp only [Lit.wf, Bool.and_eq_true, decide_eq_true_eq] at h
  have h1 := h.1
  have h2 := h.2
  have e1 : IntKind.i64.min = -9223372036854775808 := rfl
  have e2 : IntKind.i64.max = 9223372036854775807 := rfl
  rw [e1] at h1
  rw [e2] at h2
  exact ⟨h1, h2⟩

theorem cells_int : Try.prog.cellsOf 3 = 1 := by kernel_rfl
theorem cells_bytes : Try.prog.cellsOf 33 = 1 := by kernel_rfl
theorem cells_u8 : Try.prog.cellsOf 5 = 1 := by kernel_rfl
theorem bytes_u8 : Try.prog.bytesOf 5 = 1 := by kernel_rfl
theorem cells_Step : Try.prog.cellsOf 35 = 4 := by kernel_rfl

theorem step_of_trod {fuel : Nat} {cs : List Value} {x : DataW H × List MemPlace} (h : DataW.trod enc Try.prog W 0 (fun _ => true) true fuel 35 cs = some x) :
    ∃ s : StepV, cs = [.int .i64 s.kind, .int .i64 s.n, .int .i64 s.m, s.dv] ∧ BytesAt W s.dv s.data ∧ In64 s.kind ∧ In64 s.n ∧ In64 s.m ∧ ∀ B, (x.1.weights Try.prog 35).all (· ≤ B) = true → s.data.length ≤ B := by
  obtain ⟨xs, n, rfl, rfl, hl, hxl, hx⟩ := DataW.trod_struct Try.underlying35 h
  rw [cells_Step] at hl
  match cs, hl with
  | [a, b, c, d], _ =>
    match xs, hxl with
    | [x0, x1, x2, x3], _ =>
      have h0 := hx 0 _ rfl
      have h1 := hx 1 _ rfl
      have h2 := hx 2 _ rfl
      have h3 := hx 3 _ rfl
      simp only [cells_int, cells_bytes, List.drop_zero, List.drop_succ_cons, List.take_succ_cons, List.take_zero, List.getElem?_cons_zero, List.getElem?_cons_succ] at h0 h1 h2 h3
      obtain ⟨n0, e0, _, w0⟩ := DataW.trod_int Try.underlying3 h0
      obtain ⟨n1, e1, _, w1⟩ := DataW.trod_int Try.underlying3 h1
      obtain ⟨n2, e2, _, w2⟩ := DataW.trod_int Try.underlying3 h2
      obtain ⟨l, v, e3, hb, hw⟩ := bytes_of_trod Try.underlying33 Try.underlying5 cells_u8 bytes_u8 h3
      cases e0
      cases e1
      cases e2
      cases e3
      refine ⟨⟨n0, n1, n2, _, l⟩, rfl, hb, int_range w0, int_range w1, int_range w2, fun B hB => hw B ?_⟩
      simp only [DataW.weights, Try.underlying35, List.map_cons, List.map_nil, DataW.weightsEach, List.append_nil] at hB
      simp only [List.all_append, Bool.and_eq_true] at hB
      exact hB.2.2.2

theorem all_weights {P : Program} {e : TypeId} {B : Nat} : ∀ {l : List (DataW H)}, (DataW.weightsAll P e l).all (· ≤ B) = true → ∀ d ∈ l, (d.weights P e).all (· ≤ B) = true
  | [], _, _, h => by simp at h
  | d :: l, hB, d', h => by
    simp only [DataW.weightsAll, List.all_append, Bool.and_eq_true] at hB
    rcases List.mem_cons.1 h with rfl | h
    · exact hB.1
    · exact all_weights hB.2 d' h

theorem steps_of_trod {fuel : Nat} {cs : List Value} {x : DataW H × List MemPlace} (h : DataW.trod enc Try.prog W 0 (fun _ => true) true fuel 25 cs = some x) (hw : (x.1.weights Try.prog 25).all (· ≤ reachBytes) = true) :
    ∃ l v, cs = [v] ∧ StepsAt W v l := by
  rcases open_slice Try.underlying25 h with ⟨rfl, rfl⟩ | ⟨a, len, cap, m, n, D, Pl, rfl, _, hle, hm, hmm, rfl, hx⟩
  · exact ⟨[], _, rfl, none, 0, rfl, Nat.le_refl _, by simp [maxLen], fun i s hs => by simp at hs⟩
  · simp only [if_true] at hmm
    subst hmm
    simp only [DataW.weights, Try.underlying25, List.all_cons, List.all_append, Bool.and_eq_true] at hw
    have key : ∀ i, i < len → ∃ s, StepOk W (a.add (i * 4)) s := by
      intro i hi
      obtain ⟨cs', h1, h2⟩ := hx i (by omega)
      obtain ⟨s, rfl, hb, k1, k2, k3, hwt⟩ := step_of_trod h2
      rw [cells_Step] at h1
      obtain ⟨_, _, hc⟩ := World.cells?_some h1
      refine ⟨s, hc 0 (by omega), hc 1 (by omega), hc 2 (by omega), hc 3 (by omega), hb, k1, k2, k3, hwt _ ?_⟩
      exact all_weights hw.2.1 (D i) (List.mem_map.2 ⟨i, List.mem_range.2 hi, rfl⟩)
    obtain ⟨V, hV⟩ := choose_lt key
    refine ⟨(List.range len).map V, _, rfl, some a, m, by simp, by simpa using hle, hm, fun i s hs => ⟨a, rfl, ?_⟩⟩
    have hil : i < len := by
      have := (List.getElem?_eq_some_iff.1 hs).1
      simpa using this
    simp [hil] at hs
    subst hs
    exact hV i hil

theorem StepOk.same {w w' : World} {a : Addr} {s : StepV} (h : StepOk w a s) (hk : ∀ k, k < w.heap.size → w'.heap[k]? = w.heap[k]?) : StepOk w' a s := by
  have hc : ∀ {p : Addr} {v : Value}, w.cell? p = some v → w'.cell? p = some v := by
    intro p v hv
    have hlt : p.block < w.heap.size := by
      rcases Nat.lt_or_ge p.block w.heap.size with h | h
      · exact h
      · simp [World.cell?, Array.getElem?_eq_none h] at hv
    rw [World.cell?_of_block (w := w) (hk p.block hlt)]
    exact hv
  exact ⟨hc h.c0, hc h.c1, hc h.c2, hc h.c3, h.d.same hk, h.k64, h.n64, h.m64, h.len⟩

theorem StepOk.at_ {W w0 w : World} {L : List HProp} {a : Addr} {s : StepV} (h : StepOk W a s) (H : At w0 L w) (i : Nat) (hL : L[i]? = some (Arg W)) : StepOk w a s := h.same fun k hk => H.old _ hL hk

/-- Where the first world's heap is held, the steps are what they were. -/
theorem StepsAt.at_ {W w0 w : World} {L : List HProp} {v : Value} {l : List StepV} (h : StepsAt W v l) (H : At w0 L w) (i : Nat) (hL : L[i]? = some (Arg W)) : StepsAt w v l := by
  obtain ⟨ad, cap, rfl, h1, h2, h3⟩ := h
  refine ⟨ad, cap, rfl, h1, h2, fun i s hs => ?_⟩
  obtain ⟨b, hb, ho⟩ := h3 i s hs
  exact ⟨b, hb, ho.same fun k hk => H.old _ hL hk⟩

/-! One lemma for each type of a parameter: what 'walk' is handed. -/
theorem arg_int {base : Nat} {v : Value} {d : DataW H} {p : List MemPlace} {ws : List Nat} (hv : Value.okWide Try.prog W .any base 3 v) (h : DataW.Trod enc Try.prog W 0 (fun _ => true) true 3 v d p) (hw : (ws.all (· ≤ reachBytes)) = true) :
    ∃ n, v = .int .i64 n ∧ In64 n := by
  obtain ⟨n, rfl, _, _, hw⟩ := open_int Try.underlying3 hv h
  exact ⟨n, rfl, int_range hw⟩

theorem arg_bytes {base : Nat} {v : Value} {d : DataW H} {p : List MemPlace} (hv : Value.okWide Try.prog W .any base 33 v) (h : DataW.Trod enc Try.prog W 0 (fun _ => true) true 33 v d p) (hw : ((d.weights Try.prog 33).all (· ≤ reachBytes)) = true) :
    ∃ l, BytesAt W v l ∧ l.length ≤ reachBytes := by
  obtain ⟨sa, sl, sc, rfl⟩ := Go.WideShapes.okWide_slice Try.underlying33 hv
  obtain ⟨fuel, hf⟩ := h
  obtain ⟨l, v, hv, hb, hl⟩ := bytes_of_trod Try.underlying33 Try.underlying5 cells_u8 bytes_u8 hf
  simp only [Value.cells, List.cons.injEq, and_true] at hv
  subst hv
  exact ⟨l, hb, hl _ hw⟩

theorem arg_Steps {base : Nat} {v : Value} {d : DataW H} {p : List MemPlace} (hv : Value.okWide Try.prog W .any base 25 v) (h : DataW.Trod enc Try.prog W 0 (fun _ => true) true 25 v d p) (hw : ((d.weights Try.prog 25).all (· ≤ reachBytes)) = true) :
    ∃ l, StepsAt W v l := by
  obtain ⟨sa, sl, sc, rfl⟩ := Go.WideShapes.okWide_slice Try.underlying25 hv
  obtain ⟨fuel, hf⟩ := h
  obtain ⟨l, v, hv, hst⟩ := steps_of_trod hf hw
  simp only [Value.cells, List.cons.injEq, and_true] at hv
  subst hv
  exact ⟨l, hst⟩
end Lw
end Go.Proofs.Ytbbkfneafonmiaa
