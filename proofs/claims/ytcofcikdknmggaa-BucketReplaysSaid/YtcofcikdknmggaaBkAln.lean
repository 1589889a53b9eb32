/-
  The plain law of BucketAlone: a command changes the entry of its name alone, and the Last of its client alone; as long as there is room the entry of a name is what the commands with that name alone make.
-/
import Derived.Test.YtcofcikdknmggaaBkAskP
namespace Go.Proofs.Ytcofcikdknmggaa
open Go.Hp Go.RowKit
set_option linter.unusedVariables false
set_option linter.unusedSimpArgs false
set_option maxHeartbeats 1000000
namespace Bk

theorem find_congr {l m : List En} {s : ByteArray} (h1 : NR l) (h2 : NR m) (h : ∀ e : En, e.nm = s → (e ∈ l ↔ e ∈ m)) : findS l s = findS m s := by
  by_cases hx : ∃ e, e ∈ l ∧ e.nm = s
  · obtain ⟨e, he, rfl⟩ := hx
    rw [find_mem h1 he, find_mem h2 ((h e rfl).1 he)]
  · rw [find_none h1 (fun e he hs => hx ⟨e, he, hs⟩), find_none h2 (fun e he hs => hx ⟨e, (h e hs).2 he, hs⟩)]

theorem mem_del {l : List En} {i : Nat} {x y : En} (hx : l[i]? = some x) (hn : y.nm ≠ x.nm) : y ∈ l ↔ y ∈ l.take i ++ l.drop (i + 1) := by
  constructor
  · intro hy
    obtain ⟨j, hj⟩ := List.getElem?_of_mem hy
    rw [List.mem_append]
    rcases Nat.lt_trichotomy j i with h | h | h
    · exact .inl (List.mem_of_getElem? (i := j) (by rw [List.getElem?_take, if_pos h]; exact hj))
    · subst h
      rw [hx] at hj
      cases hj
      exact absurd rfl hn
    · exact .inr (List.mem_of_getElem? (i := j - (i + 1)) (by rw [List.getElem?_drop, show i + 1 + (j - (i + 1)) = j by omega]; exact hj))
  · exact fun hy => (sub_del l i).subset hy

theorem mem_set2 {l : List En} {i : Nat} {x y z : En} (hx : l[i]? = some x) (hn : y.nm ≠ x.nm) (hz : z.nm = x.nm) : y ∈ l ↔ y ∈ l.set i z := by
  constructor
  · intro hy
    obtain ⟨j, hj⟩ := List.getElem?_of_mem hy
    have hne : ¬ i = j := by
      rintro rfl
      rw [hx] at hj
      cases hj
      exact hn rfl
    exact List.mem_of_getElem? (i := j) (by rw [List.getElem?_set, if_neg hne]; exact hj)
  · intro hy
    rcases List.mem_or_eq_of_mem_set hy with h | h
    · exact h
    · rw [h, hz] at hn
      exact absurd rfl hn

/-- Another name's entry stays. -/
theorem change_other {l : List En} {c : Cm} {room : Int} (h : NR l) (hok : ∀ e ∈ l, EOk e) (hc : COk c) (h4 : c.k ≠ 4) {s : ByteArray} (hs : c.nm ≠ s) : findS (changeS l c room).2 s = findS l s := by
  have hi := (change_inv (room := room) h hok hc h4).nr
  refine (find_congr h hi fun e he => ?_).symm
  have hne : e.nm ≠ c.nm := fun hh => hs (by rw [← hh, he])
  unfold changeS
  by_cases e1 : c.k = 1
  · rw [if_pos e1]
    cases hb : plB l c.nm with
    | true => rw [if_pos rfl]
    | false =>
      rw [if_neg (by decide)]
      split
      · exact Iff.rfl
      · refine ⟨fun h => mem_insAt.2 (.inr h), fun h => ?_⟩
        rcases mem_insAt.1 h with rfl | h
        · exact absurd rfl hne
        · exact h
  · rw [if_neg e1]
    cases hb : plB l c.nm with
    | false => rw [if_pos rfl]
    | true =>
      rw [if_neg (by decide)]
      obtain ⟨x, hx, hxn⟩ := there_at h hb
      rw [eAt_of hx]
      split
      · exact Iff.rfl
      · split
        · exact mem_del hx (by rw [hxn]; exact hne)
        · split
          · exact mem_set2 hx (by rw [hxn]; exact hne) (made_nm x c)
          · exact Iff.rfl

theorem change_all {l : List En} {c : Cm} {room : Int} (h : NR l) (ha : ∀ e ∈ l, e.nm = c.nm) : ∀ e ∈ (changeS l c room).2, e.nm = c.nm := by
  intro e
  unfold changeS
  by_cases e1 : c.k = 1
  · rw [if_pos e1]
    split
    · exact ha e
    · split
      · exact ha e
      · intro he
        rcases mem_insAt.1 he with rfl | he
        · rfl
        · exact ha e he
  · rw [if_neg e1]
    cases hb : plB l c.nm with
    | false => rw [if_pos rfl]; exact ha e
    | true =>
      rw [if_neg (by decide)]
      obtain ⟨x, hx, hxn⟩ := there_at h hb
      rw [eAt_of hx]
      split
      · exact ha e
      · split
        · exact fun he => ha e ((sub_del _ _).subset he)
        · split
          · intro he
            rcases List.mem_or_eq_of_mem_set he with he | rfl
            · exact ha e he
            · rw [made_nm, hxn]
          · exact ha e

/-- What is told of a name hangs on its entry (and on room). -/
theorem change_told {l m : List En} {c : Cm} {room : Int} (hf : findS l c.nm = findS m c.nm) (h3 : (changeS l c room).1.1 ≠ 103) (hm : plB m c.nm = false → m = []) : (changeS l c room).1 = (changeS m c room).1 := by
  unfold findS at hf
  unfold changeS at h3 ⊢
  cases hb : plB l c.nm with
  | true =>
    cases hb2 : plB m c.nm with
    | false => rw [hb, hb2] at hf; simp at hf
    | true =>
      rw [hb, hb2, if_pos rfl, if_pos rfl] at hf
      have he : eAt l (plI l c.nm) = eAt m (plI m c.nm) := congrArg Prod.fst hf
      rw [he]
      simp only [if_true]
      (repeat' split) <;> first | rfl | contradiction
  | false =>
    cases hb2 : plB m c.nm with
    | true => rw [hb, hb2] at hf; simp at hf
    | false =>
      have hm0 := hm hb2
      subst hm0
      rw [hb] at h3
      simp only [Bool.false_eq_true, if_false] at h3 ⊢
      by_cases e1 : c.k = 1
      · rw [if_pos e1] at h3 ⊢
        by_cases hr : room ≤ (l.length : Int)
        · rw [if_pos hr] at h3
          exact absurd rfl h3
        · rw [if_neg hr, if_pos e1, if_neg (by simp only [List.length_nil]; omega)]
      · rw [if_neg e1, if_neg e1]
        rfl

theorem change_own {l m : List En} {c : Cm} {room : Int} (h : NR l) (hok : ∀ e ∈ l, EOk e) (h2 : NR m) (hok2 : ∀ e ∈ m, EOk e) (hc : COk c) (h4 : c.k ≠ 4)
    (hf : findS l c.nm = findS m c.nm) (h3 : (changeS l c room).1.1 ≠ 103) (hm : plB m c.nm = false → m = []) : findS (changeS l c room).2 c.nm = findS (changeS m c room).2 c.nm := by
  have e := change_told hf h3 hm
  have i1 := change_inv (room := room) h hok hc h4
  have i2 := change_inv (room := room) h2 hok2 hc h4
  have key : ∀ {l2 : List En} {r : (Int × En) × List En}, ChInv l2 c room r → findS r.2 c.nm = if r.1.1 = 102 ∨ r.1.1 = 103 then (en0, false) else if c.k = 2 then (en0, false) else (r.1.2, true) := by
    intro l2 r hi
    by_cases q : r.1.1 = 102 ∨ r.1.1 = 103
    · rw [if_pos q]; exact (hi.none q).2
    · have q2 : r.1.1 = 0 ∨ r.1.1 = 101 ∨ r.1.1 = 104 := by have := hi.errs; omega
      rw [if_neg q]
      by_cases k2 : c.k = 2
      · rw [if_pos k2]; exact (hi.gone q2 k2).1
      · rw [if_neg k2]; exact hi.here q2 k2
  rw [key i1, key i2, e]

theorem rlast_seatR {x : La} {c : Int} (hc : c ≠ x.cl) : ∀ {l : List La}, rlastF (seatR x l) c = rlastF l c
  | [] => by
    unfold seatR
    show (if x.cl = c then _ else _) = _
    rw [if_neg (fun h => hc h.symm)]
  | y :: l => by
    unfold seatR
    split
    · show (if y.cl = c then _ else rlastF (seatR x l) c) = (if y.cl = c then _ else rlastF l c)
      rw [rlast_seatR hc]
    · split
      · rename_i he
        show (if x.cl = c then _ else rlastF l c) = (if y.cl = c then _ else rlastF l c)
        rw [if_neg (fun h => hc h.symm), if_neg (fun h => hc (by rw [← he, h]))]
      · show (if x.cl = c then _ else rlastF (y :: l) c) = _
        rw [if_neg (fun h => hc h.symm)]

theorem last_seat {l : List La} {x : La} (h : CR l) {c : Int} (hc : c ≠ x.cl) : lastF (seatS l x) c = lastF l c := by
  have h2 : CR (seatS l x) := by rw [seatS_seatR h]; exact cr_seatR h
  rw [last_eq (cr_rise h2), last_eq (cr_rise h), seatS_seatR h, rlast_seatR hc]
theorem seatR_len (x : La) : ∀ (l : List La), (seatR x l).length ≤ l.length + 1
  | [] => by simp [seatR]
  | y :: l => by
    have := seatR_len x l
    unfold seatR
    split
    · simp only [List.length_cons]; omega
    · split <;> simp

/-- A bucket that came of at most so many commands. -/
structure BI (k : Nat) (b : Bu) : Prop where
  n : NR b.es
  ok : ∀ e ∈ b.es, EOk e
  c : CR b.ls
  u0 : 0 ≤ b.u
  u : b.u ≤ k
  le : b.es.length ≤ k
  ll : b.ls.length ≤ k
theorem bi_zero : BI 0 ⟨0, [], []⟩ := ⟨List.Pairwise.nil, (fun e he => absurd he List.not_mem_nil), List.Pairwise.nil, Int.le_refl _, Int.le_refl _, Nat.le_refl _, Nat.le_refl _⟩
theorem BI.mono {k m : Nat} {b : Bu} (h : BI k b) (hk : k ≤ m) : BI m b := ⟨h.n, h.ok, h.c, h.u0, by have := h.u; omega, Nat.le_trans h.le hk, Nat.le_trans h.ll hk⟩

theorem bi_next {k : Nat} {b : Bu} {c : Cm} {room : Int} (h : BI k b) (hk : k < 400) (hc : COk c) :
    (ApplyS b c room).1.1 = 0 ∧ BI (k + 1) (ApplyS b c room).2 ∧ (∀ s, c.nm ≠ s → findS (ApplyS b c room).2.es s = findS b.es s) ∧ (∀ cl, cl ≠ c.cl ∨ c.k = 3 ∨ c.k = 4 → lastF (ApplyS b c room).2.ls cl = lastF b.ls cl) := by
  have hu := h.u
  have hu0 := h.u0
  rw [ApplyS_ok (cok_right hc) (by omega)]
  by_cases h44 : c.k = 4
  · rw [if_pos h44]
    exact ⟨rfl, ⟨h.n, h.ok, h.c, by show 0 ≤ b.u + 1; omega, by show b.u + 1 ≤ ((k + 1 : Nat) : Int); omega, by have := h.le; show b.es.length ≤ _; omega, by have := h.ll; show b.ls.length ≤ _; omega⟩, fun _ _ => rfl, fun _ _ => rfl⟩
  · rw [if_neg h44]
    have hi := change_inv (room := room) h.n h.ok hc h44
    have hl := changeS_len b.es c room
    have ho := fun s (hs : c.nm ≠ s) => change_other (room := room) h.n h.ok hc h44 hs
    have hbl := h.le
    have hbll := h.ll
    by_cases h33 : c.k = 3
    · rw [if_pos h33]
      exact ⟨rfl, ⟨hi.nr, hi.ok, h.c, by show 0 ≤ b.u + 1; omega, by show b.u + 1 ≤ ((k + 1 : Nat) : Int); omega, by show (changeS b.es c room).2.length ≤ _; omega, by show b.ls.length ≤ _; omega⟩, ho, fun _ _ => rfl⟩
    · rw [if_neg h33]
      refine ⟨rfl, ⟨hi.nr, hi.ok, ?_, by show 0 ≤ b.u + 1; omega, by show b.u + 1 ≤ ((k + 1 : Nat) : Int); omega, by show (changeS b.es c room).2.length ≤ _; omega, ?_⟩, ho, fun cl hcl => ?_⟩
      · rw [seatS_seatR h.c]; exact cr_seatR h.c
      · show (seatS b.ls _).length ≤ _
        rw [seatS_seatR h.c]
        have := seatR_len (lastS c (b.u + 1) (changeS b.es c room).1.1 (changeS b.es c room).1.2) b.ls
        omega
      · rcases hcl with hcl | hcl | hcl
        · exact last_seat h.c hcl
        · exact absurd hcl h33
        · exact absurd hcl h44

/-- What holds between the bucket and the one of the name's own commands. -/
structure AI (k : Nat) (name : ByteArray) (b al : Bu) (ry : Bool) : Prop where
  bi : BI k b
  ai : BI k al
  one : ∀ e ∈ al.es, e.nm = name
  same : ry = true → findS b.es name = findS al.es name
theorem ai_zero (name : ByteArray) : AI 0 name ⟨0, [], []⟩ ⟨0, [], []⟩ true := ⟨bi_zero, bi_zero, (fun e he => absurd he List.not_mem_nil), fun _ => rfl⟩
theorem ai_skip {k : Nat} {name : ByteArray} {b al : Bu} {ry : Bool} (h : AI k name b al ry) : AI (k + 1) name b al ry := ⟨h.bi.mono (by omega), h.ai.mono (by omega), h.one, h.same⟩
theorem ai_other {k : Nat} {name : ByteArray} {b al : Bu} {ry ry2 : Bool} {c : Cm} {room : Int} (h : AI k name b al ry) (hk : k < 400) (hc : COk c) (hn : c.nm ≠ name) (hr : ry2 = true → ry = true) : AI (k + 1) name (ApplyS b c room).2 al ry2 := by
  obtain ⟨h1, h2, h3, h4⟩ := bi_next (room := room) h.bi hk hc
  exact ⟨h2, h.ai.mono (by omega), h.one, fun q => by rw [h3 name hn]; exact h.same (hr q)⟩
theorem ai_own {k : Nat} {name : ByteArray} {b al : Bu} {ry ry2 : Bool} {c : Cm} {room : Int} (h : AI k name b al ry) (hk : k < 400) (hc : COk c) (hn : c.nm = name) (hr : ry2 = true → ry = true ∧ (ApplyS b c room).1.2.err ≠ 103) : AI (k + 1) name (ApplyS b c room).2 (ApplyS al c room).2 ry2 := by
  subst hn
  obtain ⟨h1, h2, -, -⟩ := bi_next (room := room) h.bi hk hc
  obtain ⟨g1, g2, -, -⟩ := bi_next (room := room) h.ai hk hc
  have hu := h.bi.u
  have hua := h.ai.u
  have e1 := ApplyS_ok (room := room) (b := b) (cok_right hc) (by omega)
  have e2 := ApplyS_ok (room := room) (b := al) (cok_right hc) (by omega)
  refine ⟨h2, g2, ?_, fun q => ?_⟩
  · rw [e2]
    (repeat' split)
    · exact h.one
    · exact change_all h.ai.n h.one
    · exact change_all h.ai.n h.one
  · obtain ⟨r1, r2⟩ := hr q
    have hf := h.same r1
    have hm : plB al.es c.nm = false → al.es = [] := by
      intro hb
      rw [List.eq_nil_iff_forall_not_mem]
      intro e he
      exact not_there h.ai.n hb e he (h.one e he)
    rw [e1] at r2 ⊢
    rw [e2]
    by_cases h44 : c.k = 4
    · rw [if_pos h44, if_pos h44]
      exact hf
    · rw [if_neg h44] at r2 ⊢
      rw [if_neg h44]
      by_cases h33 : c.k = 3
      · rw [if_pos h33] at r2 ⊢
        rw [if_pos h33]
        exact change_own h.bi.n h.bi.ok h.ai.n h.ai.ok hc h44 hf r2 hm
      · rw [if_neg h33] at r2 ⊢
        rw [if_neg h33]
        exact change_own h.bi.n h.bi.ok h.ai.n h.ai.ok hc h44 hf r2 hm
end Bk
end Go.Proofs.Ytcofcikdknmggaa
