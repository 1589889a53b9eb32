/-
  The plain law: what commands that may be make of a bucket that may be, may be.
-/
import Derived.Test.YtcofcikdknmggaaBkPure2
import Derived.Test.YtcofcikdknmggaaBkCmd
namespace Go.Proofs.Ytcofcikdknmggaa
open Go.Hp Go.RowKit
set_option linter.unusedVariables false
set_option linter.unusedSimpArgs false
namespace Bk

theorem cmp_anti : ∀ (a b : List UInt8), ¬ Lib.compareBytes a b < 0 → a ≠ b → Lib.compareBytes b a < 0
  | [], [], _, h => absurd rfl h
  | [], b :: l2, h, _ => by simp [Lib.compareBytes] at h
  | a :: l1, [], _, _ => by simp [Lib.compareBytes]
  | a :: l1, b :: l2, h, hn => by
    have ih := cmp_anti l1 l2
    unfold Lib.compareBytes at h ⊢
    simp only [UInt8.lt_iff_toNat_lt] at h ⊢
    by_cases h1 : a.toNat < b.toNat
    · rw [if_pos h1] at h; simp at h
    · by_cases h2 : b.toNat < a.toNat
      · rw [if_pos h2]; decide
      · rw [if_neg h1, if_neg h2] at h
        rw [if_neg h2, if_neg h1]
        have : a = b := UInt8.toNat_inj.1 (by omega)
        subst this
        exact ih h (fun hh => hn (by rw [hh]))

theorem nEq_eq {a b : ByteArray} (h : nEq a b = true) : a = b := by
  unfold nEq at h
  rw [beq_iff_eq, Lib.toList_data, Lib.toList_data] at h
  obtain ⟨⟨a⟩⟩ := a
  obtain ⟨⟨b⟩⟩ := b
  simp at h
  rw [h]
theorem nEq_refl (a : ByteArray) : nEq a a = true := by unfold nEq; exact beq_self_eq_true _
theorem nLt_irr (a : ByteArray) : nLt a a = false := by
  rw [nLt_iff, decide_eq_false_iff_not]
  unfold cmpN
  rw [(cmp_zero _ _).2 rfl]
  decide
theorem nLt_anti {a b : ByteArray} (h : nLt a b = false) (hn : a ≠ b) : nLt b a = true := by
  rw [nLt_iff, decide_eq_false_iff_not] at h
  rw [nLt_iff, decide_eq_true_iff]
  refine cmp_anti _ _ h fun hh => hn ?_
  apply nEq_eq
  unfold nEq
  rw [beq_iff_eq, Lib.toList_data, Lib.toList_data]
  exact hh

/-- The names rise. -/
def NR (l : List En) : Prop := (l.map En.nm).Pairwise (fun a b => nLt a b = true)
theorem nr_rise {l : List En} (h : NR l) : Rise l := by
  intro j p q hp hq
  unfold NR at h
  rw [List.pairwise_iff_getElem] at h
  obtain ⟨h1, e1⟩ := List.getElem?_eq_some_iff.1 hp
  obtain ⟨h2, e2⟩ := List.getElem?_eq_some_iff.1 hq
  have := h j (j + 1) (by simpa using h1) (by simpa using h2) (by omega)
  rw [List.getElem_map, List.getElem_map, e1, e2] at this
  exact this
theorem rise_nr {l : List En} (h : Rise l) : NR l := by
  unfold NR
  rw [List.pairwise_iff_getElem]
  intro i j hi hj hij
  rw [List.getElem_map, List.getElem_map]
  rw [List.length_map] at hi hj
  exact rise_lt h (List.getElem?_eq_getElem hi) (List.getElem?_eq_getElem hj) hij

theorem find_mem {l : List En} (h : NR l) {e : En} (he : e ∈ l) : findS l e.nm = (e, true) := by
  have hr := nr_rise h
  obtain ⟨j, hj⟩ := List.getElem?_of_mem he
  have hjl := (List.getElem?_eq_some_iff.1 hj).1
  obtain ⟨h1, h2⟩ := rise_split hr e.nm
  have hrp : rpI l e.nm = j := by
    rcases Nat.lt_trichotomy (rpI l e.nm) j with hlt | heq | hgt
    · obtain ⟨x, hx⟩ : ∃ x, l[rpI l e.nm]? = some x := ⟨_, List.getElem?_eq_getElem (by omega)⟩
      have q1 := h2 _ x hx (Nat.le_refl _)
      have q2 := rise_lt hr hx hj hlt
      rw [q2] at q1
      cases q1
    · exact heq
    · have q1 := h1 j e hj hgt
      rw [nLt_irr] at q1
      cases q1
  unfold findS
  rw [plB_eq hr, plI_eq hr, hrp]
  have hb : rpB l e.nm = true := by
    unfold rpB
    rw [hrp, hj]
    exact nEq_refl _
  rw [if_pos hb, eAt_of hj]
theorem find_none {l : List En} (h : NR l) {s : ByteArray} (hn : ∀ e ∈ l, e.nm ≠ s) : findS l s = (en0, false) := by
  have hr := nr_rise h
  unfold findS
  have hb : plB l s = false := by
    rw [plB_eq hr]
    unfold rpB
    split
    · rename_i x hx
      cases hq : nEq x.nm s with
      | false => rfl
      | true => exact absurd (nEq_eq hq) (hn x (List.mem_of_getElem? hx))
    · rfl
  rw [hb]
  rfl

/-- Where a name is found it stands. -/
theorem there_at {l : List En} (h : NR l) {s : ByteArray} (hb : plB l s = true) : ∃ e, l[plI l s]? = some e ∧ e.nm = s := by
  have hr := nr_rise h
  have hlt := plB_lt hb
  refine ⟨l[plI l s], List.getElem?_eq_getElem hlt, ?_⟩
  rw [plB_eq hr] at hb
  unfold rpB at hb
  rw [← plI_eq hr, List.getElem?_eq_getElem hlt] at hb
  exact nEq_eq hb
theorem not_there {l : List En} (h : NR l) {s : ByteArray} (hb : plB l s = false) : ∀ e ∈ l, e.nm ≠ s := by
  intro e he hs
  have := find_mem h he
  rw [hs] at this
  unfold findS at this
  rw [hb] at this
  simp at this

theorem mem_insAt {α : Type} {l : List α} {i : Nat} {x y : α} : y ∈ insAt l i x ↔ y = x ∨ y ∈ l := by
  unfold insAt
  rw [List.mem_append, List.mem_cons]
  constructor
  · rintro (h | h | h)
    · exact .inr (List.mem_of_mem_take h)
    · exact .inl h
    · exact .inr (List.mem_of_mem_drop h)
  · rintro (h | h)
    · exact .inr (.inl h)
    · rw [← List.take_append_drop i l, List.mem_append] at h
      rcases h with h | h
      · exact .inl h
      · exact .inr (.inr h)

theorem nr_ins {l : List En} (h : NR l) {x : En} (hb : plB l x.nm = false) : NR (insAt l (plI l x.nm) x) := by
  have hr := nr_rise h
  obtain ⟨h1, h2⟩ := rise_split hr x.nm
  have hn := not_there h hb
  unfold NR insAt at *
  rw [List.map_append, List.map_cons, List.pairwise_append]
  have hsplit : l.map En.nm = (l.take (plI l x.nm)).map En.nm ++ (l.drop (plI l x.nm)).map En.nm := by rw [← List.map_append, List.take_append_drop]
  rw [hsplit, List.pairwise_append] at h
  obtain ⟨p1, p2, p3⟩ := h
  have hright : ∀ e ∈ l.drop (plI l x.nm), nLt x.nm e.nm = true := by
    intro e he
    obtain ⟨j, hj⟩ := List.getElem?_of_mem he
    rw [List.getElem?_drop] at hj
    have := h2 _ e hj (by rw [plI_eq hr]; omega)
    exact nLt_anti this (hn e (List.mem_of_getElem? hj))
  have hleft : ∀ e ∈ l.take (plI l x.nm), nLt e.nm x.nm = true := by
    intro e he
    obtain ⟨j, hj⟩ := List.getElem?_of_mem he
    rw [List.getElem?_take] at hj
    split at hj
    · rename_i hlt
      rw [plI_eq hr] at hlt
      exact h1 _ e hj hlt
    · cases hj
  refine ⟨p1, List.pairwise_cons.2 ⟨fun b hbm => ?_, p2⟩, fun a ha b hbm => ?_⟩
  · obtain ⟨e, he, rfl⟩ := List.mem_map.1 hbm
    exact hright e he
  · obtain ⟨ea, hea, rfl⟩ := List.mem_map.1 ha
    rcases List.mem_cons.1 hbm with rfl | hbm
    · exact hleft ea hea
    · exact p3 _ (List.mem_map_of_mem hea) _ hbm

theorem sub_del {α : Type} (l : List α) (i : Nat) : (l.take i ++ l.drop (i + 1)).Sublist l := by
  have h : (l.take i ++ l.drop (i + 1)).Sublist (l.take i ++ l.drop i) := by
    refine List.Sublist.append (List.Sublist.refl _) ?_
    rw [← List.drop_drop]
    exact List.drop_sublist _ _
  rw [List.take_append_drop] at h
  exact h
theorem nr_del {l : List En} (h : NR l) (i : Nat) : NR (l.take i ++ l.drop (i + 1)) := by
  unfold NR at *
  exact h.sublist ((sub_del l i).map _)
theorem nr_set {l : List En} (h : NR l) {i : Nat} {e y : En} (he : l[i]? = some e) (hy : y.nm = e.nm) : NR (l.set i y) := by
  unfold NR at *
  have hi := (List.getElem?_eq_some_iff.1 he)
  obtain ⟨hlt, hee⟩ := hi
  have : (l.set i y).map En.nm = l.map En.nm := by
    rw [List.map_set, hy]
    apply List.ext_getElem?
    intro j
    rw [List.getElem?_set]
    split
    · rename_i hij
      subst hij
      rw [if_pos (by simpa using hlt), List.getElem?_map, he]
      rfl
    · rfl
  rw [this]
  exact h

theorem made_nm (e : En) (c : Cm) : (made e c).nm = e.nm := by
  unfold made
  (repeat' split) <;> rfl

/-- What a command that may be does. -/
structure ChInv (l : List En) (c : Cm) (room : Int) (r : (Int × En) × List En) : Prop where
  nr : NR r.2
  ok : ∀ e ∈ r.2, EOk e
  len : (r.2.length : Int) = l.length + (if r.1.1 = 0 ∧ c.k = 1 then 1 else 0) - (if r.1.1 = 0 ∧ c.k = 2 then 1 else 0)
  room : l.length ≤ room → (r.2.length : Int) ≤ room
  errs : r.1.1 = 0 ∨ r.1.1 = 101 ∨ r.1.1 = 102 ∨ r.1.1 = 103 ∨ r.1.1 = 104
  none : r.1.1 = 102 ∨ r.1.1 = 103 → r.1.2 = en0 ∧ findS r.2 c.nm = (en0, false)
  some : r.1.1 = 0 ∨ r.1.1 = 101 ∨ r.1.1 = 104 → EOk r.1.2
  gone : r.1.1 = 0 ∨ r.1.1 = 101 ∨ r.1.1 = 104 → c.k = 2 → findS r.2 c.nm = (en0, false) ∧ findS l c.nm = (r.1.2, true)
  here : r.1.1 = 0 ∨ r.1.1 = 101 ∨ r.1.1 = 104 → c.k ≠ 2 → findS r.2 c.nm = (r.1.2, true)

theorem change_inv {l : List En} {c : Cm} {room : Int} (h : NR l) (hok : ∀ e ∈ l, EOk e) (hc : COk c) (h4 : c.k ≠ 4) : ChInv l c room (changeS l c room) := by
  have k1 := hc.k1
  have k7 := hc.k7
  unfold changeS
  by_cases e1 : c.k = 1
  · rw [if_pos e1]
    cases hb : plB l c.nm with
    | true =>
      rw [if_pos rfl]
      obtain ⟨e, he, hen⟩ := there_at h hb
      rw [eAt_of he]
      have hm := List.mem_of_getElem? he
      have hf := find_mem h hm
      rw [hen] at hf
      refine ⟨h, hok, by simp, fun hr => hr, by simp, by simp, fun _ => hok e hm, fun _ hk => by omega, fun _ _ => hf⟩
    | false =>
      rw [if_neg (by decide)]
      have hnt := not_there h hb
      by_cases hr : room ≤ (l.length : Int)
      · rw [if_pos hr]
        refine ⟨h, hok, by simp, fun hr => hr, by simp, fun _ => ⟨rfl, find_none h hnt⟩, by simp, by simp, by simp⟩
      · rw [if_neg hr]
        have hx : EOk ⟨c.nm, c.cl, c.op, 0⟩ := ⟨hc.nm h4, by unfold fileB; rw [hc.cl, hc.op]; rfl, by unfold inB; rfl⟩
        have hn := nr_ins (x := ⟨c.nm, c.cl, c.op, 0⟩) h hb
        refine ⟨hn, fun e he => ?_, ?_, fun _ => ?_, by simp, by simp, fun _ => hx, fun _ hk => by omega, fun _ _ => find_mem hn (e := ⟨c.nm, c.cl, c.op, 0⟩) (mem_insAt.2 (.inl rfl))⟩
        · rcases mem_insAt.1 he with rfl | he
          · exact hx
          · exact hok e he
        · show ((insAt l (plI l c.nm) _).length : Int) = _
          rw [insAt_len (plI_le l c.nm)]
          simp [e1]
        · show ((insAt l (plI l c.nm) _).length : Int) ≤ _
          rw [insAt_len (plI_le l c.nm)]
          omega
  · rw [if_neg e1]
    cases hb : plB l c.nm with
    | false =>
      rw [if_pos rfl]
      refine ⟨h, hok, by simp [e1], fun hr => hr, by simp, fun _ => ⟨rfl, find_none h (not_there h hb)⟩, by simp, by simp, by simp⟩
    | true =>
      rw [if_neg (by decide)]
      obtain ⟨e, he, hen⟩ := there_at h hb
      rw [eAt_of he]
      have hm := List.mem_of_getElem? he
      have hlt := plB_lt hb
      have hf := find_mem h hm
      rw [hen] at hf
      by_cases e3 : c.k = 3
      · rw [if_pos e3]
        refine ⟨h, hok, by simp [e3], fun hr => hr, by simp, by simp, fun _ => hok e hm, fun _ hk => by omega, fun _ _ => hf⟩
      · rw [if_neg e3]
        by_cases e2 : c.k = 2
        · rw [if_pos e2]
          have hlen : (l.take (plI l c.nm) ++ l.drop (plI l c.nm + 1)).length + 1 = l.length := by
            simp only [List.length_append, List.length_take, List.length_drop]
            omega
          refine ⟨nr_del h _, fun x hx => hok x ((sub_del l _).subset hx), ?_, fun hr => ?_, by simp, by simp, fun _ => hok e hm, fun _ _ => ⟨find_none (nr_del h _) fun x hx hxs => ?_, hf⟩, fun _ hk => absurd e2 hk⟩
          · show ((l.take (plI l c.nm) ++ l.drop (plI l c.nm + 1)).length : Int) = _
            simp [e2]
            omega
          · show ((l.take (plI l c.nm) ++ l.drop (plI l c.nm + 1)).length : Int) ≤ _
            omega
          · have hr := nr_rise h
            rcases List.mem_append.1 hx with hx | hx
            · obtain ⟨j, hj⟩ := List.getElem?_of_mem hx
              rw [List.getElem?_take] at hj
              split at hj
              · rename_i hjl
                have := rise_lt hr hj he hjl
                rw [hxs, hen, nLt_irr] at this
                cases this
              · cases hj
            · obtain ⟨j, hj⟩ := List.getElem?_of_mem hx
              rw [List.getElem?_drop] at hj
              have := rise_lt hr he hj (by omega)
              rw [hxs, hen, nLt_irr] at this
              cases this
        · rw [if_neg e2]
          by_cases hff : e.fc = c.fc ∧ e.fo = c.fo
          · rw [if_pos hff]
            have hmo : EOk (made e c) := by
              have hoe := hok e hm
              unfold made
              by_cases e5 : c.k = 5
              · rw [if_pos e5]; exact ⟨hoe.nm, hoe.fi, hc.sz⟩
              · rw [if_neg e5]
                by_cases e6 : c.k = 6
                · rw [if_pos e6]
                  refine ⟨hoe.nm, hoe.fi, ?_⟩
                  have q1 := hoe.sz
                  have q2 := hc.sz
                  show inB (max e.sz c.sz) 0 4294967296 = true
                  rcases Int.le_total e.sz c.sz with hle | hle
                  · rw [Int.max_eq_right hle]; exact q2
                  · rw [Int.max_eq_left hle]; exact q1
                · rw [if_neg e6]
                  by_cases e7 : c.k = 7
                  · rw [if_pos e7]; exact ⟨hoe.nm, hc.nw e7, hc.sz⟩
                  · rw [if_neg e7]; exact hoe
            have hns := nr_set h he (made_nm e c)
            have hmm : made e c ∈ l.set (plI l c.nm) (made e c) := List.mem_set hlt _
            have hfm := find_mem hns hmm
            rw [made_nm, hen] at hfm
            refine ⟨hns, fun x hx => ?_, by simp [e1, e2], fun hr => by rw [List.length_set]; exact hr, by simp, by simp, fun _ => hmo, fun _ hk => absurd hk e2, fun _ _ => hfm⟩
            rcases List.mem_or_eq_of_mem_set hx with hx | rfl
            · exact hok x hx
            · exact hmo
          · rw [if_neg hff]
            refine ⟨h, hok, by simp, fun hr => hr, by simp, by simp, fun _ => hok e hm, fun _ hk => absurd hk e2, fun _ _ => hf⟩

/-- The clients rise. -/
def CR (l : List La) : Prop := l.Pairwise (fun a b => a.cl < b.cl)
theorem cr_rise {l : List La} (h : CR l) : RiseL l := by
  intro j p q hp hq
  unfold CR at h
  rw [List.pairwise_iff_getElem] at h
  obtain ⟨h1, e1⟩ := List.getElem?_eq_some_iff.1 hp
  obtain ⟨h2, e2⟩ := List.getElem?_eq_some_iff.1 hq
  have := h j (j + 1) h1 h2 (by omega)
  rw [e1, e2] at this
  exact this
theorem rise_cr {l : List La} (h : RiseL l) : CR l := by
  unfold CR
  rw [List.pairwise_iff_getElem]
  intro i j hi hj hij
  exact riseL_lt h (List.getElem?_eq_getElem hi) (List.getElem?_eq_getElem hj) hij
theorem mem_seatR {x z : La} : ∀ {l : List La}, z ∈ seatR x l → z = x ∨ z ∈ l
  | [], h => by simp [seatR] at h; exact .inl h
  | y :: l, h => by
    unfold seatR at h
    split at h
    · rcases List.mem_cons.1 h with rfl | h
      · exact .inr (by simp)
      · rcases mem_seatR h with rfl | h
        · exact .inl rfl
        · exact .inr (by simp [h])
    · split at h
      · rcases List.mem_cons.1 h with rfl | h
        · exact .inl rfl
        · exact .inr (by simp [h])
      · rcases List.mem_cons.1 h with rfl | h
        · exact .inl rfl
        · exact .inr h
theorem cr_seatR {x : La} : ∀ {l : List La}, CR l → CR (seatR x l)
  | [], _ => by simp [seatR, CR]
  | y :: l, h => by
    unfold CR at *
    obtain ⟨h1, h2⟩ := List.pairwise_cons.1 h
    unfold seatR
    split
    · rename_i hlt
      refine List.pairwise_cons.2 ⟨fun z hz => ?_, cr_seatR (l := l) h2⟩
      rcases mem_seatR hz with rfl | hz
      · exact hlt
      · exact h1 z hz
    · rename_i hlt
      split
      · rename_i he
        exact List.pairwise_cons.2 ⟨fun z hz => by have := h1 z hz; omega, h2⟩
      · rename_i he
        refine List.pairwise_cons.2 ⟨fun z hz => ?_, h⟩
        rcases List.mem_cons.1 hz with rfl | hz
        · omega
        · have := h1 z hz; omega
theorem seatS_seatR {l : List La} (h : CR l) (x : La) : seatS l x = seatR x l := by
  rw [seatS_eq (cr_rise h)]
  unfold notedS
  exact noted_seatR (cr_rise h)

/-- A bucket that may be, in other words. -/
theorem vb_iff {b : Bu} : VB b ↔ inB b.u 0 1048576 = true ∧ b.es.length ≤ 256 ∧ (b.u = 0 → b.es.length = 0 ∧ b.ls.length = 0) ∧ (NR b.es ∧ ∀ e ∈ b.es, EOk e) ∧ (CR b.ls ∧ ∀ x ∈ b.ls, LOk b.u x) := by
  constructor
  · intro h
    refine ⟨h.u0, h.n, h.z, ⟨rise_nr (vb_rise h), fun e he => ?_⟩, ⟨rise_cr (vb_riseL h), fun x hx => ?_⟩⟩
    · obtain ⟨j, hj⟩ := List.getElem?_of_mem he
      exact h.e.1 j e hj (List.getElem?_eq_some_iff.1 hj).1
    · obtain ⟨j, hj⟩ := List.getElem?_of_mem hx
      exact h.l.1 j x hj (List.getElem?_eq_some_iff.1 hj).1
  · rintro ⟨h1, h2, h3, ⟨h4, h5⟩, h6, h7⟩
    exact ⟨h1, h2, h3, ⟨fun j e hj _ => h5 e (List.mem_of_getElem? hj), fun j p q hp hq _ => nr_rise h4 j p q hp hq⟩, ⟨fun j e hj _ => h7 e (List.mem_of_getElem? hj), fun j p q hp hq _ => cr_rise h6 j p q hp hq⟩⟩

theorem cok_right {c : Cm} (h : COk c) : wrongS c = false := by
  have h1 := inB_le h.cl
  have h2 := inB_le h.op
  have h3 := h.k1
  have h4 := h.k7
  unfold wrongS
  simp
  omega

theorem ApplyS_ok {b : Bu} {c : Cm} {room : Int} (hw : wrongS c = false) (hu : b.u < 1048576) : ApplyS b c room = if c.k = 4 then ((0, ⟨0, en0, namesS b.es ⟨#[]⟩⟩), ⟨b.u + 1, b.es, b.ls⟩)
    else if c.k = 3 then ((0, ⟨(changeS b.es c room).1.1, (changeS b.es c room).1.2, []⟩), ⟨b.u + 1, (changeS b.es c room).2, b.ls⟩)
    else ((0, ⟨(changeS b.es c room).1.1, (changeS b.es c room).1.2, []⟩), ⟨b.u + 1, (changeS b.es c room).2, seatS b.ls (lastS c (b.u + 1) (changeS b.es c room).1.1 (changeS b.es c room).1.2)⟩) := by
  have hw2 : ¬ wrongS c = true := by rw [hw]; decide
  have hu2 : ¬ 1048576 ≤ b.u := by omega
  have e : applyS b c room = if c.k = 4 then ((0, ⟨0, en0, namesS b.es ⟨#[]⟩⟩), ⟨b.u + 1, b.es, b.ls⟩)
    else if c.k = 3 then ((0, ⟨(changeS b.es c room).1.1, (changeS b.es c room).1.2, []⟩), ⟨b.u + 1, (changeS b.es c room).2, b.ls⟩)
    else ((0, ⟨(changeS b.es c room).1.1, (changeS b.es c room).1.2, []⟩), ⟨b.u + 1, (changeS b.es c room).2, seatS b.ls (lastS c (b.u + 1) (changeS b.es c room).1.1 (changeS b.es c room).1.2)⟩) := by
    unfold applyS
    rw [if_neg hw2, if_neg hu2]
  unfold ApplyS
  rw [e]
  by_cases h4 : c.k = 4
  · rw [if_pos h4]; rfl
  · rw [if_neg h4]
    by_cases h3 : c.k = 3
    · rw [if_pos h3]; rfl
    · rw [if_neg h3]; rfl

/-- Behind a command that may be a bucket may be. -/
theorem vb_next {b : Bu} {c : Cm} {room : Int} (h : VB b) (hc : COk c) (hu : b.u < 1048576) (hr : (b.es.length : Int) ≤ room) (hr2 : room ≤ 256) :
    (ApplyS b c room).1.1 = 0 ∧ (ApplyS b c room).2.u = b.u + 1 ∧ VB (ApplyS b c room).2 ∧ ((ApplyS b c room).2.es.length : Int) ≤ room := by
  obtain ⟨h1, h2, h3, ⟨h4, h5⟩, h6, h7⟩ := vb_iff.1 h
  have hw := cok_right hc
  have hub := inB_le h1
  have hu1 : inB (b.u + 1) 0 1048576 = true := by unfold inB; simp; omega
  have hold : ∀ x ∈ b.ls, LOk (b.u + 1) x := fun x hx => by
    have q := h7 x hx
    refine ⟨q.cl, q.op, ?_, q.la⟩
    have := inB_le q.ins
    unfold inB; simp; omega
  have key : ∀ (es : List En) (ls : List La), es.length ≤ 256 → NR es → (∀ e ∈ es, EOk e) → CR ls → (∀ x ∈ ls, LOk (b.u + 1) x) → VB ⟨b.u + 1, es, ls⟩ := fun es ls a1 a2 a3 a4 a5 => vb_iff.2 ⟨hu1, a1, fun hz => by exfalso; change b.u + 1 = 0 at hz; omega, ⟨a2, a3⟩, a4, a5⟩
  rw [ApplyS_ok hw hu]
  by_cases h44 : c.k = 4
  · rw [if_pos h44]
    exact ⟨rfl, rfl, key _ _ h2 h4 h5 h6 hold, hr⟩
  · rw [if_neg h44]
    have hi := change_inv (room := room) h4 h5 hc h44
    generalize changeS b.es c room = r at hi
    have hrl := hi.room hr
    by_cases h33 : c.k = 3
    · rw [if_pos h33]
      exact ⟨rfl, rfl, key _ _ (by omega) hi.nr hi.ok h6 hold, hrl⟩
    · rw [if_neg h33]
      refine ⟨rfl, rfl, key _ _ (by omega) hi.nr hi.ok ?_ ?_, hrl⟩
      · rw [seatS_seatR h6]; exact cr_seatR h6
      · rw [seatS_seatR h6]
        intro x hx
        rcases mem_seatR hx with rfl | hx
        · refine ⟨hc.cl, hc.op, by unfold inB lastS; simp; omega, ?_⟩
          unfold lastB lastS
          dsimp only
          rcases hi.errs with e | e | e | e | e
          · have q := hi.some (.inl e)
            rw [e, if_neg (by decide), if_pos (by decide), q.fi, q.sz]; rfl
          · have q := hi.some (.inr (.inl e))
            rw [e, if_neg (by decide), if_pos (by decide), q.fi, q.sz]; rfl
          · have q := (hi.none (.inl e)).1
            rw [e, if_pos (by decide), q]; rfl
          · have q := (hi.none (.inr e)).1
            rw [e, if_pos (by decide), q]; rfl
          · have q := hi.some (.inr (.inr e))
            rw [e, if_neg (by decide), if_pos (by decide), q.fi, q.sz]; rfl
        · exact hold x hx
end Bk
end Go.Proofs.Ytcofcikdknmggaa
