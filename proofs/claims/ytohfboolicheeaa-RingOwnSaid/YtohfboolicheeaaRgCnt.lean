/-
  Shares and groups as plain laws: all shares are one together; one server more.
-/
import Derived.Test.YtohfboolicheeaaRgKnown
import Derived.Test.YtohfboolicheeaaRgFlo
namespace Go.Proofs.Ytohfboolicheeaa
open Go.Hp Go.RowKit
set_option linter.unusedVariables false
set_option linter.unusedSimpArgs false
set_option maxRecDepth 100000
namespace Rg

def endH : Int → List Pt → Int
  | last, [] => last
  | _, p :: t => endH p.h t
theorem endH_last : ∀ {l : List Pt} (last : Int), l ≠ [] → endH last l = lastH l
  | [], _, h => absurd rfl h
  | [p], _, _ => rfl
  | p :: q :: t, last, _ => by
    have := endH_last (l := q :: t) p.h (by simp)
    show endH p.h (q :: t) = _
    rw [this]
    unfold lastH
    rw [List.getLast?_cons_cons]
theorem cnt_lo (s : Int) : ∀ (l : List Pt) (last : Int), PS l → (∀ p ∈ l, last ≤ p.h) → 0 ≤ cnt s last l ∧ cnt s last l ≤ endH last l - last
  | [], last, _, _ => by simp [cnt, endH]
  | p :: t, last, h, hl => by
    obtain ⟨h1, h2⟩ := List.pairwise_cons.1 h
    have ih := cnt_lo s t p.h h2 h1
    have hp := hl p (by simp)
    unfold cnt endH
    split <;> omega
theorem end_le (l : List Pt) (last : Int) (h : PS l) (hl : ∀ p ∈ l, last ≤ p.h) : last ≤ endH last l := by
  have := cnt_lo 0 l last h hl
  omega
theorem le_end : ∀ {l : List Pt} {last : Int} {p : Pt}, PS l → p ∈ l → p.h ≤ endH last l
  | [], _, _, _, h => absurd h (by simp)
  | q :: t, last, p, h, hp => by
    obtain ⟨h1, h2⟩ := List.pairwise_cons.1 h
    unfold endH
    rcases List.mem_cons.1 hp with rfl | hp
    · exact end_le t p.h h2 h1
    · exact le_end h2 hp
theorem le_last {l : List Pt} {p : Pt} (h : PS l) (hp : p ∈ l) : p.h ≤ lastH l := by
  have := le_end (last := 0) h hp
  rwa [endH_last _ (List.ne_nil_of_mem hp)] at this
theorem last_mem {l : List Pt} (h : l ≠ []) : ∃ p ∈ l, lastH l = p.h := by
  refine ⟨l.getLast h, List.getLast_mem h, ?_⟩
  unfold lastH
  rw [List.getLast?_eq_some_getLast h]

def Hs (pts : List Pt) : Prop := ∀ p ∈ pts, 0 ≤ p.h ∧ p.h < 4294967296
theorem last_b {l : List Pt} (h : l ≠ []) (hb : Hs l) : 0 ≤ lastH l ∧ lastH l < 4294967296 := by
  obtain ⟨p, hp, he⟩ := last_mem h
  rw [he]
  exact hb p hp
theorem count_b {l : List Pt} (hs : PS l) (hb : Hs l) (h0 : 0 < l.length) (s : Int) : 0 ≤ countS l s ∧ countS l s ≤ 4294967296 := by
  have hne : l ≠ [] := List.length_pos_iff.1 h0
  have hl := last_b hne hb
  have := cnt_lo s l (lastH l - 4294967296) hs (fun p hp => by have := hb p hp; omega)
  rw [endH_last _ hne] at this
  unfold countS
  omega

theorem sum_add (f g : Int → Int) : ∀ l : List Int, (l.map fun x => f x + g x).sum = (l.map f).sum + (l.map g).sum
  | [] => rfl
  | x :: l => by simp only [List.map_cons, List.sum_cons, sum_add f g l]; omega
theorem sum_zero : ∀ l : List Int, (l.map fun _ => (0 : Int)).sum = 0
  | [] => rfl
  | x :: l => by simp only [List.map_cons, List.sum_cons, sum_zero l]; omega
theorem sum_ite (x d : Int) : ∀ {l : List Int}, x ∉ l → (l.map fun s => if x = s then d else 0).sum = 0
  | [], _ => rfl
  | y :: l, h => by
    rw [List.mem_cons, not_or] at h
    rw [List.map_cons, List.sum_cons, sum_ite x d h.2, if_neg h.1]
    omega
theorem sum_ite1 (x d : Int) : ∀ {l : List Int}, l.Nodup → x ∈ l → (l.map fun s => if x = s then d else 0).sum = d
  | [], _, h => absurd h (by simp)
  | y :: l, h, hx => by
    obtain ⟨h1, h2⟩ := List.nodup_cons.1 h
    rw [List.map_cons, List.sum_cons]
    rcases List.mem_cons.1 hx with rfl | hx2
    · rw [if_pos rfl, sum_ite x d h1]; omega
    · have : x ≠ y := by rintro rfl; exact h1 hx2
      rw [if_neg this, sum_ite1 x d h2 hx2]; omega
theorem cnt_sum {SS : List Int} (hd : SS.Nodup) : ∀ (l : List Pt) (last : Int), (∀ p ∈ l, p.s ∈ SS) → (SS.map fun s => cnt s last l).sum = endH last l - last
  | [], last, _ => by simp only [cnt, endH]; rw [sum_zero]; omega
  | p :: t, last, h => by
    have ih := cnt_sum hd t p.h (fun q hq => h q (by simp [hq]))
    simp only [cnt, endH]
    rw [sum_add (fun s => if p.s = s then p.h - last else 0) (fun s => cnt s p.h t), ih, sum_ite1 _ _ hd (h p (by simp))]
    omega
theorem count_sum {SS : List Int} {l : List Pt} (hd : SS.Nodup) (h0 : 0 < l.length) (h : ∀ p ∈ l, p.s ∈ SS) : (SS.map (countS l)).sum = 4294967296 := by
  have hne : l ≠ [] := List.length_pos_iff.1 h0
  have := cnt_sum hd l (lastH l - 4294967296) h
  rw [endH_last _ hne] at this
  show (SS.map fun s => cnt s (lastH l - 4294967296) l).sum = _
  omega
theorem sum_nonneg {f : Int → Int} (hf : ∀ x, 0 ≤ f x) : ∀ l : List Int, 0 ≤ (l.map f).sum
  | [] => Int.le_refl _
  | x :: l => by
    have := sum_nonneg hf l
    have := hf x
    rw [List.map_cons, List.sum_cons]
    omega
theorem sum_take {f : Int → Int} (hf : ∀ x, 0 ≤ f x) (l : List Int) (k : Nat) : 0 ≤ ((l.take k).map f).sum ∧ ((l.take k).map f).sum ≤ (l.map f).sum := by
  refine ⟨sum_nonneg hf _, ?_⟩
  have := sum_nonneg hf (l.drop k)
  conv => rhs; rw [← List.take_append_drop k l]
  rw [List.map_append, List.sum_append]
  omega
theorem sum_step {f : Int → Int} {l : List Int} {k : Nat} {x : Int} (h : l[k]? = some x) : ((l.take (k + 1)).map f).sum = ((l.take k).map f).sum + f x := by
  rw [List.take_add_one, h, Option.toList_some, List.map_append, List.sum_append]
  simp
theorem pts_s {S : List Int} {P : Nat} {p : Pt} (hp : p ∈ sortP (ptsOf S P)) : p.s ∈ S := by
  have h1 := (sortP_perm _).mem_iff.1 hp
  unfold ptsOf at h1
  obtain ⟨s, h3, h2⟩ := List.mem_flatMap.1 h1
  obtain ⟨n, _, rfl⟩ := List.mem_map.1 h2
  exact h3

/-- One server more takes from no one: a share is none the greater. -/
theorem cnt_more {s id : Int} (hne : s ≠ id) : ∀ (l : List Pt) (last last2 : Int), PS l → (∀ p ∈ l, last ≤ p.h) → last2 ≤ last → cnt s last l ≤ cnt s last2 (l.filter fun p => decide (p.s ≠ id))
  | [], _, _, _, _, _ => Int.le_refl _
  | p :: t, last, last2, h, hl, h2 => by
    obtain ⟨g1, g2⟩ := List.pairwise_cons.1 h
    have hp := hl p (by simp)
    by_cases e : p.s = id
    · rw [List.filter_cons_of_neg (by simpa using e)]
      have e2 : cnt s last (p :: t) = (if p.s = s then p.h - last else 0) + cnt s p.h t := rfl
      rw [e2, if_neg (by omega)]
      have := cnt_more hne t p.h last2 g2 g1 (by omega)
      omega
    · rw [List.filter_cons_of_pos (by simpa using e)]
      have := cnt_more hne t p.h p.h g2 g1 (Int.le_refl _)
      unfold cnt
      split <;> omega
theorem count_more {s id : Int} (hne : s ≠ id) {l : List Pt} (hs : PS l) (hb : Hs l) (h0 : (l.filter fun p => decide (p.s ≠ id)) ≠ []) : countS l s ≤ countS (l.filter fun p => decide (p.s ≠ id)) s := by
  have hl : l ≠ [] := by rintro rfl; exact h0 rfl
  have b1 := last_b hl hb
  have h1 : lastH (l.filter fun p => decide (p.s ≠ id)) ≤ lastH l := by
    obtain ⟨p, hp, he⟩ := last_mem h0
    rw [he]
    exact le_last hs (List.mem_filter.1 hp).1
  exact cnt_more hne l _ _ hs (fun p hp => by have := hb p hp; omega) (by omega)

/-- Sorted rows with the same points are the same. -/
theorem sortP_eq {a b : List Pt} (h : a.Pairwise fun a b => leP a b = true) (hp : a.Perm b) : a = sortP b := by
  refine List.Perm.eq_of_pairwise (le := fun a b => leP a b = true) (fun a b _ _ h3 h4 => ?_) h (sortP_sorted b) (hp.trans (sortP_perm b).symm)
  refine ahead_tot ?_ ?_
  · unfold leP at h4; simpa using h4
  · unfold leP at h3; simpa using h3
theorem sortI_eq {a b : List Int} (h : a.Pairwise fun a b => a ≤ b) (hp : a.Perm b) : a = sortI b :=
  List.Perm.eq_of_pairwise (le := fun a b => a ≤ b) (fun a b _ _ h3 h4 => Int.le_antisymm h3 h4) h (sortI_sorted b) (hp.trans (sortI_perm b).symm)
theorem sortI_perm_eq {a b : List Int} (hp : a.Perm b) : sortI a = sortI b := sortI_eq (sortI_sorted a) ((sortI_perm a).trans hp)
theorem ptsOf_perm {a b : List Int} (hp : a.Perm b) (P : Nat) : (ptsOf a P).Perm (ptsOf b P) := by
  unfold ptsOf
  exact hp.flatMap_right _
theorem ptsOf_filter (id : Int) (P : Nat) : ∀ S : List Int, (ptsOf S P).filter (fun p => decide (p.s ≠ id)) = ptsOf (S.filter fun s => decide (s ≠ id)) P
  | [] => rfl
  | s :: S => by
    have ih := ptsOf_filter id P S
    have e : ∀ T, ptsOf (s :: T) P = ((List.range P).map fun n : Nat => (⟨hash2 s n, s, n⟩ : Pt)) ++ ptsOf T P := fun T => by unfold ptsOf; rw [List.flatMap_cons]
    rw [e, List.filter_append, ih]
    by_cases h : s = id
    · rw [List.filter_cons_of_neg (by simpa using h)]
      have : (((List.range P).map fun n : Nat => (⟨hash2 s n, s, n⟩ : Pt)).filter fun p => decide (p.s ≠ id)) = [] := by
        rw [List.filter_eq_nil_iff]
        intro p hp
        obtain ⟨n, _, rfl⟩ := List.mem_map.1 hp
        simpa using h
      rw [this, List.nil_append]
    · rw [List.filter_cons_of_pos (by simpa using h), e]
      congr 1
      rw [List.filter_eq_self]
      intro p hp
      obtain ⟨n, _, rfl⟩ := List.mem_map.1 hp
      simpa using h
/-- Without the new server's points the ring is the old one. -/
theorem pts_without {S T : List Int} {id : Int} (hp : (T.filter fun s => decide (s ≠ id)).Perm S) (P : Nat) : (sortP (ptsOf (sortI T) P)).filter (fun p => decide (p.s ≠ id)) = sortP (ptsOf (sortI S) P) := by
  refine sortP_eq ((sortP_sorted _).filter _) ?_
  refine ((sortP_perm _).filter _).trans ?_
  rw [ptsOf_filter]
  refine ptsOf_perm ?_ P
  exact ((sortI_perm T).filter _).trans (hp.trans (sortI_perm S).symm)

/-! Groups. -/
theorem rot_pts {pts : List Pt} (hs : PS pts) (h0 : 0 < pts.length) (h : Int) : rot (pts.map Pt.s) (firstS pts h) = ((pts.filter fun p => decide (¬ p.h < h)) ++ pts.filter fun p => decide (p.h < h)).map Pt.s := by
  have key : ∀ l : List Pt, PS l → l.take (fi l h) = l.filter (fun p => decide (p.h < h)) ∧ l.drop (fi l h) = l.filter (fun p => decide (¬ p.h < h)) := by
    intro l
    induction l with
    | nil => intro _; exact ⟨rfl, rfl⟩
    | cons p t ih =>
      intro hps
      obtain ⟨g1, g2⟩ := List.pairwise_cons.1 hps
      obtain ⟨i1, i2⟩ := ih g2
      by_cases hp : p.h < h
      · have e : fi (p :: t) h = fi t h + 1 := by
          unfold fi
          rw [List.takeWhile_cons_of_pos (by simpa using hp)]
          rfl
        rw [e, List.take_succ_cons, List.drop_succ_cons, i1, i2, List.filter_cons_of_pos (by simpa using hp), List.filter_cons_of_neg (by simpa using hp)]
        exact ⟨rfl, rfl⟩
      · have e : fi (p :: t) h = 0 := by
          unfold fi
          rw [List.takeWhile_cons_of_neg (by simpa using hp)]
          rfl
        have hall : ∀ q ∈ p :: t, ¬ q.h < h := by
          intro q hq
          rcases List.mem_cons.1 hq with rfl | hq
          · exact hp
          · have := g1 q hq; omega
        rw [e, List.take_zero, List.drop_zero]
        refine ⟨?_, ?_⟩
        · symm
          rw [List.filter_eq_nil_iff]
          intro q hq
          simpa using hall q hq
        · symm
          rw [List.filter_eq_self]
          intro q hq
          simpa using hall q hq
  obtain ⟨k1, k2⟩ := key pts hs
  unfold rot
  rw [← List.map_drop, ← List.map_take, List.map_append, ← k1, ← k2]
  unfold firstS
  rcases Nat.lt_or_ge (fi pts h) pts.length with hlt | hge
  · rw [Nat.mod_eq_of_lt hlt]
  · have e : fi pts h = pts.length := Nat.le_antisymm (fi_le pts h) hge
    rw [e, Nat.mod_self]
    simp
theorem fold_prefix : ∀ (l out : List Int), out <+: l.foldl addS out
  | [], out => List.prefix_refl _
  | s :: l, out => by
    rw [List.foldl_cons]
    refine List.IsPrefix.trans ?_ (fold_prefix l (addS out s))
    unfold addS
    split
    · exact List.prefix_refl _
    · exact List.prefix_append _ _
theorem grp_take (n : Nat) : ∀ (l out : List Int), out.length ≤ n → grpS n out l = (l.foldl addS out).take n
  | [], out, h => by unfold grpS; rw [List.foldl_nil, List.take_of_length_le h]
  | s :: l, out, h => by
    rcases Nat.lt_or_ge out.length n with hlt | hge
    · unfold grpS
      rw [if_pos hlt, List.foldl_cons]
      refine grp_take n l (addS out s) ?_
      unfold addS
      split
      · exact h
      · rw [List.length_append]; simp; omega
    · rw [grpS_full (by omega)]
      obtain ⟨t, ht⟩ := fold_prefix (s :: l) out
      rw [← ht, List.take_append_of_le_length (by omega), List.take_of_length_le h]
theorem fold_filter (q : Int → Bool) : ∀ (l out : List Int), (l.foldl addS out).filter q = (l.filter q).foldl addS (out.filter q)
  | [], out => rfl
  | s :: l, out => by
    rw [List.foldl_cons, fold_filter q l]
    by_cases h : q s = true
    · rw [List.filter_cons_of_pos h, List.foldl_cons]
      congr 1
      unfold addS
      by_cases hm : s ∈ out
      · rw [if_pos hm, if_pos (List.mem_filter.2 ⟨hm, h⟩)]
      · rw [if_neg hm, if_neg (fun h2 => hm (List.mem_filter.1 h2).1), List.filter_append, List.filter_cons_of_pos h]
        rfl
    · rw [List.filter_cons_of_neg h]
      congr 1
      unfold addS
      by_cases hm : s ∈ out
      · rw [if_pos hm]
      · rw [if_neg hm, List.filter_append, List.filter_cons_of_neg h]
        simp
theorem fold_nodup : ∀ (l out : List Int), out.Nodup → (l.foldl addS out).Nodup
  | [], out, h => h
  | s :: l, out, h => by
    rw [List.foldl_cons]
    refine fold_nodup l _ ?_
    unfold addS
    split
    · exact h
    · rename_i hm
      rw [List.nodup_append]
      refine ⟨h, by simp, ?_⟩
      rintro a ha b hb rfl
      simp at hb
      subst hb
      exact hm ha
/-- The servers of a ring, each once, from a hash on. -/
def allS (pts : List Pt) (h : Int) : List Int := (((pts.filter fun p => decide (¬ p.h < h)) ++ pts.filter fun p => decide (p.h < h)).map Pt.s).foldl addS []
theorem group_all {pts : List Pt} (hs : PS pts) (h0 : 0 < pts.length) (n : Nat) (k : Ky) : groupS pts n k = (allS pts (hashK (keyH k))).take n := by
  unfold groupS allS
  rw [rot_pts hs h0, grp_take n _ _ (Nat.zero_le _)]
theorem all_nodup (pts : List Pt) (h : Int) : (allS pts h).Nodup := fold_nodup _ _ List.nodup_nil
theorem all_mem {pts : List Pt} {h : Int} {x : Int} : x ∈ allS pts h ↔ ∃ p ∈ pts, p.s = x := by
  unfold allS
  rw [fold_mem]
  simp only [List.not_mem_nil, false_or, List.mem_map, List.mem_append, List.mem_filter]
  constructor
  · rintro ⟨p, h1 | h1, h2⟩
    · exact ⟨p, h1.1, h2⟩
    · exact ⟨p, h1.1, h2⟩
  · rintro ⟨p, h1, h2⟩
    by_cases hp : p.h < h
    · exact ⟨p, .inr ⟨h1, by simpa using hp⟩, h2⟩
    · exact ⟨p, .inl ⟨h1, by simpa using hp⟩, h2⟩
theorem all_filter (pts : List Pt) (h id : Int) : (allS pts h).filter (fun s => decide (s ≠ id)) = allS (pts.filter fun p => decide (p.s ≠ id)) h := by
  unfold allS
  rw [fold_filter]
  congr 1
  rw [List.filter_map, List.filter_append, List.filter_filter, List.filter_filter, List.filter_filter, List.filter_filter]
  congr 2
  · apply List.filter_congr
    intro p _
    simp [Function.comp, Bool.and_comm]
  · apply List.filter_congr
    intro p _
    simp [Function.comp, Bool.and_comm]
/-- One server more: the group without it. -/
theorem group_more {D' : List Int} (hd : D'.Nodup) (id : Int) (n : Nat) {D m l rest : List Int} (hD : D'.filter (fun s => decide (s ≠ id)) = D) (hm : D'.take n = m) (hl : D.take n = l) (hr : m.filter (fun s => decide (s ≠ id)) = rest) :
    rest.length ≤ l.length ∧ l.length ≤ rest.length + 1 ∧ rest = l.take rest.length := by
  have hlen : ∀ {x : List Int}, x.Nodup → x.length ≤ (x.filter fun s => decide (s ≠ id)).length + 1 := by
    intro x hx
    induction x with
    | nil => simp
    | cons a t ih =>
      obtain ⟨g1, g2⟩ := List.nodup_cons.1 hx
      by_cases e : a = id
      · have : (t.filter fun s => decide (s ≠ id)) = t := by
          rw [List.filter_eq_self]
          intro b hb
          have : b ≠ id := by rintro rfl; subst e; exact g1 hb
          simpa using this
        rw [List.filter_cons_of_neg (by simpa using e), this]
        simp
      · have := ih g2
        rw [List.filter_cons_of_pos (by simpa using e)]
        simp only [List.length_cons]
        omega
  have hpre : rest <+: D := by
    rw [← hr, ← hD, ← hm]
    exact (List.take_prefix n D').filter _
  have hrn : rest.length ≤ n := by
    rw [← hr, ← hm]
    have h1 := List.length_filter_le (fun s => decide (s ≠ id)) (D'.take n)
    have h2 := List.length_take_le n D'
    omega
  have h1 := hlen (x := m) (by rw [← hm]; exact hd.sublist (List.take_sublist n D'))
  rw [hr] at h1
  have h2 : m.length = min n D'.length := by rw [← hm, List.length_take]
  have h3 : l.length = min n D.length := by rw [← hl, List.length_take]
  have h4 : D.length ≤ D'.length := by rw [← hD]; exact List.length_filter_le _ _
  have h5 := hpre.length_le
  refine ⟨by omega, by omega, ?_⟩
  rw [← hl, List.take_take, Nat.min_eq_left hrn]
  exact List.prefix_iff_eq_take.1 hpre
end Rg
end Go.Proofs.Ytohfboolicheeaa
