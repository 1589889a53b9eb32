/-
  The ring in plain Lean: hashes, points in order, groups.
-/
import Derived.Test.YtohfboolicheeaaEng
import Derived.Shelf.SlSortCmp.Insertion
namespace Go.Proofs.Ytohfboolicheeaa
open Go.Hp Go.RowKit Go.Sort
set_option linter.unusedVariables false
set_option linter.unusedSimpArgs false
namespace Rg

/-- A configuration without its servers' list; a key; a point. -/
structure Cf where
  F : Int
  P : Int
  B : Int
  K : Int
  R : Int
structure Ky where
  k : Int
  a : Int
  b : Int
  c : Int
structure Pt where
  h : Int
  s : Int
  n : Int
deriving DecidableEq, Inhabited

/-- The hash behind one byte more. -/
@[irreducible] def mixS (h b : Nat) : Nat := ((h ^^^ b) * 16777619) % 4294967296
/-- A number's bytes, the lowest first. -/
def byteS (n : Int) (i : Nat) : Nat := ((n / (2 ^ (8 * i) : Nat)) % 256).toNat
def bytes8 (n : Int) : List Nat := (List.range 8).map (byteS n)
@[irreducible] def hashB (h : Nat) (l : List Nat) : Nat := l.foldl mixS h
def numS (h : Nat) (n : Int) : Nat := hashB h (bytes8 n)
def hash0 : Nat := 2166136261
def hash2 (s n : Int) : Nat := numS (numS hash0 s) n
def hashK (k : Ky) : Nat := numS (numS (numS (numS hash0 k.k) k.a) k.b) k.c
theorem hashB_app (h : Nat) (a b : List Nat) : hashB h (a ++ b) = hashB (hashB h a) b := by unfold hashB; rw [List.foldl_append]
theorem mixS_lt (h b : Nat) : mixS h b < 4294967296 := by unfold mixS; exact Nat.mod_lt _ (by decide)
theorem hashB_nil (h : Nat) : hashB h [] = h := by unfold hashB; rw [List.foldl_nil]
theorem hashB_cons (h b : Nat) (l : List Nat) : hashB h (b :: l) = hashB (mixS h b) l := by unfold hashB; rw [List.foldl_cons]
theorem hashB_one (h b : Nat) : hashB h [b] = mixS h b := by rw [hashB_cons, hashB_nil]
theorem hashB_lt : ∀ (l : List Nat) (h : Nat), h < 4294967296 → hashB h l < 4294967296
  | [], h0, h => by rw [hashB_nil]; exact h
  | b :: l, h0, _ => by rw [hashB_cons]; exact hashB_lt l (mixS h0 b) (mixS_lt _ _)
theorem numS_lt {h : Nat} (n : Int) (hh : h < 4294967296) : numS h n < 4294967296 := hashB_lt _ _ hh
theorem hash2_lt (s n : Int) : hash2 s n < 4294967296 := numS_lt _ (numS_lt _ (by decide))
theorem hashK_lt (k : Ky) : hashK k < 4294967296 := numS_lt _ (numS_lt _ (numS_lt _ (numS_lt _ (by decide))))
theorem byteS_lt (n : Int) (i : Nat) : byteS n i < 256 := by
  unfold byteS
  omega

/-- All points, server by server. -/
def ptsOf (S : List Int) (p : Nat) : List Pt := S.flatMap fun s => (List.range p).map fun n : Nat => ⟨hash2 s n, s, n⟩
theorem ptsOf_len (S : List Int) (p : Nat) : (ptsOf S p).length = S.length * p := by
  unfold ptsOf
  induction S with
  | nil => simp
  | cons s S ih => rw [List.flatMap_cons, List.length_append, ih, List.length_map, List.length_range, List.length_cons, Nat.add_mul]; omega

/-- Does a stand ahead of b? -/
def aheadS (a b : Pt) : Bool := if a.h ≠ b.h then decide (a.h < b.h) else if a.s ≠ b.s then decide (a.s < b.s) else decide (a.n < b.n)
theorem ahead_irr (a : Pt) : aheadS a a = false := by simp [aheadS]
theorem ahead_trans {a b c : Pt} (h1 : aheadS a b = true) (h2 : aheadS b c = true) : aheadS a c = true := by
  unfold aheadS at *
  (repeat' split at h1) <;> (repeat' split at h2) <;> (repeat' split) <;> simp at * <;> omega
theorem ahead_ntrans {a b c : Pt} (h1 : aheadS a b = false) (h2 : aheadS b c = false) : aheadS a c = false := by
  unfold aheadS at *
  (repeat' split at h1) <;> (repeat' split at h2) <;> (repeat' split) <;> simp at * <;> omega
theorem ahead_tot {a b : Pt} (h1 : aheadS a b = false) (h2 : aheadS b a = false) : a = b := by
  unfold aheadS at *
  obtain ⟨ah, as_, an⟩ := a
  obtain ⟨bh, bs, bn⟩ := b
  dsimp only at *
  (repeat' split at h1) <;> (repeat' split at h2) <;> simp at * <;> omega

/-- The comparison of points, as the program has it. -/
def cmpP (x y : Pt) : Int := if Lib.compareInt x.h y.h ≠ 0 then Lib.compareInt x.h y.h else if Lib.compareInt x.s y.s ≠ 0 then Lib.compareInt x.s y.s else Lib.compareInt x.n y.n
theorem ltP (x y : Pt) : ltOf cmpP x y = aheadS x y := by
  unfold ltOf cmpP aheadS Lib.compareInt
  (repeat' split) <;> simp <;> omega
theorem swoP : SWO (ltOf cmpP) where
  irrefl x := by rw [ltP]; exact ahead_irr x
  trans x y z h1 h2 := by rw [ltP] at *; exact ahead_trans h1 h2
  ntrans x y z h1 h2 := by rw [ltP] at *; exact ahead_ntrans h1 h2
theorem totP (x y : Pt) (h1 : ltOf cmpP x y = false) (h2 : ltOf cmpP y x = false) : x = y := by rw [ltP] at *; exact ahead_tot h1 h2
theorem ltI (x y : Int) : ltOf Lib.compareInt x y = decide (x < y) := by
  unfold ltOf Lib.compareInt
  (repeat' split) <;> simp <;> omega
theorem swoI : SWO (ltOf Lib.compareInt) where
  irrefl x := by rw [ltI]; simp
  trans x y z h1 h2 := by rw [ltI] at *; simp at *; omega
  ntrans x y z h1 h2 := by rw [ltI] at *; simp at *; omega
theorem totI (x y : Int) (h1 : ltOf Lib.compareInt x y = false) (h2 : ltOf Lib.compareInt y x = false) : x = y := by rw [ltI] at *; simp at *; omega

/-- The order 'not behind'. -/
def leP (x y : Pt) : Bool := !aheadS y x
def leI (x y : Int) : Bool := decide (x ≤ y)
theorem leP_eq : (fun x y : Pt => !ltOf cmpP y x) = leP := by funext x y; unfold leP; rw [ltP]
theorem leI_eq : (fun x y : Int => !ltOf Lib.compareInt y x) = leI := by
  funext x y
  unfold leI
  rw [ltI]
  by_cases h : x ≤ y
  · have h' : ¬ y < x := by omega
    simp [h, h']
  · have h' : y < x := by omega
    simp [h, h']
/-- Sorted rows. -/
def sortP (l : List Pt) : List Pt := l.mergeSort leP
def sortI (l : List Int) : List Int := l.mergeSort leI
theorem leP_trans (a b c : Pt) (h1 : leP a b = true) (h2 : leP b c = true) : leP a c = true := by
  unfold leP at *
  simp only [Bool.not_eq_true'] at *
  exact ahead_ntrans h2 h1
theorem leP_total (a b : Pt) : (leP a b || leP b a) = true := by
  unfold leP
  cases h1 : aheadS b a with
  | false => rfl
  | true =>
    cases h2 : aheadS a b with
    | false => rfl
    | true =>
      have := ahead_trans h1 h2
      rw [ahead_irr] at this
      cases this
theorem sortP_perm (l : List Pt) : (sortP l).Perm l := List.mergeSort_perm l leP
theorem sortP_sorted (l : List Pt) : (sortP l).Pairwise fun a b => leP a b = true := List.pairwise_mergeSort leP_trans leP_total l
theorem sortI_perm (l : List Int) : (sortI l).Perm l := List.mergeSort_perm l leI
theorem sortI_sorted (l : List Int) : (sortI l).Pairwise fun a b => a ≤ b := by
  have := List.pairwise_mergeSort (le := leI) (fun a b c h1 h2 => by unfold leI at *; simp at *; omega) (fun a b => by unfold leI; simp; omega) l
  refine this.imp ?_
  intro a b h
  unfold leI at h
  simpa using h

/-- One point more, in its place (from the end). -/
def insRev (p : Pt) : List Pt → List Pt
  | [] => [p]
  | x :: t => if aheadS p x = true then x :: insRev p t else p :: x :: t
def insP (p : Pt) (l : List Pt) : List Pt := (insRev p l.reverse).reverse
theorem insRev_perm (p : Pt) : ∀ l, (insRev p l).Perm (p :: l)
  | [] => List.Perm.refl _
  | x :: t => by
    unfold insRev
    split
    · exact ((insRev_perm p t).cons x).trans (List.Perm.swap _ _ _)
    · exact List.Perm.refl _
theorem mem_insRev {p q : Pt} {l : List Pt} (h : q ∈ insRev p l) : q = p ∨ q ∈ l := by
  have := (insRev_perm p l).mem_iff.1 h
  simpa using this
theorem insRev_sorted (p : Pt) : ∀ {l : List Pt}, l.Pairwise (fun a b => leP b a = true) → (insRev p l).Pairwise (fun a b => leP b a = true)
  | [], _ => List.pairwise_singleton _ _
  | x :: t, h => by
    obtain ⟨h1, h2⟩ := List.pairwise_cons.1 h
    unfold insRev
    by_cases hp : aheadS p x = true
    · rw [if_pos hp]
      refine List.pairwise_cons.2 ⟨fun q hq => ?_, insRev_sorted p h2⟩
      rcases mem_insRev hq with rfl | hq
      · have := leP_total q x
        have hn : leP x q = false := by unfold leP; rw [hp]; rfl
        rw [hn, Bool.or_false] at this
        exact this
      · exact h1 q hq
    · rw [if_neg hp]
      have hxp : leP x p = true := by unfold leP; simp [hp]
      refine List.pairwise_cons.2 ⟨fun q hq => ?_, h⟩
      rcases List.mem_cons.1 hq with rfl | hq
      · exact hxp
      · exact leP_trans _ _ _ (h1 q hq) hxp
theorem insP_perm (p : Pt) (l : List Pt) : (insP p l).Perm (p :: l) :=
  (List.reverse_perm _).trans ((insRev_perm p _).trans ((List.reverse_perm l).cons p))
theorem insP_sorted (p : Pt) {l : List Pt} (h : l.Pairwise fun a b => leP a b = true) : (insP p l).Pairwise fun a b => leP a b = true := by
  unfold insP
  rw [List.pairwise_reverse]
  exact insRev_sorted p (List.pairwise_reverse.2 h)
/-- All points put in one by one: the sorted row. -/
theorem foldl_ins : ∀ (l acc : List Pt), acc.Pairwise (fun a b => leP a b = true) → (l.foldl (fun a p => insP p a) acc).Pairwise (fun a b => leP a b = true) ∧ (l.foldl (fun a p => insP p a) acc).Perm (acc ++ l)
  | [], acc, h => ⟨h, by simp⟩
  | p :: l, acc, h => by
    obtain ⟨h1, h2⟩ := foldl_ins l (insP p acc) (insP_sorted p h)
    refine ⟨h1, h2.trans ?_⟩
    have h3 : (insP p acc ++ l).Perm ((p :: acc) ++ l) := (insP_perm p acc).append_right l
    exact h3.trans List.perm_middle.symm
theorem sortP_ins (l : List Pt) : l.foldl (fun a p => insP p a) [] = sortP l := by
  obtain ⟨h1, h2⟩ := foldl_ins l [] List.Pairwise.nil
  refine List.Perm.eq_of_pairwise (le := fun a b => leP a b = true) (fun a b _ _ h3 h4 => ?_) h1 (sortP_sorted l) (h2.trans (by rw [List.nil_append]; exact (sortP_perm l).symm))
  refine ahead_tot ?_ ?_
  · unfold leP at h4; simpa using h4
  · unfold leP at h3; simpa using h3

/-- The servers of a list in rising order, as the document has it. -/
def risingS (l : List Int) : List Int := (List.range 255).flatMap fun i : Nat => l.filter fun x => decide (x = (i : Int) + 1)
theorem rising_sorted (l : List Int) : (risingS l).Pairwise fun a b => a ≤ b := by
  unfold risingS
  rw [List.pairwise_flatMap]
  refine ⟨fun i _ => ?_, ?_⟩
  · have : ∀ x ∈ l.filter (fun x => decide (x = (i : Int) + 1)), x = (i : Int) + 1 := by
      intro x hx
      simpa using (List.mem_filter.1 hx).2
    refine List.pairwise_of_forall_mem_list fun a ha b hb => ?_
    rw [this a ha, this b hb]
    exact Int.le_refl _
  · refine List.pairwise_lt_range.imp fun {i j} hij a ha b hb => ?_
    have h1 : a = (i : Int) + 1 := by simpa using (List.mem_filter.1 ha).2
    have h2 : b = (j : Int) + 1 := by simpa using (List.mem_filter.1 hb).2
    omega
theorem rising_count (l : List Int) (x : Int) (hl : ∀ y ∈ l, 1 ≤ y ∧ y ≤ 255) : (risingS l).count x = l.count x := by
  unfold risingS
  rw [List.count_flatMap]
  have e : ∀ i : Nat, (l.filter (fun y => decide (y = (i : Int) + 1))).count x = if x = (i : Int) + 1 then l.count x else 0 := by
    intro i
    by_cases h : x = (i : Int) + 1
    · rw [if_pos h, List.count_filter (by simpa using h)]
    · rw [if_neg h]
      refine List.count_eq_zero.2 fun hm => h ?_
      simpa using (List.mem_filter.1 hm).2
  by_cases hx : x ∈ l
  · obtain ⟨h1, h2⟩ := hl x hx
    obtain ⟨m, hm⟩ : ∃ m : Nat, x = (m : Int) + 1 := ⟨(x - 1).toNat, by omega⟩
    have hm2 : m < 255 := by omega
    have e2 : (List.count x ∘ fun i : Nat => l.filter fun y => decide (y = (i : Int) + 1)) = fun i => if i = m then l.count x else 0 := by
      funext i
      show (l.filter _).count x = _
      rw [e]
      by_cases h : i = m
      · rw [if_pos h, if_pos (by omega)]
      · rw [if_neg h, if_neg (by omega)]
    rw [e2]
    have hs : ∀ (n : Nat), ((List.range n).map fun i => if i = m then l.count x else 0).sum = if m < n then l.count x else 0 := by
      intro n
      induction n with
      | zero => simp
      | succ n ih =>
        rw [List.range_succ, List.map_append, List.sum_append, ih]
        by_cases h : m < n
        · simp [h, show m < n + 1 by omega, show n ≠ m by omega]
        · by_cases h2 : n = m
          · subst h2; simp
          · simp [h, h2, show ¬ m < n + 1 by omega]
    rw [hs, if_pos hm2]
  · have e2 : (List.count x ∘ fun i : Nat => l.filter fun y => decide (y = (i : Int) + 1)) = fun i => 0 := by
      funext i
      show (l.filter _).count x = _
      rw [e, List.count_eq_zero.2 hx, ite_self]
    rw [e2, List.count_eq_zero.2 hx]
    have : ∀ n : Nat, ((List.range n).map fun _ => 0).sum = 0 := by
      intro n
      induction n with
      | zero => rfl
      | succ n ih => rw [List.range_succ, List.map_append, List.sum_append, ih]; rfl
    exact this _
theorem rising_sort {l : List Int} (hl : ∀ y ∈ l, 1 ≤ y ∧ y ≤ 255) : risingS l = sortI l := by
  refine List.Perm.eq_of_pairwise (le := fun a b => a ≤ b) (fun a b _ _ h3 h4 => by omega) (rising_sorted l) (sortI_sorted l) ?_
  refine List.Perm.trans ?_ (sortI_perm l).symm
  exact List.perm_iff_count.2 fun x => rising_count l x hl
end Rg
end Go.Proofs.Ytohfboolicheeaa
