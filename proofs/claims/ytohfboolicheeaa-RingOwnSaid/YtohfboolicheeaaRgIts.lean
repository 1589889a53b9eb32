/-
  Many rows at once; a row appended to where another one may lie in the same memory.
-/
import Derived.Test.YtohfboolicheeaaRgFront
namespace Go.Proofs.Ytohfboolicheeaa
open Go.Hp Go.RowKit
set_option linter.unusedVariables false
set_option linter.unusedSimpArgs false
set_option maxRecDepth 100000
set_option maxHeartbeats 1000000
namespace Rg
def Its (f : Nat → HProp) (N : Nat) : List HProp := (List.range N).map f
def Ers (f : Nat → HProp) (N i : Nat) : List HProp := ((List.range N).erase i).map f
section
variable {w0 w : World} {L : List HProp} {f f' : Nat → HProp} {N i : Nat}
theorem its_perm (hi : i < N) : (Its f N).Perm (f i :: Ers f N i) := (List.perm_cons_erase (List.mem_range.2 hi)).map f
theorem its_take (Fr : List HProp) (hi : i < N) (H : At w0 (Fr ++ (Its f N ++ L)) w) : At w0 (f i :: (Fr ++ (Ers f N i ++ L))) w := by
  refine H.perm ?_
  refine (((its_perm hi).append_right L).append_left Fr).trans ?_
  exact List.perm_middle
theorem ers_eq (h : ∀ j, j ≠ i → f' j = f j) : Ers f' N i = Ers f N i := by
  unfold Ers
  apply List.map_congr_left
  intro j hj
  exact h j ((List.Nodup.mem_erase_iff List.nodup_range).1 hj).1
theorem its_put (Fr : List HProp) (hi : i < N) (h : ∀ j, j ≠ i → f' j = f j) (H : At w0 (f' i :: (Fr ++ (Ers f N i ++ L))) w) : At w0 (Fr ++ (Its f' N ++ L)) w := by
  rw [← ers_eq (f' := f') (f := f) h] at H
  refine H.perm ?_
  refine List.perm_middle.symm.trans ?_
  exact (((its_perm hi).symm.append_right L).append_left Fr)
theorem its_congr (h : ∀ j, j < N → f' j = f j) : Its f' N = Its f N := by
  unfold Its
  apply List.map_congr_left
  intro j hj
  exact h j (List.mem_range.1 hj)
theorem its_drop (Fr : List HProp) (H : At w0 (Fr ++ (Its f N ++ L)) w) : At w0 (Fr ++ L) w := At.dropAll _ H
theorem its_snoc (Fr : List HProp) (H : At w0 (f N :: (Fr ++ (Its f N ++ L))) w) : At w0 (Fr ++ (Its f (N + 1) ++ L)) w := by
  refine H.perm ?_
  unfold Its
  rw [List.range_succ, List.map_append, List.map_cons, List.map_nil, List.append_assoc]
  refine List.perm_middle.symm.trans ?_
  exact List.Perm.append_left Fr (List.perm_middle.symm.trans (by rfl))
theorem its_conv (Fr : List HProp) (hc : ∀ i, i < N → ∀ M, At w0 (f i :: M) w → At w0 (f' i :: M) w) (H : At w0 (Fr ++ (Its f N ++ L)) w) : At w0 (Fr ++ (Its f' N ++ L)) w := by
  have key : ∀ k, k ≤ N → At w0 (Fr ++ (Its (fun i => if i < k then f' i else f i) N ++ L)) w := by
    intro k
    induction k with
    | zero =>
      intro _
      have e : Its (fun i => if i < 0 then f' i else f i) N = Its f N := its_congr (fun j _ => if_neg (Nat.not_lt_zero j))
      rw [e]
      exact H
    | succ k ih =>
      intro hk
      have H1 := its_take (f := fun i => if i < k then f' i else f i) Fr (show k < N by omega) (ih (by omega))
      rw [if_neg (Nat.lt_irrefl k)] at H1
      have H2 := hc k (by omega) _ H1
      refine its_put (f := fun i => if i < k then f' i else f i) (f' := fun i => if i < k + 1 then f' i else f i) Fr (show k < N by omega) (fun j hj => ?_) ?_
      · by_cases h : j < k
        · rw [if_pos h, if_pos (by omega)]
        · rw [if_neg h, if_neg (by omega)]
      · rw [if_pos (Nat.lt_succ_self k)]
        exact H2
  have := key N (Nat.le_refl _)
  have e : Its (fun i => if i < N then f' i else f i) N = Its f' N := its_congr (fun j hj => if_pos hj)
  rwa [e] at this
theorem own_base {e : TypeId} {size n n' cap : Nat} {ad : Option Addr} {xs : List Value} (h0 : 0 < n) (H : At w0 (OwnRow e size (.slice ad n' cap) n xs :: L) w) : ∃ g, ad = some ⟨g, 0, none⟩ := by
  rcases own_cases H with ⟨_, h, _⟩ | ⟨g, cap2, cur, h, _⟩
  · omega
  · cases h
    exact ⟨g, rfl⟩
theorem own_cell {e : TypeId} {size n n' cap j : Nat} {b : Addr} {xs : List Value} {u : Value} (H : At w0 (OwnRow e size (.slice (some b) n cap) n' xs :: L) w) (hj : xs[j]? = some u) : w.cell? (b.add j) = some u := by
  obtain ⟨ad, cap2, hv, _, _, _, _, hc⟩ := own_value H
  cases hv
  exact hc b rfl j u hj
theorem own_any {v : Value} {l : List Int} (H : At w0 (OI v l :: L) w) : ∃ ad cap, v = .slice ad l.length cap := by
  obtain ⟨ad, cap, hv, _⟩ := own_value H
  exact ⟨ad, cap, hv⟩

def bsI (i n : Nat) : List Int := (List.range n).map fun k : Nat => 1000 * (i : Int) + k
def mkI (i j : Nat) : List Int := (List.range j).map fun k : Nat => 0 - 1000 * (i : Int) - k - 1
theorem bsI_len (i n : Nat) : (bsI i n).length = n := by simp [bsI]
theorem mkI_len (i n : Nat) : (mkI i n).length = n := by simp [mkI]
theorem bsI_get {i n k : Nat} (h : k < n) : (bsI i n)[k]? = some (1000 * (i : Int) + k) := by simp [bsI, h]
theorem mkI_get {i n k : Nat} (h : k < n) : (mkI i n)[k]? = some (0 - 1000 * (i : Int) - k - 1) := by simp [mkI, h]
theorem mkI_snoc (i j : Nat) : mkI i (j + 1) = mkI i j ++ [0 - 1000 * (i : Int) - j - 1] := by simp [mkI, List.range_succ]

/-- One row lies in the other's memory, ahead. -/
def Shr (sh : Bool) (av : Value) (bs : List Int) (v : Value) (xs : List Int) : Prop := sh = true → ∃ ad cap, av = .slice ad bs.length cap ∧ v = .slice ad xs.length cap ∧ bs <+: xs
end

section
variable {ops : Array Oper} {Q : Exit → Act → World → Prop} {a : Act} {w : World} {rest : List Oper} {o : Oper} {w0 : World} {L : List HProp}
theorem iCs_nil {l : List Int} (h : iCs l = []) : l = [] := by
  have := iCs_len l
  rw [h] at this
  exact List.eq_nil_of_length_eq_zero (by simpa using this.symm)
theorem oi_one {v : Value} {l : List Int} {y : Int} (H : At w0 (OwnRow 3 1 v (l.length + 1) (iCs l ++ [.int .i64 y]) :: L) w) : At w0 (OI v (l ++ [y]) :: L) w := oi_snoc H
/-- append of one number onto a row in whose memory another one may lie. -/
theorem st_append2 (hw : Region.wanted o (yielded ops a.tmps) = true) (s x : Operand) (t : TypeId) (ho : o.op = .call { callee := .builtin .append, args := #[s, x], argTypes := #[t, t] }) (ht : Try.prog.underlying t = some (.slice 3))
    (v : Value) (xs : List Int) (hs : a.eval s = v) (av : Value) (bs : List Int) (sh : Bool) (hsh : Shr sh av bs v xs) (H : At w0 (OI v xs :: (if sh then emp else OI av bs) :: L) w)
    (y : Int) (ad : Addr) (hx : a.eval x = .slice (some ad) 1 1) (hc : w.cell? (ad.add 0) = some (.int .i64 y)) (hn : xs.length ≤ 1000)
    (h : ∀ v' sh' w', Shr sh' av bs v' (xs ++ [y]) → At w0 (OI v' (xs ++ [y]) :: (if sh' then emp else OI av bs) :: L) w' → ∀ K : Act → World → Prop, (∀ a w, wpList Try.prog ops Q rest a w → K a w) → K (a.put o.dst v') w') : wpList Try.prog ops Q (o :: rest) a w := by
  have key : ∃ v' sh' w', (Builtin.append_ #[t, t] o.type #[v, .slice (some ad) 1 1]).run Try.prog w = .ok v' w' ∧ Shr sh' av bs v' (xs ++ [y]) ∧ At w0 (OI v' (xs ++ [y]) :: (if sh' then emp else OI av bs) :: L) w' := by
    have hsz : sizeT Try.prog 3 = some 1 := st3
    have hby : bytesT Try.prog 3 = some 8 := bt3
    have hz : zeroT Try.prog 3 = some (.int .i64 0) := zt3
    unfold bytesT at hby
    cases hi : Try.prog.info? 3 with
    | none => simp [hi] at hby
    | some i =>
      simp only [hi, Option.map_some, Option.some.injEq] at hby
      have his : i.size = 1 := by simpa [sizeT, hi] using hsz
      have hiz : i.zero = some (.int .i64 0) := by simpa [zeroT, hi] using hz
      have hnews : ∀ j u, ([.int .i64 y] : List Value)[j]? = some u → w.cell? (ad.add j) = some u := by
        intro j u hj
        cases j with
        | zero => rw [← hj]; exact hc
        | succ j => simp at hj
      have h1 : ∀ u ∈ ([.int .i64 y] : List Value), u.oneCell' = true := by simp [Value.oneCell']
      unfold OI at H
      rcases own_cases H with ⟨rfl, h0, hx0, HL⟩ | ⟨g, cap, cur, rfl, r2, r3, r4, r5, r6, H2⟩
      · have hxs := iCs_nil hx0
        subst hxs
        have hr := run_append_nil (P := Try.prog) w t o.type 3 i (.int .i64 0) ht hi hiz ad 1 1 [.int .i64 y] (by rw [his]; rfl) hnews (by omega) (by omega) (by rw [hby]; omega)
        have hge := grownCap_ge w 1 0 3
        have HQ : At w0 (OI av bs :: L) w := by
          cases sh with
          | false => exact HL
          | true =>
            obtain ⟨ad2, cap2, e1, e2, e3⟩ := hsh rfl
            cases e2
            have hb : bs = [] := List.prefix_nil.1 e3
            subst hb
            subst e1
            exact oi_nil HL.drop
        have HA := At.alloc (w := w.drew) HQ.drew (Obj.cells (([.int .i64 y] : List Value).toArray ++ Builtin.zeroCells (Value.int .i64 0).cells (grownCap w 1 0 3 - 1)) 3)
        refine ⟨_, false, _, hr, fun h => (by cases h), ?_⟩
        refine own_mk HA hge (grownCap_le_maxLen w 1 0 3 (by simp [maxLen])) ?_ (by rfl) ?_
        · simp only [Array.size_append, List.size_toArray, size_zeroCells]
          show 1 + (grownCap w 1 0 3 - 1) * 1 = grownCap w 1 0 3 * 1
          omega
        · rw [Array.toList_append]
          rfl
      · by_cases hroom : xs.length + 1 ≤ cap
        · have hfit : xs.length * i.size + ([.int .i64 y] : List Value).length ≤ cur.size := by rw [r4, his]; simp; omega
          have hr := run_append_room (P := Try.prog) w t o.type 3 i ht hi g xs.length cap cur H2.get0 ad 1 1 [.int .i64 y] (by rw [his]; rfl) hnews h1 hroom hfit
          rw [his] at hr hfit
          refine ⟨_, sh, _, hr, fun h => ?_, ?_⟩
          · obtain ⟨ad2, cap2, e1, e2, e3⟩ := hsh h
            cases e2
            exact ⟨_, cap, e1, by rw [List.length_append]; rfl, e3.trans (List.prefix_append _ _)⟩
          · refine oi_one (own_mk H2.setRow0 hroom r3 ?_ (by rw [List.length_append, r5]; simp) ?_)
            · simp only [List.size_toArray, List.length_append, List.length_take, List.length_drop, Array.length_toList]
              omega
            · rw [r6]
              have : (xs.length + 1) * 1 = (iCs xs ++ [Value.int .i64 y]).length := by rw [List.length_append, r5]; simp
              rw [this]
              exact List.take_left
        · have holds : ∀ j u, (iCs xs)[j]? = some u → w.cell? ((⟨g, 0, none⟩ : Addr).add j) = some u := fun j u hj => own_cell H hj
          have hr := run_append_grow (P := Try.prog) w t o.type 3 i (.int .i64 0) ht hi hiz ⟨g, 0, none⟩ xs.length cap (iCs xs) (by rw [his]; exact r5) holds ad 1 1 [.int .i64 y] (by rw [his]; rfl) hnews (by omega) (by omega) (growslice_fits (by omega) (by rw [hby]; omega))
          have hge := grownCap_ge w (xs.length + 1) cap 3
          have HQ : At w0 (OI av bs :: L) w := by
            cases sh with
            | false => exact H2.drop
            | true =>
              obtain ⟨ad2, cap2, e1, e2, e3⟩ := hsh rfl
              cases e2
              subst e1
              have hbl := e3.length_le
              refine own_mk (H2.sel 2 [0]) (by omega) r3 r4 (iCs_len bs) ?_
              obtain ⟨tl, rfl⟩ := e3
              rw [iCs_app] at r6
              have : cur.toList.take (bs.length * 1) = (cur.toList.take ((bs ++ tl).length * 1)).take (bs.length * 1) := by
                rw [List.take_take, Nat.min_eq_left (by rw [List.length_append]; omega)]
              rw [this, r6, ← iCs_len bs]
              exact List.take_left
          have HA := At.alloc (w := w.drew) HQ.drew (.cells ((iCs xs).toArray ++ ([.int .i64 y] : List Value).toArray ++ Builtin.zeroCells (Value.int .i64 0).cells (grownCap w (xs.length + 1) cap 3 - (xs.length + 1))) 3)
          refine ⟨_, false, _, hr, fun h => (by cases h), ?_⟩
          refine oi_one (own_mk HA hge (grownCap_le_maxLen w (xs.length + 1) cap 3 (by simp only [maxLen]; omega)) ?_ (by rw [List.length_append, r5]; simp) ?_)
          · simp only [Array.size_append, List.size_toArray, size_zeroCells, r5]
            show xs.length * 1 + 1 + (grownCap w (xs.length + 1) cap 3 - (xs.length + 1)) * 1 = grownCap w (xs.length + 1) cap 3 * 1
            omega
          · simp only [Array.toList_append, List.append_assoc]
            have : (xs.length + 1) * 1 = (iCs xs ++ [Value.int .i64 y]).length := by rw [List.length_append, r5]; simp
            rw [this, ← List.append_assoc]
            exact List.take_left
  obtain ⟨v', sh', w', hr, h2, H'⟩ := key
  refine st_value hw (v := v') (w' := w') ?_ (h v' sh' w' h2 H' _ fun _ _ h => h)
  simp [execOp, ho, resolve, invoke, builtin, hs, hx, hr]
end
end Rg
end Go.Proofs.Ytohfboolicheeaa
