/-
  Rows cloned and sorted.
-/
import Derived.Test.YtohfboolicheeaaRgSort
import Derived.Test.YtohfboolicheeaaRgLay
namespace Go.Proofs.Ytohfboolicheeaa
open Go.Hp Go.RowKit Go.Shelf
open Go.Sort (putCells putRow flatK Holds HoldsK get_flatK size_flatK SWO grow grow_empty)
set_option linter.unusedVariables false
set_option linter.unusedSimpArgs false
set_option maxRecDepth 100000
set_option maxHeartbeats 1000000
namespace Rg
section
variable {w0 w : World} {L : List HProp}

theorem clI {v : Value} {l : List Int} (hvr : RecsAt w v 1 (l.map iC)) (hby : l.length * 8 ≤ 140737488355328) (H : At w0 L w) :
    Calls Try.prog 55 #[v] w (fun e w' => ∃ v', e = .returned v' ∧ At w0 (OwnRow 3 1 v' l.length (iCs l) :: L) w') := by
  obtain ⟨ad, cap, rfl, c1, c2, c3, c4⟩ := hvr.1
  clear hvr
  rw [List.length_map] at c1 c3 ⊢
  have hn := fun (w : World) => Lib.run_eql_slice_nil (P := Try.prog) w 27 3 ad l.length cap 0 0 Try.underlying27
  cases ad with
  | none =>
    have hx : l = [] := by
      rcases Nat.eq_zero_or_pos l.length with h | h
      · exact List.eq_nil_of_length_eq_zero h
      · obtain ⟨b, hb⟩ := c3 h
        cases hb
    subst hx
    simp only [Option.isNone_none, List.length_nil] at hn ⊢
    clear c3 c4
    go_enter Try.func55, Try.ntmps55
    go_wp2_with fail
    go_ret
    exact ⟨_, rfl, own_nil H _ _⟩
  | some b =>
    simp only [Option.isNone_some] at hn
    have Hc := Lib.hid (c4 b rfl)
    have Hl := Lib.hid (iCs_len l)
    have Ho := Lib.hid (iCs_one l)
    have Hw := Lib.hid (At.of w)
    have H0 := Lib.hid H
    clear c3 c4 H
    have HF := Hw.out
    clear Hw
    go_enter Try.func55, Try.ntmps55
    go_wp2_with (first | ((with_reducible refine k_lit ?_); refine st_lit rfl _ _ _ rfl #[] 3 0 HF ?_ ?_; (go_simp); (clear HF; intro g1 w1 HF K hK; replace HF := own_mk (n := 0) (xs := []) (size := 1) HF (Nat.le_refl _) (Nat.zero_le _) (by simp) (by simp) (by simp); go_simp))        | ((with_reducible refine k_builtin ?_); refine st_append rfl _ _ _ rfl 3 Try.underlying27 1 (show sizeT Try.prog 3 = some 1 by kernel_rfl) 8 bt3 _ zt3 rfl _ _ _ rfl HF (some b) l.length cap (iCs l) rfl Hl.out ?_ Ho.out ?_ ?_ ?_; (intro _; exact ⟨b, rfl, fun j u hj => (HF.ext 1 rfl).cell (Hc.out j u hj)⟩); (omega); (omega); (clear HF; intro v1 w2 HF K hK; go_simp)))
    go_ret
    rw [Nat.zero_add, List.nil_append] at HF
    exact ⟨_, rfl, HF.lift1 H0.out⟩
theorem clP {v : Value} {l : List Pt} (hvr : RecsAt w v 3 (l.map Pt.cells)) (hby : l.length * 24 ≤ 140737488355328) (H : At w0 L w) :
    Calls Try.prog 68 #[v] w (fun e w' => ∃ v', e = .returned v' ∧ At w0 (OwnRow 87 3 v' l.length (pCs l) :: L) w') := by
  obtain ⟨ad, cap, rfl, c1, c2, c3, c4⟩ := hvr.1
  clear hvr
  rw [List.length_map] at c1 c3 ⊢
  have hn := fun (w : World) => Lib.run_eql_slice_nil (P := Try.prog) w 82 87 ad l.length cap 0 0 Try.underlying82
  cases ad with
  | none =>
    have hx : l = [] := by
      rcases Nat.eq_zero_or_pos l.length with h | h
      · exact List.eq_nil_of_length_eq_zero h
      · obtain ⟨b, hb⟩ := c3 h
        cases hb
    subst hx
    simp only [Option.isNone_none, List.length_nil] at hn ⊢
    clear c3 c4
    go_enter Try.func68, Try.ntmps68
    go_wp2_with fail
    go_ret
    exact ⟨_, rfl, own_nil H _ _⟩
  | some b =>
    simp only [Option.isNone_some] at hn
    have Hc := Lib.hid (c4 b rfl)
    have Hl := Lib.hid (pCs_len l)
    have Ho := Lib.hid (pCs_one l)
    have Hw := Lib.hid (At.of w)
    have H0 := Lib.hid H
    clear c3 c4 H
    have HF := Hw.out
    clear Hw
    go_enter Try.func68, Try.ntmps68
    go_wp2_with (first | ((with_reducible refine k_lit ?_); refine st_lit rfl _ _ _ rfl #[] 87 0 HF ?_ ?_; (go_simp); (clear HF; intro g1 w1 HF K hK; replace HF := own_mk (n := 0) (xs := []) (size := 3) HF (Nat.le_refl _) (Nat.zero_le _) (by simp) (by simp) (by simp); go_simp))        | ((with_reducible refine k_builtin ?_); refine st_append rfl _ _ _ rfl 87 Try.underlying82 3 (show sizeT Try.prog 87 = some 3 by kernel_rfl) 24 bt87 _ z87 rfl _ _ _ rfl HF (some b) l.length cap (pCs l) rfl Hl.out ?_ Ho.out ?_ ?_ ?_; (intro _; exact ⟨b, rfl, fun j u hj => (HF.ext 1 rfl).cell (Hc.out j u hj)⟩); (omega); (omega); (clear HF; intro v1 w2 HF K hK; go_simp)))
    go_ret
    rw [Nat.zero_add, List.nil_append] at HF
    exact ⟨_, rfl, HF.lift1 H0.out⟩

theorem put_take {α : Type} [Inhabited α] (enc : α → Value) (d : Array α) (cur : Array Value) (h : d.size ≤ cur.size) : (putCells enc 0 d cur).toList.take d.size = d.toList.map enc := by
  refine List.ext_getElem? fun j => ?_
  rcases Nat.lt_or_ge j d.size with hj | hj
  · rw [List.getElem?_take_of_lt hj, Array.getElem?_toList]
    unfold putCells
    rw [Array.getElem?_mapIdx, List.getElem?_map, Array.getElem?_toList, Array.getElem?_eq_getElem (by omega), Array.getElem?_eq_getElem hj]
    simp only [Option.map_some, Nat.zero_le, Nat.zero_add, true_and, hj, if_true, Nat.sub_zero]
    rw [getElem!_pos d j hj]
  · rw [List.getElem?_eq_none (by rw [List.length_take]; omega), List.getElem?_eq_none (by simpa using hj)]
theorem put_size {α : Type} [Inhabited α] (enc : α → Value) (d : Array α) (cur : Array Value) : (putCells enc 0 d cur).size = cur.size := by unfold putCells; rw [Array.size_mapIdx]
theorem heap_append {w : World} {os : Array Obj} {k : Nat} (hk : k < w.heap.size) : (grow w os).heap[k]? = w.heap[k]? := by
  show (w.heap ++ os)[k]? = _
  rw [Array.getElem?_append_left hk]
theorem at_sort {α : Type} [Inhabited α] {enc : α → Value} {g : Nat} {cur : Array Value} {t : TypeId} (H : At w0 (Blk g (.cells cur t (0, 0)) :: L) w) (n : Nat) (d : Array α) (os : Array Obj) :
    At w0 (Blk g (.cells (putCells enc 0 d cur) t (0, 0)) :: L) (sortWorld enc w g 0 n d os) := by
  have H1 : At w0 (Blk g (.cells (putCells enc 0 d cur) t (0, 0)) :: L) (putRow enc (Go.Sort.ahead w n) g 0 d) := by
    refine H.upd0 rfl rfl rfl ?_ ?_
    · show (w.heap.modify g _)[g]? = _
      rw [Array.getElem?_modify, if_pos rfl, H.get0]
      rfl
    · intro k _ hne
      show (w.heap.modify g _)[k]? = _
      rw [Array.getElem?_modify, if_neg (fun h => hne h.symm)]
  exact H1.same rfl rfl rfl (fun k hk => heap_append hk)
theorem at_sortK {α : Type} [Inhabited α] {enc : α → List Value} {sz g : Nat} {cur : Array Value} {t : TypeId} (H : At w0 (Blk g (.cells cur t (0, 0)) :: L) w) (n : Nat) (d : Array α) (os : Array Obj) :
    At w0 (Blk g (.cells (putCells id 0 (flatK enc sz d) cur) t (0, 0)) :: L) (sortWorldK enc sz w g 0 n d os) := at_sort H n _ os

theorem holds_of {α : Type} [Inhabited α] {enc : α → Value} {g : Nat} {cur : Array Value} {t : TypeId} {d : Array α} (hc : cur.toList.take d.size = d.toList.map enc) (H : At w0 (Blk g (.cells cur t (0, 0)) :: L) w) : Holds enc w g 0 d := by
  intro j hj
  have hg := H.get0
  refine ⟨?_, ?_⟩
  · have h1 := congrArg (fun l => l[j]?) hc
    rw [List.getElem?_take_of_lt hj, List.getElem?_map, Array.getElem?_toList, Array.getElem?_toList, Array.getElem?_eq_getElem hj, Option.map_some] at h1
    have := cells_of (c := cur.toList) (t := t) (fr := (0, 0)) (w := w) (g := g) (by rw [hg]) j _ (by rw [Array.getElem?_toList]; exact h1)
    rw [Addr.add_lit] at this
    rw [this, getElem!_pos d j hj]
  · show (match w.heap[g]? with | some (.cells _ _ (lo, hi)) => (decide (lo ≤ 0 + j) && decide (0 + j < hi)) | _ => false) = false
    rw [hg]
    simp

theorem flatK_list {α : Type} [Inhabited α] (enc : α → List Value) (k : Nat) (hk : ∀ x, (enc x).length = k) (d : Array α) : (flatK enc k d).toList = (d.toList.map enc).flatten := by
  have hlen : ((d.toList.map enc).flatten).length = d.size * k := by
    rw [flat_len (size := k) (by intro r hr; obtain ⟨e, _, rfl⟩ := List.mem_map.1 hr; exact hk e), List.length_map, Array.length_toList]
  refine List.ext_getElem? fun t => ?_
  rcases Nat.lt_or_ge t (d.size * k) with ht | ht
  · have k0 : 0 < k := by
      rcases Nat.eq_zero_or_pos k with h | h
      · subst h; simp at ht
      · exact h
    have hi : t / k < d.size := by rw [Nat.div_lt_iff_lt_mul k0]; exact ht
    have hj : t % k < k := Nat.mod_lt _ k0
    rw [Array.getElem?_toList, Array.getElem?_eq_getElem (by rw [size_flatK]; exact ht), ← getElem!_pos (flatK enc k d) t (by rw [size_flatK]; exact ht), get_flatK _ _ _ _ ht]
    have h1 : (d.toList.map enc)[t / k]? = some (enc d[t / k]!) := by
      rw [List.getElem?_map, Array.getElem?_toList, Array.getElem?_eq_getElem hi, Option.map_some, getElem!_pos d _ hi]
    have h2 := flatten_get (size := k) (rs := d.toList.map enc) (i := t / k) (r := enc d[t / k]!) (j := t % k) (by intro r hr; obtain ⟨e, _, rfl⟩ := List.mem_map.1 hr; exact hk e) h1 hj
    have e : t / k * k + t % k = t := by rw [Nat.mul_comm]; exact Nat.div_add_mod t k
    rw [e] at h2
    rw [h2, List.getElem?_eq_getElem (by rw [hk]; exact hj), getElem!_pos _ _ (by rw [hk]; exact hj)]
  · rw [List.getElem?_eq_none (by rw [Array.length_toList, size_flatK]; exact ht), List.getElem?_eq_none (by rw [hlen]; exact ht)]

theorem iCs_map (l : List Int) : iCs l = l.map (Value.int .i64) := by
  unfold iCs
  induction l with
  | nil => rfl
  | cons x l ih => rw [List.map_cons, List.flatten_cons, ih]; rfl

theorem soI {v : Value} {l : List Int} (hb : l.length ≤ 100000000) (H : At w0 (OI v l :: L) w) : Calls Try.prog 67 #[v, .func (.func 52) #[] #[]] w (fun e w' => e = .returned (.tuple #[]) ∧ At w0 (OI v (sortI l) :: L) w') := by
  have hlen : (sortI l).length = l.length := (sortI_perm l).length_eq
  rcases own_cases H with ⟨rfl, h2, h3, H2⟩ | ⟨g, cap, cur, rfl, r2, r3, r4, r5, r6, H2⟩
  · have hl : l = [] := List.eq_nil_of_length_eq_zero h2
    subst hl
    have hs : sortI [] = [] := by unfold sortI; exact List.mergeSort_nil
    rw [hs]
    refine (AnyF.slices_SortFunc_none (P := Try.prog) (ρ := sortLI_ren) { sortLI with } none 0 (.func (.func 52) #[] #[]) w).mono ?_
    rintro e w' ⟨rfl, rfl⟩
    exact ⟨rfl, H⟩
  · have hd : l.toArray.size = l.length := by simp
    have hcs : l.length ≤ cur.size := by rw [r4]; omega
    have hc : cur.toList.take l.toArray.size = l.toArray.toList.map (Value.int .i64) := by rw [hd, ← iCs_map, ← r6, Nat.mul_one]
    have eg : ∀ args w, (callFunc 52 args).run Try.prog w = .ok (.enter 52 args) w := enters_of Try.func52 (by kernel_rfl) rfl
    have hcmp : CmpLays1 Try.prog 52 #[] (Value.int .i64) Lib.compareInt g 0 l.toArray.size w := fun m os dk _ x y => (cmp (p := fun x => x = sortWorld (Value.int .i64) w g 0 m dk os) rfl x y).mono fun _ _ ⟨he, hw⟩ => ⟨he, 0, #[], by rw [hw, grow_empty]; rfl⟩
    have hcon := Any.slices_SortFunc_total sortLI (Value.int .i64) (fun _ => rfl) Lib.compareInt swoI 52 #[] g 0 cap l.toArray w eg hcmp (holds_of hc H2) (H2.lt 0 rfl) (by rw [hd]; omega) totI
    rw [leI_eq, hd] at hcon
    refine hcon.mono ?_
    rintro e w' ⟨rfl, n, os, rfl⟩
    refine ⟨rfl, ?_⟩
    have H3 := at_sort (enc := Value.int .i64) H2 n (sortI l).toArray os
    unfold OI
    rw [hlen]
    refine own_mk H3 r2 r3 (by rw [put_size]; exact r4) (by rw [iCs_len, hlen]) ?_
    have := put_take (Value.int .i64) (sortI l).toArray cur (by simp [hlen]; exact hcs)
    rw [iCs_map, Nat.mul_one]
    simpa [hlen] using this

theorem soP {v : Value} {l : List Pt} (hb : l.length ≤ 100000000) (H : At w0 (OP 87 v l :: L) w) : Calls Try.prog 69 #[v, .func (.func 59) #[] #[]] w (fun e w' => e = .returned (.tuple #[]) ∧ At w0 (OP 87 v (sortP l) :: L) w') := by
  have hlen : (sortP l).length = l.length := (sortP_perm l).length_eq
  have hpl : ∀ x : Pt, x.cells.length = 3 := fun _ => rfl
  rcases own_cases H with ⟨rfl, h2, h3, H2⟩ | ⟨g, cap, cur, rfl, r2, r3, r4, r5, r6, H2⟩
  · have hl : l = [] := List.eq_nil_of_length_eq_zero h2
    subst hl
    have hs : sortP [] = [] := by unfold sortP; exact List.mergeSort_nil
    rw [hs]
    refine (AnyF.slices_SortFunc_none (P := Try.prog) (ρ := sortLP_ren) sortLP none 0 (.func (.func 59) #[] #[]) w).mono ?_
    rintro e w' ⟨rfl, rfl⟩
    exact ⟨rfl, H⟩
  · have hd : l.toArray.size = l.length := by simp
    have hcs : l.length * 3 ≤ cur.size := by rw [r4]; omega
    have hfl : (flatK Pt.cells 3 l.toArray).toList = pCs l := flatK_list _ 3 hpl _
    have hfs : (flatK Pt.cells 3 l.toArray).size = l.length * 3 := by rw [size_flatK, hd]
    have hc : cur.toList.take (flatK Pt.cells 3 l.toArray).size = (flatK Pt.cells 3 l.toArray).toList.map id := by rw [hfs, List.map_id, hfl, ← r6]
    have eg : ∀ args w, (callFunc 59 args).run Try.prog w = .ok (.enter 59 args) w := enters_of Try.func59 (by kernel_rfl) rfl
    have hcmp : CmpLays Try.prog 59 #[] Pt.cells 3 cmpP g 0 l.toArray.size w := fun m os dk _ x y => new1 x y _
    have hcon := AnyQ.slices_SortFunc_total sortLP 3 Try.isAgg87 Try.sizeOf87 Pt.cells hpl (fun x v hv => by simp [Pt.cells] at hv; rcases hv with rfl | rfl | rfl <;> rfl) cmpP swoP 59 #[] g 0 cap l.toArray w eg hcmp (holds_of hc H2) (H2.lt 0 rfl) (by rw [hd]; omega) totP
    rw [leP_eq, hd] at hcon
    refine hcon.mono ?_
    rintro e w' ⟨rfl, n, os, rfl⟩
    refine ⟨rfl, ?_⟩
    have H3 := at_sortK (enc := Pt.cells) (sz := 3) H2 n (sortP l).toArray os
    have hfl2 : (flatK Pt.cells 3 (sortP l).toArray).toList = pCs (sortP l) := flatK_list _ 3 hpl _
    have hfs2 : (flatK Pt.cells 3 (sortP l).toArray).size = l.length * 3 := by rw [size_flatK]; simp [hlen]
    unfold OP
    rw [hlen]
    refine own_mk H3 r2 r3 (by rw [put_size]; exact r4) (by rw [pCs_len, hlen]) ?_
    have := put_take id (flatK Pt.cells 3 (sortP l).toArray) cur (by rw [hfs2]; exact hcs)
    rw [hfs2, List.map_id, hfl2] at this
    exact this

theorem sortedI {v : Value} {l : List Int} (hv : RecsAt w v 1 (l.map iC)) (hb : l.length ≤ 100000000) (H : At w0 L w) : Calls Try.prog 57 #[v, .func (.func 52) #[] #[]] w (fun e w' => ∃ v', e = .returned v' ∧ At w0 (OI v' (sortI l) :: L) w') := by
  have HC := Lib.hid (clI hv (by omega) H)
  have HS := Lib.hid (fun (w2 : World) (v2 : Value) (H2 : At w0 (OI v2 l :: L) w2) => soI hb H2)
  clear hv H
  go_enter Try.func57, Try.ntmps57
  go_wp2_with fail
  refine HC.out.mono ?_
  rintro e w1 ⟨v1, rfl, H1⟩
  go_wp2_with fail
  refine (HS.out _ _ H1).mono ?_
  rintro e w2 ⟨rfl, H2⟩
  go_wp2_with fail
  go_ret
  exact ⟨_, rfl, H2⟩
theorem sortedP {v : Value} {l : List Pt} (hv : RecsAt w v 3 (l.map Pt.cells)) (hb : l.length ≤ 100000000) (H : At w0 L w) : Calls Try.prog 58 #[v, .func (.func 59) #[] #[]] w (fun e w' => ∃ v', e = .returned v' ∧ At w0 (OP 87 v' (sortP l) :: L) w') := by
  have HC := Lib.hid (clP hv (by omega) H)
  have HS := Lib.hid (fun (w2 : World) (v2 : Value) (H2 : At w0 (OP 87 v2 l :: L) w2) => soP hb H2)
  clear hv H
  go_enter Try.func58, Try.ntmps58
  go_wp2_with fail
  refine HC.out.mono ?_
  rintro e w1 ⟨v1, rfl, H1⟩
  go_wp2_with fail
  refine (HS.out _ _ H1).mono ?_
  rintro e w2 ⟨rfl, H2⟩
  go_wp2_with fail
  go_ret
  exact ⟨_, rfl, H2⟩
end
end Rg
end Go.Proofs.Ytohfboolicheeaa
