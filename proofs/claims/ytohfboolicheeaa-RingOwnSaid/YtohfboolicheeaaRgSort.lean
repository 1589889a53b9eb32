/-
  Comparing, cloning: what the sorts of the ring call.
-/
import Derived.Test.YtohfboolicheeaaRgSpec
import Derived.Shelf.SlSortCmp.InsertionK
import Derived.Lib.Walk
import Derived.Lib.Slices
namespace Go.Proofs.Ytohfboolicheeaa
open Go.Hp Go.RowKit Go.Sort
set_option linter.unusedVariables false
set_option linter.unusedSimpArgs false
set_option maxRecDepth 100000
set_option maxHeartbeats 1000000
namespace Rg
section
variable {w0 w : World} {L : List HProp} {p : World → Prop}

theorem isNaN (H : p w) (x : Int) : Calls Try.prog 65 #[.int .i64 x] w (fun e w' => e = .returned (.bool false) ∧ p w') := by
  go_enter Try.func65, Try.ntmps65
  go_wp2_with fail
  go_ret
  exact ⟨rfl, H⟩
theorem cmp (H : p w) (a b : Int) : Calls Try.prog 52 #[.int .i64 a, .int .i64 b] w (fun e w' => e = .returned (.int .i64 (Lib.compareInt a b)) ∧ p w') := by
  rcases Int.lt_trichotomy a b with h1 | h1 | h1
  · have e : Lib.compareInt a b = -1 := by unfold Lib.compareInt; rw [if_pos h1]
    rw [e]
    go_enter Try.func52, Try.ntmps52
    go_wp2_with fail
    refine (isNaN H a).mono ?_
    rintro e w ⟨rfl, H⟩
    go_wp2_with fail
    refine (isNaN H b).mono ?_
    rintro e w ⟨rfl, H⟩
    go_wp2_with fail
    go_ret
    exact ⟨rfl, H⟩
  · have e : Lib.compareInt a b = 0 := by unfold Lib.compareInt; rw [if_neg (by omega), if_neg (by omega)]
    rw [e]
    have n1 : ¬ a < b := by omega
    have n2 : ¬ b < a := by omega
    clear e h1
    go_enter Try.func52, Try.ntmps52
    go_wp2_with fail
    refine (isNaN H a).mono ?_
    rintro e w ⟨rfl, H⟩
    go_wp2_with fail
    refine (isNaN H b).mono ?_
    rintro e w ⟨rfl, H⟩
    go_wp2_with fail
    go_ret
    exact ⟨rfl, H⟩
  · have e : Lib.compareInt a b = 1 := by unfold Lib.compareInt; rw [if_neg (by omega), if_pos h1]
    rw [e]
    have n1 : ¬ a < b := by omega
    clear e
    go_enter Try.func52, Try.ntmps52
    go_wp2_with fail
    refine (isNaN H a).mono ?_
    rintro e w ⟨rfl, H⟩
    go_wp2_with fail
    refine (isNaN H b).mono ?_
    rintro e w ⟨rfl, H⟩
    go_wp2_with fail
    go_ret
    exact ⟨rfl, H⟩

/-- The first of a row of numbers that is not zero. -/
def orS : List Int → Int
  | [] => 0
  | x :: l => if x ≠ 0 then x else orS l
theorem orS_cmp (x y : Pt) : orS [Lib.compareInt x.h y.h, Lib.compareInt x.s y.s, Lib.compareInt x.n y.n] = cmpP x y := by
  unfold cmpP
  simp only [orS]
  (repeat' split) <;> first | rfl | omega
theorem orS_drop {l : List Int} {k : Nat} {n : Int} (hk : l[k]? = some n) : orS (l.drop k) = if n ≠ 0 then n else orS (l.drop (k + 1)) := by
  obtain ⟨hlt, he⟩ := List.getElem?_eq_some_iff.1 hk
  rw [List.drop_eq_getElem_cons hlt, he]
  rfl

theorem or {W : World} {b : Addr} {l : List Int} {cap n : Nat} (hn : n = l.length) (hl : l.length ≤ 8) (hc : ∀ k n, l[k]? = some n → W.cell? (b.add k) = some (.int .i64 n)) : Calls Try.prog 51 #[.slice (some b) n cap] W (fun e w' => e = .returned (.int .i64 (orS l)) ∧ w' = W) := by
  subst hn
  have HC := Lib.hid hc
  obtain ⟨R, hR⟩ : ∃ R, orS l = R := ⟨_, rfl⟩
  rw [hR]
  have HR := Lib.hid hR
  clear hR hc
  go_enter Try.func51, Try.ntmps51
  go_wp2_with fail
  go_loopw [8] (fun i wr => ∃ k : Nat, k ≤ l.length ∧ i = .int .i64 k ∧ Hid (orS (l.drop k) = R) ∧ wr = W) (fun i _ => l.length - (intOf i).toNat)
  case atStart => exact ⟨0, Nat.zero_le _, rfl, HR, rfl⟩
  case round =>
    obtain ⟨k, hk, rfl, HG, rfl⟩ := hrel
    by_cases hlt : k < l.length
    · have g1 : (k : Int) < l.length := by omega
      obtain ⟨n, hn⟩ : ∃ n, l[k]? = some n := ⟨_, List.getElem?_eq_getElem hlt⟩
      have Hc := Lib.hid (HC.out k n hn)
      have HS := Lib.hid ((orS_drop hn).symm.trans HG.out)
      clear hn
      by_cases h0 : n = 0
      · have HS2 := Lib.hid (show orS (l.drop (k + 1)) = R by have := HS.out; rw [if_neg (by omega)] at this; exact this)
        subst h0
        go_wp2_with (first | ((with_reducible refine k_load ?_); refine st_load1 rfl _ _ rfl _ rfl rfl Hc.out ?_; (intro K hK; go_simp)))
        go_roundw
        case rel => exact ⟨k + 1, by omega, rfl, HS2, trivial⟩
        case measure => simp [intOf]; omega
      · have HS2 := Lib.hid (show n = R by have := HS.out; rw [if_pos h0] at this; exact this)
        have h0b : (n == 0) = false := by rw [beq_eq_false_iff_ne]; exact h0
        go_wp2_with (first | ((with_reducible refine k_load ?_); refine st_load1 rfl _ _ rfl _ rfl rfl Hc.out ?_; (intro K hK; go_simp)))
        go_ret
        refine ⟨?_, rfl⟩
        show Ending.returned (.int .i64 _) = _
        rw [HS2.out]
    · have hk8 : k = l.length := by omega
      subst hk8
      have HE := Lib.hid (show (0 : Int) = R by have := HG.out; rw [List.drop_length] at this; exact this)
      go_wp2_with fail
      go_ret
      refine ⟨?_, rfl⟩
      show Ending.returned (.int .i64 _) = _
      rw [HE.out]

theorem size_alloc (w : World) (o : Obj) : (w.alloc o).heap.size = w.heap.size + 1 := by
  unfold World.alloc
  exact Array.size_push _
theorem new1 (x y : Pt) (W : World) : Calls Try.prog 59 #[.agg x.cells.toArray, .agg y.cells.toArray] W (fun e w' => e = .returned (.int .i64 (cmpP x y)) ∧ ∃ q os', w' = grow (W.drewN q) os') := by
  obtain ⟨R, hR⟩ : ∃ R, cmpP x y = R := ⟨_, rfl⟩
  rw [hR]
  have HR := Lib.hid ((orS_cmp x y).trans hR)
  clear hR
  obtain ⟨xh, xs, xn⟩ := x
  obtain ⟨yh, ys, yn⟩ := y
  simp only [Pt.cells]
  dsimp only at HR
  obtain ⟨r1, h1⟩ : ∃ r, Lib.compareInt xh yh = r := ⟨_, rfl⟩
  obtain ⟨r2, h2⟩ : ∃ r, Lib.compareInt xs ys = r := ⟨_, rfl⟩
  obtain ⟨r3, h3⟩ : ∃ r, Lib.compareInt xn yn = r := ⟨_, rfl⟩
  rw [h1, h2, h3] at HR
  have Q1 := Lib.hid (fun (w2 : World) => cmp (p := fun x => x = w2) (w := w2) rfl xh yh)
  have Q2 := Lib.hid (fun (w2 : World) => cmp (p := fun x => x = w2) (w := w2) rfl xs ys)
  have Q3 := Lib.hid (fun (w2 : World) => cmp (p := fun x => x = w2) (w := w2) rfl xn yn)
  rw [h1] at Q1
  rw [h2] at Q2
  rw [h3] at Q3
  clear h1 h2 h3
  go_enter Try.func59, Try.ntmps59
  go_wp2_with fail
  obtain ⟨W1, hW1⟩ : ∃ W1, (((W.alloc (Obj.cells #[.int .i64 xh, .int .i64 xs, .int .i64 xn] 87)).alloc (Obj.cells #[.int .i64 yh, .int .i64 ys, .int .i64 yn] 87)).drew) = W1 := ⟨_, rfl⟩
  have hx1 : ∀ k v, ([.int .i64 xh, .int .i64 xs, .int .i64 xn] : List Value)[k]? = some v → W1.cell? ⟨W.heap.size, k, none⟩ = some v := by
    intro k v hk
    have hg : W1.heap[W.heap.size]? = some (.cells ([.int .i64 xh, .int .i64 xs, .int .i64 xn] : List Value).toArray 87 (0, 0)) := by
      rw [← hW1]
      exact (heap_alloc_old _ _ (by rw [size_alloc]; omega)).trans (heap_alloc_new _ _)
    have := cells_of hg k v hk
    rwa [Addr.add_lit, Nat.zero_add] at this
  have hy1 : ∀ k v, ([.int .i64 yh, .int .i64 ys, .int .i64 yn] : List Value)[k]? = some v → W1.cell? ⟨W.heap.size + 1, k, none⟩ = some v := by
    intro k v hk
    have hg : W1.heap[W.heap.size + 1]? = some (.cells ([.int .i64 yh, .int .i64 ys, .int .i64 yn] : List Value).toArray 87 (0, 0)) := by
      rw [← hW1]
      have := heap_alloc_new (W.alloc (Obj.cells #[.int .i64 xh, .int .i64 xs, .int .i64 xn] 87)) (Obj.cells #[.int .i64 yh, .int .i64 ys, .int .i64 yn] 87)
      rw [size_alloc] at this
      exact this
    have := cells_of hg k v hk
    rwa [Addr.add_lit, Nat.zero_add] at this
  have hor := or (W := W1.alloc (.cells #[.int .i64 r1, .int .i64 r2, .int .i64 r3] 3)) (b := ⟨W1.heap.size, 0, none⟩) (l := [r1, r2, r3]) (cap := 3) (n := 3) rfl (by simp) (by
    intro k n hk
    have hg : (W1.alloc (.cells #[.int .i64 r1, .int .i64 r2, .int .i64 r3] 3)).heap[W1.heap.size]? = some (.cells ([.int .i64 r1, .int .i64 r2, .int .i64 r3] : List Value).toArray 3 (0, 0)) := heap_alloc_new _ _
    refine cells_of hg k (.int .i64 n) ?_
    have := congrArg (Option.map (Value.int .i64)) hk
    rw [← List.getElem?_map] at this
    exact this)
  rw [HR.out] at hor
  have HO := Lib.hid hor
  have hfin : ∃ q os', W1.alloc (.cells #[.int .i64 r1, .int .i64 r2, .int .i64 r3] 3) = grow (W.drewN q) os' := by
    rw [← hW1]
    refine ⟨1, #[Obj.cells #[.int .i64 xh, .int .i64 xs, .int .i64 xn] 87] ++ #[Obj.cells #[.int .i64 yh, .int .i64 ys, .int .i64 yn] 87] ++ #[Obj.cells #[.int .i64 r1, .int .i64 r2, .int .i64 r3] 3], ?_⟩
    rw [alloc_eq_grow, alloc_eq_grow, alloc_eq_grow]
    show grow (grow (grow W.drew #[Obj.cells #[.int .i64 xh, .int .i64 xs, .int .i64 xn] 87]) #[Obj.cells #[.int .i64 yh, .int .i64 ys, .int .i64 yn] 87]) #[Obj.cells #[.int .i64 r1, .int .i64 r2, .int .i64 r3] 3] = _
    rw [grow_grow, grow_grow]
    rfl
  have HFin := Lib.hid hfin
  have HX1 := Lib.hid hx1
  have HY1 := Lib.hid hy1
  have HW1 := Lib.hid hW1
  clear hor hfin hx1 hy1 hW1
  have hcell : ∀ (c : Bool) (wx : World) (a : Addr) (v : Value), wx = (if c = true then W1.alloc (.cells #[.int .i64 r1, .int .i64 r2, .int .i64 r3] 3) else W1) → W1.cell? a = some v → wx.cell? a = some v := by
    intro c wx a v h hc
    subst h
    cases c with
    | false => exact hc
    | true =>
      rw [if_pos rfl]
      have hlt := World.block_lt_of_cell? W1 _ hc
      rw [World.cell?_of_block (w := W1)]
      · exact hc
      · exact heap_alloc_old _ _ hlt
  have HC := Lib.hid hcell
  clear hcell
  apply wp_region_eff [15] (fun i => (#[[], [], [], [], [], [], [], [], [], [], [], [], [], [], [], [], [15], [15]] : Array (List Nat)).getD i []) (fun val i => ((_ :: .int .i64 xh :: _ :: .int .i64 yh :: .int .i64 r1 :: _ :: .int .i64 xs :: _ :: .int .i64 ys :: .int .i64 r2 :: _ :: .int .i64 xn :: _ :: .int .i64 yn :: .int .i64 r3 :: val 15 :: .int .i64 R :: .int .i64 R :: []) : List Value).toArray.getD i undef) (fun E val => fun wx => Hid (wx = (if E 15 = true then W1.alloc (.cells #[.int .i64 r1, .int .i64 r2, .int .i64 r3] 3) else W1)) ∧ (if E 15 = true then val 15 = .slice (some ⟨W1.heap.size, 0, none⟩) 3 3 else True)) (by kernel_rfl) (by kernel_rfl) (by kernel_rfl) (by kernel_rfl) (⟨Lib.hid HW1.out, trivial⟩)
  case step =>
    iterate 15 (refine ⟨eff_pl rfl (fun _ => by rfl) fun E val hn T ds w K H hk ho hK => ?_, ?_⟩; rotate_left)
    refine ⟨eff_mk rfl (fun _ => by rfl) fun E val hE0 hcl hn T ds w K H hk ho hK => ?_, ?_⟩; rotate_left
    iterate 2 (refine ⟨eff_pl rfl (fun _ => by rfl) fun E val hn T ds w K H hk ho hK => ?_, ?_⟩; rotate_left)
    exact trivial
    · have o2 := ho 2 (by kernel_rfl); clear ho; simp [know, dstAt, Region.binds] at hk o2; go_simp; exact hK _ H
    · clear ho; simp [know, dstAt, Region.binds] at hk
      (refine op_load1T rfl hk (by kernel_rfl) (HC.out _ _ _ _ H.1.out (HX1.out 0 _ rfl)) ?_; exact hK _ H)
    · have o3 := ho 3 (by kernel_rfl); clear ho; simp [know, dstAt, Region.binds] at hk o3; go_simp; exact hK _ H
    · clear ho; simp [know, dstAt, Region.binds] at hk
      (refine op_load1T rfl hk (by kernel_rfl) (HC.out _ _ _ _ H.1.out (HY1.out 0 _ rfl)) ?_; exact hK _ H)
    · clear ho; simp [know, dstAt, Region.binds] at hk
      (go_simp; refine (Q1.out _).mono ?_; rintro e w' ⟨rfl, rfl⟩; exact hK _ H)
    · have o2 := ho 2 (by kernel_rfl); clear ho; simp [know, dstAt, Region.binds] at hk o2; go_simp; exact hK _ H
    · clear ho; simp [know, dstAt, Region.binds] at hk
      (refine op_load1T rfl hk (by kernel_rfl) (HC.out _ _ _ _ H.1.out (HX1.out 1 _ rfl)) ?_; exact hK _ H)
    · have o3 := ho 3 (by kernel_rfl); clear ho; simp [know, dstAt, Region.binds] at hk o3; go_simp; exact hK _ H
    · clear ho; simp [know, dstAt, Region.binds] at hk
      (refine op_load1T rfl hk (by kernel_rfl) (HC.out _ _ _ _ H.1.out (HY1.out 1 _ rfl)) ?_; exact hK _ H)
    · clear ho; simp [know, dstAt, Region.binds] at hk
      (go_simp; refine (Q2.out _).mono ?_; rintro e w' ⟨rfl, rfl⟩; exact hK _ H)
    · have o2 := ho 2 (by kernel_rfl); clear ho; simp [know, dstAt, Region.binds] at hk o2; go_simp; exact hK _ H
    · clear ho; simp [know, dstAt, Region.binds] at hk
      (refine op_load1T rfl hk (by kernel_rfl) (HC.out _ _ _ _ H.1.out (HX1.out 2 _ rfl)) ?_; exact hK _ H)
    · have o3 := ho 3 (by kernel_rfl); clear ho; simp [know, dstAt, Region.binds] at hk o3; go_simp; exact hK _ H
    · clear ho; simp [know, dstAt, Region.binds] at hk
      (refine op_load1T rfl hk (by kernel_rfl) (HC.out _ _ _ _ H.1.out (HY1.out 2 _ rfl)) ?_; exact hK _ H)
    · clear ho; simp [know, dstAt, Region.binds] at hk
      (go_simp; refine (Q3.out _).mono ?_; rintro e w' ⟨rfl, rfl⟩; exact hK _ H)
    · clear ho; simp [know, dstAt, Region.binds] at hk
      (simp only [hE0, Bool.false_eq_true, if_false] at H); obtain rfl := H.1.out; go_simp; (have t15 : updE E 15 15 = true := rfl); exact hK _ _ (by simp only [t15, if_true]; exact ⟨Lib.hid trivial, rfl⟩)
    · clear ho; simp [know, dstAt, Region.binds] at hk
      (have e15 := hn 15 (by decide); (simp only [e15, if_true] at H); obtain ⟨H1, hv⟩ := H; have hk2 := hk.1; rw [hv] at hk2; (obtain rfl := H1.out); clear hk; go_simp; refine HO.out.mono ?_; rintro e w' ⟨rfl, rfl⟩; exact hK _ (by simp only [e15, if_true]; exact ⟨Lib.hid trivial, hv⟩))
    · clear ho; simp [know, dstAt, Region.binds] at hk; go_simp; exact hK _ H
  case ins =>
    iterate 15 (refine ⟨ins_pl rfl (fun _ _ _ => rfl), ?_⟩)
    refine ⟨ins_mk rfl (fun _ => rfl), ?_⟩
    iterate 2 (refine ⟨ins_pl rfl (fun val val' h => by first | rfl | ((have h15 := h 15 (by decide)); first | (simp only [h15]; done) | (simp only [h15]; rfl))), ?_⟩)
    exact trivial
  case jns =>
    iterate 15 (refine ⟨j_pl (fun _ _ _ => rfl), ?_⟩)
    refine ⟨j_mk rfl, ?_⟩
    iterate 2 (refine ⟨j_pl (fun _ _ _ => rfl), ?_⟩)
    exact trivial
  case fin =>
    intro E val w5 hE H
    have e15 := hE 15 (by decide)
    simp only [e15, if_true] at H
    obtain ⟨H, _⟩ := H
    obtain rfl := H.out
    simp [putAll, Act.put]
    go_wp2_with fail
    go_ret
    exact ⟨rfl, HFin.out⟩
end
end Rg
end Go.Proofs.Ytohfboolicheeaa
