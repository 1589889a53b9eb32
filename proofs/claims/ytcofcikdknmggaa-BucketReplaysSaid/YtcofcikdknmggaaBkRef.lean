/-
  The document's bucket: places, lists with one entry more or less.
-/
import Derived.Test.YtcofcikdknmggaaBkBack
namespace Go.Proofs.Ytcofcikdknmggaa
open Go.Hp Go.RowKit
set_option linter.unusedVariables false
set_option linter.unusedSimpArgs false
set_option maxRecDepth 100000
set_option maxHeartbeats 2000000
namespace Bk

def nLt (a b : ByteArray) : Bool := Op.bytesLess a.toList b.toList
def nEq (a b : ByteArray) : Bool := a.toList == b.toList
def rpI (l : List En) (s : ByteArray) : Nat := (l.takeWhile (fun e => nLt e.nm s)).length
def rpB (l : List En) (s : ByteArray) : Bool := match l[rpI l s]? with | some e => nEq e.nm s | none => false

theorem rpI_le (l : List En) (s : ByteArray) : rpI l s ≤ l.length := (List.takeWhile_sublist _).length_le
theorem rpB_lt {l : List En} {s : ByteArray} (h : rpB l s = true) : rpI l s < l.length := by
  unfold rpB at h
  split at h
  · rename_i e he
    exact (List.getElem?_eq_some_iff.1 he).1
  · cases h

/-- A slice that is the call's own, or one of what stood in W. -/
def RE (W : World) (v : Value) (es : List En) : HProp := fun hp => OE v es hp ∨ (RecsAt W v 4 (es.map En.cells) ∧ ∀ k, hp k = none)
def RL (W : World) (v : Value) (ls : List La) : HProp := fun hp => OL v ls hp ∨ (RecsAt W v 7 (ls.map La.cells) ∧ ∀ k, hp k = none)

section
variable {w0 w W : World} {L : List HProp}

theorem re_own {v : Value} {es : List En} (H : At w0 (OE v es :: L) w) : At w0 (RE W v es :: L) w := H.imp fun _ h => .inl h
theorem rl_own {v : Value} {es : List La} (H : At w0 (OL v es :: L) w) : At w0 (RL W v es :: L) w := H.imp fun _ h => .inl h
theorem re_arg {v : Value} {es : List En} (h : RecsAt W v 4 (es.map En.cells)) (H : At w0 L w) : At w0 (RE W v es :: L) w := (At.fold (M := []) H).imp fun _ hh => .inr ⟨h, hh⟩
theorem rl_arg {v : Value} {es : List La} (h : RecsAt W v 7 (es.map La.cells)) (H : At w0 L w) : At w0 (RL W v es :: L) w := (At.fold (M := []) H).imp fun _ hh => .inr ⟨h, hh⟩
theorem re_recs {v : Value} {es : List En} {i : Nat} (hL : L[i]? = some (Arg W)) (H : At w0 (RE W v es :: L) w) : RecsAt w v 4 (es.map En.cells) := by
  rcases At.or H with H | H
  · exact oe_recs H
  · obtain ⟨h, H2⟩ := At.and H
    exact h.ext (H2.drop.ext i hL)
theorem rl_recs {v : Value} {es : List La} {i : Nat} (hL : L[i]? = some (Arg W)) (H : At w0 (RL W v es :: L) w) : RecsAt w v 7 (es.map La.cells) := by
  rcases At.or H with H | H
  · exact ol_recs H
  · obtain ⟨h, H2⟩ := At.and H
    exact h.ext (H2.drop.ext i hL)

theorem rplace {v : Value} {l : List En} (hv : RecsAt w v 4 (l.map En.cells)) (hb : l.length ≤ 140737488355328) (s : ByteArray) (H : At w0 L w) :
    Calls Try.prog 48 #[v, .string s] w (fun e w' => e = .returned (.tuple #[.int .i64 (rpI l s : Nat), .bool (rpB l s)]) ∧ Ext w w' ∧ At w0 L w') := by
  obtain ⟨W, rfl⟩ : ∃ W : World, W = w := ⟨_, rfl⟩
  have HF := At.of W
  have H0 := Lib.hid H
  obtain ⟨ad, cap, rfl, c1, c2, c3⟩ := hv.value
  rw [List.length_map] at c1 c3 hv ⊢
  have R := Lib.hid hv
  have C3 := Lib.hid c3
  clear H hv c3
  go_enter Try.func48, Try.ntmps48
  go_wp2_with fail
  go_loopw [6] (fun i wr => ∃ k : Nat, k ≤ l.length ∧ i = .int .i64 k ∧ Hid (∀ y ∈ l.take k, nLt y.nm s = true) ∧ At W (Arg W :: []) wr) (fun i _ => l.length - (intOf i).toNat)
  case atStart => exact ⟨0, Nat.zero_le _, rfl, Lib.hid (by intro y hy; simp at hy), HF⟩
  case round =>
    clear HF
    obtain ⟨k, hk, rfl, HI, HF⟩ := hrel
    by_cases hlt : k < l.length
    · have g1 : (k : Int) < l.length := by omega
      obtain ⟨x, hx⟩ : ∃ x, l[k]? = some x := ⟨_, List.getElem?_eq_getElem hlt⟩
      obtain ⟨b, rfl⟩ := C3.out (by omega)
      have Hc := Lib.hid (recs_get (R.out.ext (HF.ext 0 rfl)) hx 0 (.string x.nm) rfl)
      have Hx := Lib.hid hx
      clear hx
      cases hn : nLt x.nm s with
      | true =>
        have Hn := Lib.hid hn
        have hn' : Op.bytesLess x.nm.toList s.toList = true := hn
        clear hn
        go_wp2_with ((with_reducible refine k_load ?_); refine st_load1 rfl _ _ rfl _ rfl ?_ Hc.out ?_; (kernel_rfl); (intro K hK; go_simp))
        go_roundw
        case rel => exact ⟨k + 1, by omega, rfl, Lib.hid (by
          intro y hy
          rw [List.take_add_one, Hx.out] at hy
          rcases List.mem_append.1 hy with h | h
          · exact HI.out y h
          · simp at h; rw [h]; exact Hn.out), HF⟩
        case measure => simp [intOf]; omega
      | false =>
        have Hr := Lib.hid (show rpI l s = k by unfold rpI; rw [tw_stop (p := fun e : En => nLt e.nm s) HI.out Hx.out hn, List.length_take]; omega)
        have Hrb := Lib.hid (show rpB l s = nEq x.nm s by unfold rpB; rw [Hr.out, Hx.out])
        have hn' : Op.bytesLess x.nm.toList s.toList = false := hn
        clear hn
        go_wp2_with ((with_reducible refine k_load ?_); refine st_load1 rfl _ _ rfl _ rfl ?_ Hc.out ?_; (kernel_rfl); (intro K hK; go_simp))
        apply wp_region_eff [] (fun i => (#[[], [], [], [], [], [], [], [], [], [], [], [], [], [], [], []] : Array (List Nat)).getD i []) (fun val i => ((_ :: _ :: _ :: _ :: _ :: .bool true :: _ :: _ :: _ :: _ :: _ :: _ :: _ :: _ :: _ :: _ :: []) : List Value).toArray.getD i undef) (fun E val => At W (Arg W :: [])) (by kernel_rfl) (by kernel_rfl) (by kernel_rfl) (by kernel_rfl) (HF)
        case step =>
          iterate 16 (refine ⟨eff_pl rfl (fun _ => by rfl) fun E val hn T ds w K H hk ho hK => ?_, ?_⟩; rotate_left)
          exact trivial
          · have o6 := ho 6 (by kernel_rfl); clear ho; simp [know, dstAt, Region.binds] at hk o6; go_simp; exact hK _ H
          · have o6 := ho 6 (by kernel_rfl); clear ho; simp [know, dstAt, Region.binds] at hk o6; go_simp; exact hK _ H
          · have o0 := ho 0 (by kernel_rfl); clear ho; simp [know, dstAt, Region.binds] at hk o0; go_simp; exact hK _ H
          · clear ho; simp [know, dstAt, Region.binds] at hk; go_simp; exact hK _ H
          · clear ho; simp [know, dstAt, Region.binds] at hk; go_simp; exact hK _ H
          · clear ho; simp [know, dstAt, Region.binds] at hk; go_simp; exact hK _ H
          · have o0 := ho 0 (by kernel_rfl); clear ho; simp [know, dstAt, Region.binds] at hk o0; go_simp; exact hK _ H
          · have o6 := ho 6 (by kernel_rfl); clear ho; simp [know, dstAt, Region.binds] at hk o6; go_simp; exact hK _ H
          · clear ho; simp [know, dstAt, Region.binds] at hk; go_simp; exact hK _ H
          · clear ho; simp [know, dstAt, Region.binds] at hk; go_simp; exact hK _ H
          · clear ho; simp [know, dstAt, Region.binds] at hk
            (refine op_load1T rfl hk.1 (by kernel_rfl) ((recs_get (R.out.ext (H.ext 0 rfl)) Hx.out 0 (.string x.nm) rfl)) ?_; exact hK _ H)
          · have o1 := ho 1 (by kernel_rfl); clear ho; simp [know, dstAt, Region.binds] at hk o1; go_simp; exact hK _ H
          · clear ho; simp [know, dstAt, Region.binds] at hk; go_simp; exact hK _ H
          · clear ho; simp [know, dstAt, Region.binds] at hk; go_simp; exact hK _ H
          · clear ho; simp [know, dstAt, Region.binds] at hk; go_simp; exact hK _ H
          · clear ho; simp [know, dstAt, Region.binds] at hk; go_simp; exact hK _ H
        case ins =>
          iterate 16 (refine ⟨ins_pl rfl (fun _ _ _ => rfl), ?_⟩)
          exact trivial
        case jns =>
          iterate 16 (refine ⟨j_pl (fun _ _ _ => rfl), ?_⟩)
          exact trivial
        case fin =>
          intro E val w5 hE H
          simp [putAll, Act.put]
          go_wp2_with fail
          go_ret2
          refine ⟨?_, H.ext 0 rfl, H.lift0 H0.out⟩
          rw [Hr.out, Hrb.out]
          rfl
    · have g1 : ¬ (k : Int) < l.length := by omega
      have Hr := Lib.hid (show rpI l s = k by
        have e2 : l.take k = l := List.take_of_length_le (by omega)
        have hh := HI.out
        rw [e2] at hh
        unfold rpI
        rw [tw_full hh]
        omega)
      have Hrb := Lib.hid (show rpB l s = false by unfold rpB; rw [Hr.out, List.getElem?_eq_none (by omega)])
      go_wp2_with fail
      apply wp_region_eff [] (fun i => (#[[], [], [], [], [], [], [], [], [], [], [], [], [], [], [], []] : Array (List Nat)).getD i []) (fun val i => ((_ :: _ :: _ :: _ :: _ :: .bool false :: undef :: undef :: undef :: undef :: undef :: undef :: undef :: _ :: _ :: _ :: []) : List Value).toArray.getD i undef) (fun E val => At W (Arg W :: [])) (by kernel_rfl) (by kernel_rfl) (by kernel_rfl) (by kernel_rfl) (HF)
      case step =>
        iterate 6 (refine ⟨eff_pl rfl (fun _ => by rfl) fun E val hn T ds w K H hk ho hK => ?_, ?_⟩; rotate_left)
        iterate 7 (refine ⟨eff_no rfl (fun _ => by rfl) (fun _ => rfl), ?_⟩)
        iterate 3 (refine ⟨eff_pl rfl (fun _ => by rfl) fun E val hn T ds w K H hk ho hK => ?_, ?_⟩; rotate_left)
        exact trivial
        · have o6 := ho 6 (by kernel_rfl); clear ho; simp [know, dstAt, Region.binds] at hk o6; go_simp; exact hK _ H
        · have o6 := ho 6 (by kernel_rfl); clear ho; simp [know, dstAt, Region.binds] at hk o6; go_simp; exact hK _ H
        · have o0 := ho 0 (by kernel_rfl); clear ho; simp [know, dstAt, Region.binds] at hk o0; go_simp; exact hK _ H
        · clear ho; simp [know, dstAt, Region.binds] at hk; go_simp; exact hK _ H
        · clear ho; simp [know, dstAt, Region.binds] at hk
          first | fail | (go_simp; exact hK _ H)
        · clear ho; simp [know, dstAt, Region.binds] at hk; go_simp; exact hK _ H
        · clear ho; simp [know, dstAt, Region.binds] at hk; go_simp; exact hK _ H
        · clear ho; simp [know, dstAt, Region.binds] at hk
          first | fail | (go_simp; exact hK _ H)
        · clear ho; simp [know, dstAt, Region.binds] at hk
          first | fail | (go_simp; exact hK _ H)
      case ins =>
        iterate 16 (refine ⟨ins_pl rfl (fun _ _ _ => rfl), ?_⟩)
        exact trivial
      case jns =>
        iterate 16 (refine ⟨j_pl (fun _ _ _ => rfl), ?_⟩)
        exact trivial
      case fin =>
        intro E val w5 hE H
        simp [putAll, Act.put]
        go_wp2_with fail
        go_ret2
        refine ⟨?_, H.ext 0 rfl, H.lift0 H0.out⟩
        rw [Hr.out, Hrb.out]
        rfl

theorem within (H : At w0 L w) (n lo hi : Int) : Calls Try.prog 26 #[.int .i64 n, .int .i64 lo, .int .i64 hi] w (Ret w0 (.bool (decide (lo ≤ n) && decide (n ≤ hi))) L) := by
  by_cases h1 : lo ≤ n <;> by_cases h2 : n ≤ hi
  all_goals
    go_enter Try.func26, Try.ntmps26
    go_wp2_with fail
    go_ret
    exact ⟨by simp [h1, h2], H⟩

/-- The list but for what stands at a place, and what comes there. -/
def woS (l : List En) (i g : Nat) (xs : List En) : List En := l.take i ++ xs ++ l.drop (i + g)

end
end Bk
end Go.Proofs.Ytcofcikdknmggaa
