/-
  The names that begin so: a sequence.
-/
import Derived.Test.YtcofcikdknmggaaBkChg
import Derived.Lib.Strings
import Derived.Lib.Slices
import Derived.LoopIn
import Derived.OwnWalkIn
import Derived.Shelf.Abstract
namespace Go.Proofs.Ytcofcikdknmggaa
open Go.Hp Go.RowKit
set_option linter.unusedVariables false
set_option linter.unusedSimpArgs false
set_option maxRecDepth 100000
set_option maxHeartbeats 1000000
attribute [local go_sem] Oper.semAt_some
namespace Bk

def hpS (s p : ByteArray) : Bool := Lib.hasPrefix s.data.toList p.data.toList
def hpE (p : ByteArray) (e : En) : Bool := hpS e.nm p
/-- What comes of the names that begin so. -/
def namesS (l : List En) (s : ByteArray) : List En := (l.drop (plI l s)).takeWhile (hpE s)

theorem tw_pre {α : Type} {p : α → Bool} : ∀ {l : List α} {k : Nat} {x : α}, (∀ y ∈ l.take k, p y = true) → l[k]? = some x → p x = true → l.take k ++ [x] <+: l.takeWhile p
  | [], k, x, _, h, _ => by simp at h
  | a :: l, 0, x, _, h, hp => by
    simp at h
    subst h
    rw [List.takeWhile_cons_of_pos hp]
    exact ⟨_, rfl⟩
  | a :: l, k + 1, x, ha, h, hp => by
    have h0 := ha a (by simp)
    rw [List.takeWhile_cons_of_pos h0, List.take_succ_cons, List.cons_append]
    obtain ⟨t, ht⟩ := tw_pre (l := l) (k := k) (x := x) (fun y hy => ha y (by simp [hy])) (by simpa using h) hp
    exact ⟨t, by rw [List.cons_append, ht]⟩
theorem tw_stop {α : Type} {p : α → Bool} : ∀ {l : List α} {k : Nat} {x : α}, (∀ y ∈ l.take k, p y = true) → l[k]? = some x → p x = false → l.takeWhile p = l.take k
  | [], k, x, _, h, _ => by simp at h
  | a :: l, 0, x, _, h, hp => by
    simp at h
    subst h
    rw [List.takeWhile_cons_of_neg (by rw [hp]; decide)]
    rfl
  | a :: l, k + 1, x, ha, h, hp => by
    have h0 := ha a (by simp)
    rw [List.takeWhile_cons_of_pos h0, List.take_succ_cons, tw_stop (l := l) (k := k) (x := x) (fun y hy => ha y (by simp [hy])) (by simpa using h) hp]
theorem tw_full {α : Type} {p : α → Bool} : ∀ {l : List α}, (∀ y ∈ l, p y = true) → l.takeWhile p = l
  | [], _ => rfl
  | a :: l, ha => by rw [List.takeWhile_cons_of_pos (ha a (by simp)), tw_full fun y hy => ha y (by simp [hy])]

section
variable {w0 w : World} {L : List HProp}

theorem hp (H : At w0 L w) (s p : ByteArray) : Calls Try.prog 47 #[.string s, .string p] w (Ret w0 (.bool (hpS s p)) L) := by
  unfold hpS
  rw [← Lib.hasPrefix_of_take, ← Lib.size_eq, ← Lib.size_eq]
  go_enter Try.func47, Try.ntmps47
  go_wp2
  · rename_i h
    go_ret
    refine ⟨?_, H⟩
    show Ending.returned (Value.bool ((s.extract 0 p.size).toList == p.toList)) = _
    rw [Lib.extract_toList, Lib.toList_data]
    simp [h]
  · rename_i h
    go_ret
    refine ⟨?_, H⟩
    show Ending.returned (Value.bool false) = _
    simp [h]

theorem recs_drop {ad : Option Addr} {cap k : Nat} {es : List En} (he : RecsAt w (.slice ad es.length cap) 4 (es.map En.cells)) (hk : k ≤ es.length) :
    RecsAt w (.slice (if cap = k then ad else ad.map (·.add (k * 4))) (es.length - k) (cap - k)) 4 ((es.drop k).map En.cells) := by
  obtain ⟨⟨ad2, cap2, h1, h2, h3, h4, h5⟩, h6⟩ := he
  rw [List.length_map] at h1 h2 h4
  cases h1
  refine ⟨⟨_, _, by rw [List.length_map, List.length_drop], by rw [List.length_map, List.length_drop]; omega, by omega, fun h0 => ?_, fun b hb j u hj => ?_⟩, fun r hr => ?_⟩
  · rw [List.length_map, List.length_drop] at h0
    obtain ⟨b, rfl⟩ := h4 (by omega)
    rw [if_neg (by omega)]
    exact ⟨_, rfl⟩
  · have hj2 := (List.getElem?_eq_some_iff.1 hj).1
    rw [flat_len (size := 4) (by intro r hr; obtain ⟨e, _, rfl⟩ := List.mem_map.1 hr; rfl), List.length_map, List.length_drop] at hj2
    obtain ⟨b0, rfl⟩ := h4 (by omega)
    rw [if_neg (by omega)] at hb
    cases hb
    rw [← flat_drop (fun e : En => e.len) es k hk, List.getElem?_drop] at hj
    rw [Addr.add_add]
    exact h5 b0 rfl _ u hj
  · obtain ⟨e, _, rfl⟩ := List.mem_map.1 hr
    rfl

theorem names {u : Int} {ve vl : Value} {es : List En} {s : ByteArray} (he : RecsAt w ve 4 (es.map En.cells)) (be : es.length * 40 ≤ 140737488355328) (H : At w0 L w) :
    Calls Try.prog 33 #[.agg #[.int .i64 u, ve, vl], .string s] w (fun e w' => ∃ g7 g3 v', e = .returned (.func (.func 46) #[] #[.pointer (some ⟨g7, 0, none⟩), .pointer (some ⟨g3, 0, none⟩)]) ∧
      At w0 (Blk g7 (.cells #[v'] 22 (0, 0)) :: Blk g3 (.cells #[.string s] 9 (0, 0)) :: OE v' (es.drop (plI es s)) :: L) w') := by
  obtain ⟨ad, cap, rfl, c1, c2, c3⟩ := he.value
  rw [List.length_map] at c1 c3 he ⊢
  have HF := At.of w
  have H0 := Lib.hid H
  have He := Lib.hid he
  have hk := plI_le es s
  have hl1 : es.length ≤ 140737488355328 := by omega
  clear he H
  go_enter Try.func33, Try.ntmps33
  go_wp2_with (first | ((with_reducible refine k_box (T := 25) ?_); refine st_box rfl _ _ rfl _ rfl HF ?_; (clear HF; intro g2 w1 HF K hK; simp only [Value.cells] at HF; go_simp)) | ((with_reducible refine k_box (T := 9) ?_); refine st_box rfl _ _ rfl _ rfl HF ?_; (clear HF; intro g3 w1 HF K hK; simp only [Value.cells] at HF; go_simp)) | ((with_reducible refine k_load ?_); (first | refine st_load rfl _ _ rfl _ _ rfl ?_ HF 0 rfl rfl ?_ | refine st_load rfl _ _ rfl _ _ rfl ?_ HF 1 rfl rfl ?_); (kernel_rfl); (intro K hK; go_simp)))
  refine (place hl1 (He.out.ext (HF.ext 2 rfl)) s HF).mono ?_
  rintro e w2 ⟨rfl, _, HF2⟩
  clear HF
  have HF := HF2
  clear HF2
  have g1 : ((plI es s : Nat) : Int) ≤ es.length := by omega
  have Hd := Lib.hid (recs_drop (He.out.ext (HF.ext 2 rfl)) hk)
  by_cases hc : cap = plI es s
  · rw [if_pos hc, show cap - plI es s = 0 by omega] at Hd
    go_wp2_with ((with_reducible refine k_load ?_); (first | refine st_load rfl _ _ rfl _ _ rfl ?_ HF 0 rfl rfl ?_ | refine st_load rfl _ _ rfl _ _ rfl ?_ HF 1 rfl rfl ?_); (kernel_rfl); (intro K hK; go_simp))
    refine (clE Hd.out (by rw [List.length_drop]; omega) HF).mono ?_
    rintro e w3 ⟨v', rfl, HF2⟩
    clear HF
    have HF := HF2
    clear HF2
    obtain ⟨ad2, cap2, hv, _⟩ := own_value HF
    obtain ⟨q, hq⟩ : ∃ q, q = (es.drop (plI es s)).length := ⟨_, rfl⟩
    rw [← hq] at hv
    subst hv
    clear hq
    go_wp2_with (first | ((with_reducible refine k_alloc ?_); refine st_alloc rfl _ rfl (.slice none 0 0) ?_ #[.slice none 0 0] rfl HF ?_; (kernel_rfl); (clear HF; intro g7 w HF K hK; go_simp)) | ((with_reducible refine k_store ?_); refine st_store rfl _ _ _ rfl _ _ rfl _ rfl rfl ?_ HF 0 rfl ?_ ?_; (kernel_rfl); (simp); (clear HF; intro w HF K hK; simp only [List.set_cons_zero, List.set_cons_succ, List.setIfInBounds_toArray, Act.eval, Value.cells, Array.getD_eq_getD_getElem?, List.getElem?_toArray, List.getElem?_cons_succ, List.getElem?_cons_zero, Option.getD_some] at HF; go_simp)))
    go_ret
    exact ⟨g7, g3, _, rfl, (show At _ ([_, _, _] ++ [Arg _]) _ from HF.sel 5 [0, 2, 1, 4]).lift H0.out⟩
  · rw [if_neg hc] at Hd
    go_wp2_with ((with_reducible refine k_load ?_); (first | refine st_load rfl _ _ rfl _ _ rfl ?_ HF 0 rfl rfl ?_ | refine st_load rfl _ _ rfl _ _ rfl ?_ HF 1 rfl rfl ?_); (kernel_rfl); (intro K hK; go_simp))
    refine (clE Hd.out (by rw [List.length_drop]; omega) HF).mono ?_
    rintro e w3 ⟨v', rfl, HF2⟩
    clear HF
    have HF := HF2
    clear HF2
    obtain ⟨ad2, cap2, hv, _⟩ := own_value HF
    obtain ⟨q, hq⟩ : ∃ q, q = (es.drop (plI es s)).length := ⟨_, rfl⟩
    rw [← hq] at hv
    subst hv
    clear hq
    go_wp2_with (first | ((with_reducible refine k_alloc ?_); refine st_alloc rfl _ rfl (.slice none 0 0) ?_ #[.slice none 0 0] rfl HF ?_; (kernel_rfl); (clear HF; intro g7 w HF K hK; go_simp)) | ((with_reducible refine k_store ?_); refine st_store rfl _ _ _ rfl _ _ rfl _ rfl rfl ?_ HF 0 rfl ?_ ?_; (kernel_rfl); (simp); (clear HF; intro w HF K hK; simp only [List.set_cons_zero, List.set_cons_succ, List.setIfInBounds_toArray, Act.eval, Value.cells, Array.getD_eq_getD_getElem?, List.getElem?_toArray, List.getElem?_cons_succ, List.getElem?_cons_zero, Option.getD_some] at HF; go_simp)))
    go_ret
    exact ⟨g7, g3, _, rfl, (show At _ ([_, _, _] ++ [Arg _]) _ from HF.sel 5 [0, 2, 1, 4]).lift H0.out⟩

def encE (x : En) : Array Value := #[.agg x.cells.toArray]

set_option maxHeartbeats 2000000 in
theorem nm_iter {l : List En} {v : Value} {g7 g3 : Nat} {s : ByteArray} {w0 : World} {J Jx : List En → List HProp} (hsz : l.length ≤ 140737488355328) :
    IterAt Try.prog 46 #[.pointer (some ⟨g7, 0, none⟩), .pointer (some ⟨g3, 0, none⟩)] encE w0 (fun _ => [Blk g7 (.cells #[v] 22 (0, 0)), Blk g3 (.cells #[.string s] 9 (0, 0)), OE v l]) J Jx (fun xs => xs = l.takeWhile (hpE s)) (fun pre => pre <+: l.takeWhile (hpE s)) := by
  intro n W hY H
  obtain ⟨ad, cap, rfl, c1, c2, c3, c4, c5⟩ := own_value (H.pick 2 rfl)
  replace H : At w0 ([Blk g7 (.cells #[.slice ad l.length cap] 22 (0, 0)), Blk g3 (.cells #[.string s] 9 (0, 0)), OE (.slice ad l.length cap) l] ++ J []) W := H
  clear c3 c5
  have HY := Lib.hid hY
  clear hY
  refine calls_of_in (r := none) (n := 9) ?_
  refine callsIn_of_wp Try.func46 rfl trivial ?_ rfl
  simp only [Try.ntmps46, List.size_toArray, List.length_cons, List.length_nil, Nat.reduceAdd, Nat.reduceSub, Array.replicate_succ, Array.replicate_zero, List.push_toArray, List.append_toArray, List.nil_append, List.cons_append]
  gi_wp2_with ((refine in_step rfl ?_); (with_reducible refine k_load ?_); refine st_load rfl _ _ rfl _ _ rfl ?_ H 0 rfl (v := .slice ad l.length cap) rfl ?_; (kernel_rfl); (intro K hK; go_simp; refine hK _ _ ?_; clear hK K; show wpListIn _ _ _ _ _ _ _ _))
  gi_loopw [8] (fun i wr => ∃ k : Nat, k ≤ l.length ∧ i = .int .i64 k ∧ Hid (∀ y ∈ l.take k, hpE s y = true) ∧ At w0 ([Blk g7 (.cells #[.slice ad l.length cap] 22 (0, 0)), Blk g3 (.cells #[.string s] 9 (0, 0)), OE (.slice ad l.length cap) l] ++ J (l.take k)) wr) (fun i _ => l.length - (intOf i).toNat)
  case atStart => exact ⟨0, Nat.zero_le _, rfl, Lib.hid (by intro y hy; simp at hy), H⟩
  case round =>
    clear H
    obtain ⟨k, hk, rfl, HI, H⟩ := hrel
    by_cases hlt : k < l.length
    · have g1 : (k : Int) < l.length := by omega
      obtain ⟨x, hx⟩ : ∃ x, l[k]? = some x := ⟨_, List.getElem?_eq_getElem hlt⟩
      obtain ⟨b, rfl⟩ := c4 (by omega)
      have Hc := Lib.hid (recs_get (oe_recs (H.pick 2 rfl)) hx)
      have Hx := Lib.hid hx
      obtain ⟨xn, xf, xo, xs⟩ := x
      clear hx c4
      gi_wp2_with (first | ((refine in_step rfl ?_); (with_reducible refine k_load (T := 39) ?_); refine st_loadCells rfl _ _ rfl _ rfl a39 [.string xn, .int .i64 xf, .int .i64 xo, .int .i64 xs] s39 Hc.out ?_; (intro K hK; go_simp; refine hK _ _ ?_; clear hK K; show wpListIn _ _ _ _ _ _ _ _))          | ((refine in_step rfl ?_); (with_reducible refine k_alloc ?_); refine st_alloc rfl _ rfl _ z39 _ rfl H ?_; (clear H; intro g5 w2 H K hK; simp only [Value.cells] at H; go_simp; refine hK _ _ ?_; clear hK K; show wpListIn _ _ _ _ _ _ _ _))          | ((refine in_step rfl ?_); (with_reducible refine k_store ?_); refine st_put rfl _ _ _ rfl _ rfl _ rfl ?_ s39 H 0 rfl rfl ?_; (simp [Value.oneCell']); (clear H; intro w3 H K hK; simp only [List.set_cons_zero] at H; go_simp; refine hK _ _ ?_; clear hK K; show wpListIn _ _ _ _ _ _ _ _))          | ((refine in_step rfl ?_); (with_reducible refine k_load (T := 9) ?_); (first | refine st_load rfl _ _ rfl _ _ rfl ?_ H 0 rfl (v := .string xn) rfl ?_ | refine st_load rfl _ _ rfl _ _ rfl ?_ H 2 rfl (v := .string s) rfl ?_); (kernel_rfl); (intro K hK; go_simp; refine hK _ _ ?_; clear hK K; show wpListIn _ _ _ _ _ _ _ _)))
      refine ⟨trivial, (calls_in (hp H xn s)).mono ?_⟩
      rintro e w4 ⟨rfl, H4⟩
      clear H
      have H := H4
      clear H4
      cases hpx : hpS xn s with
      | false =>
        have Ht := Lib.hid (tw_stop HI.out Hx.out hpx)
        clear Hc hpx
        gi_wp2
        refine ⟨fun _ h => (by cases h), ?_⟩
        refine ‹∀ (a : Act) (w : World), wpListIn _ _ _ _ _ _ a w → _› _ _ ?_
        gi_wp2
        refine bodyPost_ret (results_none rfl _ _ _) rfl ?_
        refine ⟨⟨_, rfl⟩, Or.inl ⟨l.takeWhile (hpE s), rfl, ?_⟩⟩
        rw [Ht.out]
        exact At.drop (At.drop (At.drop (At.drop H)))
      | true =>
        have Ht := Lib.hid (tw_pre HI.out Hx.out hpx)
        have Hk := Lib.hid (show l.take k ++ [⟨xn, xf, xo, xs⟩] = l.take (k + 1) by rw [List.take_add_one, Hx.out]; rfl)
        have Hn := Lib.hid (show ∀ y ∈ l.take (k + 1), hpE s y = true by
          rw [← Hk.out]
          intro y hy
          rcases List.mem_append.1 hy with h | h
          · exact HI.out y h
          · rw [List.mem_singleton.1 h]; exact hpx)
        obtain ⟨fn, tmps, assign, body, hy, hR⟩ := HY.out (l.take k) ⟨xn, xf, xo, xs⟩ w4 Ht.out H.drop
        dsimp only [encE, En.cells] at hy
        clear Hc hpx
        gi_wp2_with ((refine in_step rfl ?_); (with_reducible refine k_load (T := 39) ?_); refine st_row rfl _ _ rfl _ rfl a39 4 s39 H 0 rfl rfl ?_; (intro K hK; go_simp; refine hK _ _ ?_; clear hK K; show wpListIn _ _ _ _ _ _ _ _))
        refine (round_any hR).mono ?_
        rintro e W3 (⟨rfl, H3⟩ | ⟨rfl, H3⟩)
        · clear hR hy H
          gi_wp2
          go_roundw
          case rel => exact ⟨k + 1, by omega, by simp, Hn, by rw [← Hk.out]; exact H3⟩
          case measure => simp [intOf]; omega
        · clear hR hy H
          gi_wp2
          refine bodyPost_ret (results_none rfl _ _ _) rfl ?_
          exact ⟨⟨_, rfl⟩, Or.inr ⟨_, Ht.out, At.drop (At.drop (At.drop H3))⟩⟩
    · have g1 : ¬ (k : Int) < l.length := by omega
      gi_wp2
      go_end0
      have e2 : l.take k = l := List.take_of_length_le (by omega)
      have hh := HI.out
      rw [e2] at hh H
      refine ⟨⟨_, rfl⟩, Or.inl ?_⟩
      rw [tw_full hh]
      exact At.drop (At.drop (At.drop H))
end
end Bk
end Go.Proofs.Ytcofcikdknmggaa
