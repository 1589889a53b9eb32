/-
  What is asked of a bucket: the document's names that begin so.
-/
import Derived.Test.YtcofcikdknmggaaBkAskR
namespace Go.Proofs.Ytcofcikdknmggaa
open Go.Hp Go.RowKit
set_option linter.unusedVariables false
set_option linter.unusedSimpArgs false
set_option maxRecDepth 100000
set_option maxHeartbeats 2000000
namespace Bk

theorem names_step {x : En} {l acc r : List En} {k : Nat} {s : ByteArray} (hy : l[k]? = some x) (h : acc ++ rnamesS (l.drop k) s = r) :
    (if hpE s x = true then acc ++ [x] else acc) ++ rnamesS (l.drop (k + 1)) s = r := by
  obtain ⟨hlt, he⟩ := List.getElem?_eq_some_iff.1 hy
  rw [List.drop_eq_getElem_cons hlt, he] at h
  rw [← h]
  unfold rnamesS
  rw [List.filter_cons]
  split
  · simp
  · rfl

section
variable {w0 w : World} {L : List HProp}

theorem rnames {ve vl : Value} {u : Int} {es : List En} {s : ByteArray} (he : RecsAt w ve 4 (es.map En.cells)) (be : (es.length + 1) * 40 ≤ 140737488355328) (H : At w0 L w) :
    Calls Try.prog 36 #[.agg #[.int .i64 u, ve, vl], .string s] w (fun e w' => ∃ v', e = .returned v' ∧ At w0 (OE v' (rnamesS es s) :: L) w') := by
  obtain ⟨W, rfl⟩ : ∃ W : World, W = w := ⟨_, rfl⟩
  have HF := At.of W
  have H0 := Lib.hid H
  obtain ⟨ad, cap, rfl, c1, c2, c3⟩ := he.value
  rw [List.length_map] at c1 c3 he ⊢
  have R := Lib.hid he
  have C3 := Lib.hid c3
  clear H he c3
  go_enter Try.func36, Try.ntmps36
  go_wp2_with ((with_reducible refine k_box ?_); refine st_box rfl _ _ rfl _ rfl HF ?_; (clear HF; intro g2 w HF K hK; simp only [Value.cells, Act.eval, Value.cells, Array.getD_eq_getD_getElem?, List.getElem?_toArray, List.getElem?_cons_succ, List.getElem?_cons_zero, Option.getD_some] at HF; go_simp))
  replace HF : At W (OE (.slice none 0 0) [] :: Blk g2 (.cells #[.int .i64 u, .slice ad es.length cap, vl] 25 (0, 0)) :: Arg W :: []) _ := own_nil HF 39 4
  go_loopw [5, 6] (fun a i wr => ∃ (k : Nat) (acc : List En) (v5 : Value), k ≤ es.length ∧ a = v5 ∧ i = .int .i64 k ∧ Hid (acc ++ rnamesS (es.drop k) s = rnamesS es s) ∧ acc.length ≤ k ∧
    At W (OE v5 acc :: Blk g2 (.cells #[.int .i64 u, .slice ad es.length cap, vl] 25 (0, 0)) :: Arg W :: []) wr) (fun _ i _ => es.length - (intOf i).toNat)
  case atStart => exact ⟨0, [], _, Nat.zero_le _, rfl, rfl, Lib.hid rfl, by simp, HF⟩
  case round =>
    clear HF
    obtain ⟨k, acc, v5, hk, rfl, rfl, HI, ha, HF⟩ := hrel
    obtain ⟨ad5, n5, cap5, rfl⟩ := own_form HF
    by_cases hlt : k < es.length
    · have g1 : (k : Int) < es.length := by omega
      obtain ⟨x, hx⟩ : ∃ x, es[k]? = some x := ⟨_, List.getElem?_eq_getElem hlt⟩
      obtain ⟨b, rfl⟩ := C3.out (by omega)
      have Hc := Lib.hid (recs_get R.out hx)
      have Hx := Lib.hid hx
      have Hc0 := Lib.hid (recs_get R.out hx 0 (.string x.nm) rfl)
      obtain ⟨xn, xf, xo, xs⟩ := x
      dsimp only at Hc0
      clear hx
      have hkey : hpE s ⟨xn, xf, xo, xs⟩ = Lib.hasPrefix xn.data.toList s.data.toList := rfl
      rw [← Lib.hasPrefix_of_take, ← Lib.size_eq, ← Lib.size_eq] at hkey
      have Hk := Lib.hid hkey
      clear hkey
      go_wp2_with (first | ((with_reducible refine k_load (T := 9) ?_); refine st_load1 rfl _ _ rfl _ rfl ?_ ((HF.ext 2 rfl).cell Hc0.out) ?_; (kernel_rfl); (intro K hK; go_simp)) | ((with_reducible refine k_load (T := 39) ?_); refine st_loadCells rfl _ _ rfl _ rfl a39 [.string xn, .int .i64 xf, .int .i64 xo, .int .i64 xs] s39 (fun j u hj => (HF.ext 2 rfl).cell (Hc.out j u hj)) ?_; (intro K hK; go_simp))          | ((with_reducible refine k_lit ?_); refine st_lit1 rfl _ _ rfl #[.string xn, .int .i64 xf, .int .i64 xo, .int .i64 xs] rfl 39 Try.underlying22 4 s39 _ z39 rfl rfl (by decide) (by decide) HF ?_; (clear HF; intro gl w HF K hK; go_simp))          | ((with_reducible refine k_builtin ?_); refine st_append rfl _ _ _ rfl 39 Try.underlying22 4 s39 40 bytes39 _ z39 rfl (.slice ad5 n5 cap5) acc.length (eC acc) rfl (HF.sel 2 [1, 0]) (some ⟨gl, 0, none⟩) 1 1 [.string xn, .int .i64 xf, .int .i64 xo, .int .i64 xs] rfl rfl (fun _ => ⟨_, rfl, cells_of (HF.get 0 rfl)⟩) (ee_one ⟨xn, xf, xo, xs⟩) ?_ ?_ ?_; ((try simp only [maxLen]); omega); (omega); (clear HF; intro v7 w HF K hK; replace HF := oe_snoc (x := ⟨xn, xf, xo, xs⟩) (HF.sel 4 [0, 2, 3]); go_simp))          | ((with_reducible refine k_load ?_); refine st_load rfl _ _ rfl _ _ rfl ?_ HF 1 rfl rfl ?_; (kernel_rfl); (intro K hK; go_simp)))
      · have h1 : s.size ≤ xn.size := by with_reducible assumption
        have h2 : ((xn.extract 0 s.size).toList == s.toList) = true := by with_reducible assumption
        have hp1 : hpE s ⟨xn, xf, xo, xs⟩ = true := by
          rw [Lib.extract_toList, Lib.toList_data] at h2
          simp only [List.drop_zero, Nat.sub_zero] at h2
          rw [Hk.out, h2]
          simp [h1]
        go_roundw
        case rel => exact ⟨k + 1, acc ++ [⟨xn, xf, xo, xs⟩], _, by omega, rfl, rfl, Lib.hid (by have := names_step Hx.out HI.out; rw [if_pos hp1] at this; exact this), (by rw [List.length_append]; simp only [List.length_cons, List.length_nil]; omega), HF⟩
        case measure => simp [intOf]; omega
      · have h1 : s.size ≤ xn.size := by with_reducible assumption
        have h2 : ((xn.extract 0 s.size).toList == s.toList) = false := by with_reducible assumption
        have hp1 : hpE s ⟨xn, xf, xo, xs⟩ = false := by
          rw [Lib.extract_toList, Lib.toList_data] at h2
          simp only [List.drop_zero, Nat.sub_zero] at h2
          rw [Hk.out, h2]
          simp
        go_roundw
        case rel => exact ⟨k + 1, acc, _, by omega, rfl, rfl, Lib.hid (by have := names_step Hx.out HI.out; rw [if_neg (by rw [hp1]; decide)] at this; exact this), (by omega), HF⟩
        case measure => simp [intOf]; omega
      · have h1 : ¬ s.size ≤ xn.size := by with_reducible assumption
        have hp1 : hpE s ⟨xn, xf, xo, xs⟩ = false := by
          rw [Hk.out]
          simp [h1]
        go_roundw
        case rel => exact ⟨k + 1, acc, _, by omega, rfl, rfl, Lib.hid (by have := names_step Hx.out HI.out; rw [if_neg (by rw [hp1]; decide)] at this; exact this), (by omega), HF⟩
        case measure => simp [intOf]; omega
    · have g1 : ¬ (k : Int) < es.length := by omega
      go_wp2_with ((with_reducible refine k_load ?_); refine st_load rfl _ _ rfl _ _ rfl ?_ HF 1 rfl rfl ?_; (kernel_rfl); (intro K hK; go_simp))
      go_ret
      have hi := HI.out
      rw [List.drop_of_length_le (by omega)] at hi
      unfold rnamesS at hi
      simp only [List.filter_nil, List.append_nil] at hi
      refine ⟨_, rfl, ?_⟩
      unfold rnamesS
      rw [← hi]
      exact (show At W ([_] ++ [Arg W]) _ from HF.sel 3 [0, 2]).lift H0.out
end
end Bk
end Go.Proofs.Ytcofcikdknmggaa
