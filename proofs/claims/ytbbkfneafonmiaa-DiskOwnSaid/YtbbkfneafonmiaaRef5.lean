/-
  The reference's disk: Load.
-/
import Derived.Test.YtbbkfneafonmiaaRef3
import Derived.Test.YtbbkfneafonmiaaDisk3
import Derived.IntWalk
namespace Go.Proofs.Ytbbkfneafonmiaa
open Go.Hp Go.RowKit
set_option linter.unusedVariables false
set_option linter.unusedSimpArgs false
namespace Rf

theorem reads_chunk {B : HProp} {bb : Addr} {n cap k : Nat} {l : List UInt8} (hB : Reads B (.slice (some bb) n cap) l) (hl : ((l.drop (k * 512)).take 512).length = 512) (hc : k * 512 + 512 ≤ cap) (hm : cap ≤ maxLen) :
    Reads B (.slice (some (bb.add (k * 512))) 512 (cap - k * 512)) ((l.drop (k * 512)).take 512) := by
  intro w0 L w H
  refine .inr ⟨_, cap - k * 512, by rw [hl], by rw [hl]; omega, by omega, fun j u hj => ?_⟩
  rw [Dk.add_add]
  exact (hB _ _ _ H).cells _ _ (Dk.chunk_get hj)

section
variable {w0 w : World} {L : List HProp}

theorem rload_no {B : HProp} {v : Value} {b : List UInt8} (hB : Reads B v b) (hn : b.length % 512 ≠ 0 ∨ b.length = 0 ∨ 65536 * 512 < b.length) (H : At w0 (B :: L) w) :
    Calls Try.prog 31 #[v] w (Ret w0 (.tuple #[.pointer none, .int .i64 30]) (B :: L)) := by
  obtain ⟨ad, cap, rfl, h1, h2, h3⟩ := (hB.at_ H 0 rfl).len
  have hm : b.length ≤ 9223372036854775807 := by simp only [maxLen] at h2; omega
  by_cases hmod : b.length % 512 = 0
  · have hb : ((b.length : Int) % 512 == 0) = true := by simp; omega
    have hq : (b.length : Int) / 512 < 1 ∨ 65536 < (b.length : Int) / 512 := by omega
    clear h2 h3
    go_enter Try.func31, Try.ntmps31
    go_wp2_with fail
    refine (rnew_no H _ hq).mono ?_
    rintro e w ⟨rfl, H⟩
    go_wp2_with fail
    go_ret2
    exact ⟨rfl, H⟩
  · have hb : ((b.length : Int) % 512 == 0) = false := by simp; omega
    clear h2 h3
    go_enter Try.func31, Try.ntmps31
    go_wp2_with fail
    go_ret2
    exact ⟨rfl, H⟩

set_option maxHeartbeats 1000000 in
theorem rload_yes {B : HProp} {v : Value} {b : List UInt8} (hB : Reads B v b) (N : Nat) (hn : b.length = N * 512) (h1 : 1 ≤ N) (h2 : N ≤ 65536) (H : At w0 (B :: L) w) :
    Calls Try.prog 31 #[v] w (RetEx w0 (fun r => .tuple #[.pointer (some ⟨r, 0, none⟩), .int .i64 0]) (fun r => RefAt r ⟨N, Dk.cut b N, false, false, 0, 0, 0, 0⟩ :: B :: L)) := by
  obtain ⟨ad, cap, rfl, hc1, hc2, h3⟩ := (hB.at_ H 0 rfl).len
  have hm : b.length ≤ 9223372036854775807 := by omega
  have hb : ((b.length : Int) % 512 == 0) = true := by simp; omega
  have hq : (b.length : Int) / 512 = (N : Int) := by omega
  have hq1 : (1 : Int) ≤ N := by omega
  have hq2 : (N : Int) ≤ 65536 := by omega
  obtain ⟨bb, rfl, _⟩ := h3 (by omega)
  have Hn := Lib.hid hn
  clear hn h3
  go_enter Try.func31, Try.ntmps31
  go_wp2_with fail
  refine (rnew_yes H _ hq1 hq2).mono ?_
  rintro e w ⟨r, rfl, H⟩
  go_wp2_with fail
  clear hb hq
  go_loopw [6] (fun i wr => ∃ k : Nat, k ≤ N ∧ i = .int .i64 k ∧ At w0 (RefAt r ⟨N, Dk.cut b k, false, false, 0, 0, 0, 0⟩ :: B :: L) wr) (fun i _ => N - (intOf i).toNat)
  case atStart =>
    have e : (fun _ => Dk.zer) = Dk.cut b 0 := by
      funext n
      unfold Dk.cut
      rw [if_neg (by omega)]
    rw [e] at H
    exact ⟨0, Nat.zero_le _, rfl, H⟩
  case round =>
    clear H
    obtain ⟨k, hk, rfl, H⟩ := hrel
    obtain ⟨sg, vals, he, H⟩ : ∃ sg, ∃ vals : List Value, vals.length = N ∧
        At w0 (Blk r (.cells #[.slice (some ⟨sg, 0, none⟩) N N, .bool false, .bool false, .int .i64 0, .int .i64 0, .int .i64 0, .int .i64 0] 59 (0, 0)) ::
          Blk sg (.cells vals.toArray 33 (0, 0)) :: Elems vals (Dk.cut b k) :: B :: L) wr := open_ref H
    have He := Lib.hid he
    clear he
    by_cases hlt : k < N
    · have hbl := Hn.out
      have hlt2 : (k : Int) < N := by omega
      have g1 : (k : Int) * 512 ≤ b.length := by omega
      have g2 : (k : Int) * 512 ≤ cap := by omega
      have g3 : ¬ (cap = k * 512) := by omega
      have g5 : ((k : Int) * 512).toNat = k * 512 := by omega
      have g6 : (k : Int) * 512 + 512 ≤ cap := by omega
      have g7 : ((k : Int) * 512 + 512).toNat = k * 512 + 512 := by omega
      have g9 : (0 : Int) ≤ (k : Int) * 512 := by omega
      have g10 : (0 : Int) ≤ (k : Int) * 512 + 512 := by omega
      have g11 : (k : Int) * 512 ≤ (k : Int) * 512 + 512 := by omega
      have e1 : IntKind.i64.wrap ((k : Int) * 512) = (k : Int) * 512 := IntWalk.i64_in _ (by omega)
      have e2 : IntKind.i64.wrap ((k : Int) * 512 + 512) = (k : Int) * 512 + 512 := IntWalk.i64_in _ (by omega)
      have e3 : max ((k : Int) * 512 + 512) 0 = (k : Int) * 512 + 512 := by omega
      have g8 : k * 512 + 512 - k * 512 = 512 := by omega
      have hcl : ((b.drop (k * 512)).take 512).length = 512 := Dk.len_chunk (by omega)
      have hR := reads_chunk hB hcl (by omega) hc2
      have hsucc := Dk.cut_succ b k
      clear hbl
      generalize (b.drop (k * 512)).take 512 = ch at hcl hR hsucc
      have Hsucc := Lib.hid hsucc
      have Hcl := Lib.hid hcl
      clear hsucc hcl
      obtain ⟨v0, hv0⟩ : ∃ v0, vals.toArray[k]? = some v0 := by
        have : k < vals.length := by have := He.out; omega
        exact ⟨vals[k], by simp [this]⟩
      go_wp2_with (first | (refine st_load rfl _ _ rfl _ _ rfl ?_ H 0 rfl rfl ?_; (kernel_rfl); (intro K hK; go_simp)))
      have hc0 : wr.cell? ⟨r, 0, none⟩ = some (.slice (some ⟨sg, 0, none⟩) N N) := by rw [cell_of_row _ _ _ _ _ _ (H.get 0 rfl)]; rfl
      go_wp2_with fail
      go_region_with (go_at_call 36; refine (twin hR (by have := Hcl.out; omega) ((H.drew).pick 3 rfl)).mono ?_; rintro e w ⟨g, rfl, H⟩;          have hc0 : w.cell? ⟨r, 0, none⟩ = some (.slice (some ⟨sg, 0, none⟩) N N) := (by rw [cell_of_row _ _ _ _ _ _ (H.get 2 rfl)]; rfl); have hc1 : w.cell? ⟨sg, k, none⟩ = some v0 := (by rw [cell_of_row _ _ _ _ _ _ (H.get 3 rfl)]; exact hv0);          have hc2 : w.frozen? ⟨sg, k, none⟩ = false := frozen_of_row _ _ _ _ _ (H.get 3 rfl); simp only [])
      all_goals go_wp2_with fail
      all_goals go_roundw
      all_goals first
        | (refine ⟨k + 1, by omega, by go_num, ?_⟩
           have hbl := Hcl.out
           have H1 : At w0 (Blk sg _ :: Blk r _ :: Blk g _ :: Elems vals (Dk.cut b k) :: B :: L) w := H.sel 5 [3, 2, 0, 4, 1]
           have H2 := H1.set0 (i := k) (.slice (some ⟨g, 0, none⟩) 512 512)
           have H3 : At w0 (Blk g _ :: Elems vals (Dk.cut b k) :: Blk r _ :: Blk sg _ :: B :: L) _ := H2.sel 5 [2, 3, 1, 0, 4]
           have H4 := elem_add (i := k) hbl H3
           have H5 : At w0 (Blk r _ :: Blk sg _ :: Elems _ _ :: B :: L) _ := H4.sel 4 [1, 2, 0, 3]
           rw [List.setIfInBounds_toArray, ← Hsucc.out] at H5
           rw [hbl]
           exact shut_ref (R := ⟨N, Dk.cut b (k + 1), false, false, 0, 0, 0, 0⟩) (by rw [List.length_set]; exact He.out) H5)
        | (simp [intOf]; omega)
    · have hk2 : k = N := by omega
      subst hk2
      go_wp2_with (first | (refine st_load rfl _ _ rfl _ _ rfl ?_ H 0 rfl rfl ?_; (kernel_rfl); (intro K hK; go_simp)))
      go_ret2
      exact ⟨r, rfl, shut_ref (R := ⟨k, Dk.cut b k, false, false, 0, 0, 0, 0⟩) He.out H⟩
end
end Rf
end Go.Proofs.Ytbbkfneafonmiaa
