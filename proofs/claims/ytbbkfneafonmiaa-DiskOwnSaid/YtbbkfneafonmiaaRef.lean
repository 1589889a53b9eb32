/-
  The reference's disk: what is said of it in memory, and what each call does to that.
-/
import Derived.Test.YtbbkfneafonmiaaRows
import Derived.Test.YtbbkfneafonmiaaDisk2
import Derived.Test.YtbbkfneafonmiaaOrd
import Derived.Test.YtbbkfneafonmiaaArr
import Derived.Outline
namespace Go.Proofs.Ytbbkfneafonmiaa
open Go.Hp Go.RowKit
set_option linter.unusedVariables false
set_option linter.unusedSimpArgs false
namespace Rf

section
variable {w0 w : World} {L : List HProp}

theorem twin {B : HProp} {v : Value} {l : List UInt8} (hB : Reads B v l) (hl : l.length ≤ 281474976710656) (H : At w0 (B :: L) w) :
    Calls Try.prog 36 #[v] w (RetEx w0 (fun g => .slice (some ⟨g, 0, none⟩) l.length l.length) (fun g => Blk g (.cells (bv l).toArray 5 (0, 0)) :: B :: L)) := by
  obtain ⟨ad, cap, rfl, h1, h2, h3⟩ := (hB.at_ H 0 rfl).len
  have ht : ((l.length : Nat) : Int).toNat = l.length := by omega
  clear h3
  go_enter Try.func36, Try.ntmps36
  go_wp2_with (first | (refine st_make rfl _ _ _ rfl _ _ _ _ rfl rfl 5 Try.underlying33 1 ?_ 1 ?_ (.int .u8 0) ?_ ?_ ?_ ?_ ?_ H ?_; (kernel_rfl); (kernel_rfl); (kernel_rfl); (omega); (omega); (omega); (omega); (clear H; intro g w H K hK; go_simp)))
  have e0 : madeCells (Value.int .u8 0).cells (((l.length : Nat) : Int).toNat * 1) = (fillB l 0 l.length).toArray := by
    rw [fillB_zero, ht, Nat.mul_one]; exact madeCells_one _ _
  rw [e0] at H
  clear e0
  go_loopw [4] (fun i wr => ∃ k : Nat, k ≤ l.length ∧ i = .int .i64 k ∧ At w0 (Blk g (.cells (fillB l k l.length).toArray 5 (0, 0)) :: B :: L) wr) (fun i _ => l.length - (intOf i).toNat)
  case atStart => exact ⟨0, Nat.zero_le _, rfl, H⟩
  case round =>
    clear H
    obtain ⟨k, hk, rfl, H⟩ := hrel
    by_cases hlt : k < l.length
    · obtain ⟨bb, cap', hv, _, _, hc⟩ := (hB.at_ H 1 rfl).len
      obtain ⟨b1, rfl, hcell⟩ := hc (by omega)
      cases hv
      have hck := hcell k _ (bv_get l k hlt)
      have Hset := Lib.hid (fillB_set (n := l.length) hlt hlt)
      clear hcell hc
      go_wp2_with (first | (refine st_load1 rfl _ _ rfl _ rfl ?_ hck ?_; (kernel_rfl); (intro K hK; go_simp)) | (refine st_store rfl _ _ _ rfl _ _ rfl _ rfl rfl ?_ H 0 rfl ?_ ?_; (kernel_rfl); (simp only [List.size_toArray]; rw [len_fillB hk hk]; exact hlt); (clear H; intro w H K hK; simp only [List.set_cons_zero, List.set_cons_succ, List.setIfInBounds_toArray, Act.eval, Value.cells, Array.getD_eq_getD_getElem?, List.getElem?_toArray, List.getElem?_cons_succ, List.getElem?_cons_zero, Option.getD_some] at H; rw [Hset.out] at H; go_simp)))
      go_roundw
      case rel => exact ⟨k + 1, by omega, by go_num, H⟩
      case measure => simp [intOf]; omega
    · have hk2 : k = l.length := by omega
      subst hk2
      rw [fillB_all] at H
      go_wp2_with fail
      go_ret
      exact ⟨g, rfl, H⟩
end

structure RS where
  n : Nat
  sec : Int → List UInt8
  armed : Bool
  fallen : Bool
  left : Int
  torn : Int
  reads : Int
  writes : Int

def EB (h : Hp) (v : Value) (l : List UInt8) : Prop :=
  (v = .slice none 0 0 ∧ l = Dk.zer) ∨ (l.length = 512 ∧ ∃ g c fr, v = .slice (some ⟨g, 0, none⟩) 512 512 ∧ h g = some (.cells c 5 fr) ∧ ∀ (j : Nat) (u : Value), (bv l)[j]? = some u → c[j]? = some u)

/-- The sectors' rows. -/
def Elems (vals : List Value) (sec : Int → List UInt8) : HProp := fun h => ∀ (i : Nat) v, vals[i]? = some v → EB h v (sec i)

def RefAt (r : Nat) (R : RS) : HProp := fun h => ∃ sg, ∃ vals : List Value, vals.length = R.n ∧
  Stars [Blk r (.cells #[.slice (some ⟨sg, 0, none⟩) R.n R.n, .bool R.armed, .bool R.fallen, .int .i64 R.left, .int .i64 R.torn, .int .i64 R.reads, .int .i64 R.writes] 59 (0, 0)),
    Blk sg (.cells vals.toArray 33 (0, 0)), Elems vals R.sec] h

section
variable {w0 w : World} {L : List HProp} {r : Nat} {R : RS}

theorem open_ref (H : At w0 (RefAt r R :: L) w) : ∃ sg, ∃ vals : List Value, vals.length = R.n ∧
    At w0 (Blk r (.cells #[.slice (some ⟨sg, 0, none⟩) R.n R.n, .bool R.armed, .bool R.fallen, .int .i64 R.left, .int .i64 R.torn, .int .i64 R.reads, .int .i64 R.writes] 59 (0, 0)) ::
      Blk sg (.cells vals.toArray 33 (0, 0)) :: Elems vals R.sec :: L) w := by
  obtain ⟨sg, H⟩ := H.ex
  obtain ⟨vals, H⟩ := H.ex
  obtain ⟨he, H⟩ := H.and
  exact ⟨sg, vals, he, H.flat⟩

theorem shut_ref {sg : Nat} {vals : List Value} (he : vals.length = R.n)
    (H : At w0 (Blk r (.cells #[.slice (some ⟨sg, 0, none⟩) R.n R.n, .bool R.armed, .bool R.fallen, .int .i64 R.left, .int .i64 R.torn, .int .i64 R.reads, .int .i64 R.writes] 59 (0, 0)) ::
      Blk sg (.cells vals.toArray 33 (0, 0)) :: Elems vals R.sec :: L) w) : At w0 (RefAt r R :: L) w := by
  have H2 : At w0 (Stars [Blk r (.cells #[.slice (some ⟨sg, 0, none⟩) R.n R.n, .bool R.armed, .bool R.fallen, .int .i64 R.left, .int .i64 R.torn, .int .i64 R.reads, .int .i64 R.writes] 59 (0, 0)),
      Blk sg (.cells vals.toArray 33 (0, 0)), Elems vals R.sec] :: L) w := At.fold (M := [_, _, _]) H
  exact H2.imp fun h hh => ⟨sg, vals, he, hh⟩

theorem elem_cases {vals : List Value} {sec : Int → List UInt8} (H : At w0 (Elems vals sec :: L) w) {i : Nat} {v : Value} (hv : vals[i]? = some v) :
    (v = .slice none 0 0 ∧ sec i = Dk.zer) ∨ ((sec i).length = 512 ∧ ∃ g, v = .slice (some ⟨g, 0, none⟩) 512 512) := by
  obtain ⟨_, _, _, x, hs, a, b, hd, rfl, hA, hb⟩ := H
  rcases hA i v hv with ⟨h1, h2⟩ | ⟨h1, g, c, fr, h2, _⟩
  · exact .inl ⟨h1, h2⟩
  · exact .inr ⟨h1, g, h2⟩

theorem elem_reads {vals : List Value} {sec : Int → List UInt8} {i : Nat} {g : Nat} (hv : vals[i]? = some (.slice (some ⟨g, 0, none⟩) 512 512)) : Reads (Elems vals sec) (.slice (some ⟨g, 0, none⟩) 512 512) (sec i) := by
  intro w0 L w H
  obtain ⟨_, _, _, x, hs, a, b, hd, rfl, hA, hb⟩ := H
  rcases hA i _ hv with ⟨h1, h2⟩ | ⟨h1, g', c, fr, h2, h3, h4⟩
  · cases h1
  · cases h2
    refine .inr ⟨_, 512, by rw [h1], by rw [h1]; exact Nat.le_refl _, by simp [maxLen], fun j u hj => ?_⟩
    have hg : w.heap[g]? = some (.cells c 5 fr) := hs g _ ((uni_some hd).2 (.inl h3))
    rw [Addr.add_lit, Nat.zero_add, cell_of_row w g j c _ fr hg]
    exact h4 j u hj

theorem elem_add {vals : List Value} {sec : Int → List UInt8} {g i : Nat} {b : List UInt8} (hb : b.length = 512)
    (H : At w0 (Blk g (.cells (bv b).toArray 5 (0, 0)) :: Elems vals sec :: L) w) : At w0 (Elems (vals.set i (.slice (some ⟨g, 0, none⟩) 512 512)) (Dk.upd sec i b) :: L) w := by
  obtain ⟨h1, h2, h3, x, hs, a, y, hd, rfl, hA, c, z, hd2, rfl, hE, hz⟩ := H
  obtain ⟨d1, d2⟩ := disj_uni.1 hd
  refine ⟨h1, h2, h3, uni (uni a c) z, ?_, uni a c, z, disj_comm (disj_uni.2 ⟨disj_comm d2, disj_comm hd2⟩), rfl, ?_, hz⟩
  · rw [uni_assoc]; exact hs
  · intro j v hj
    by_cases hji : j = i
    · subst hji
      have hlt : j < vals.length := by
        rcases Nat.lt_or_ge j vals.length with h | h
        · exact h
        · rw [List.getElem?_eq_none (by simpa using h)] at hj; cases hj
      rw [List.getElem?_set_self hlt] at hj
      cases hj
      refine Or.inr ⟨by simpa [Dk.upd] using hb, g, (bv b).toArray, (0, 0), rfl, ?_, ?_⟩
      · refine (uni_some d1).2 (.inl ?_)
        have : a = fun k => if k = g then some (.cells (bv b).toArray 5 (0, 0)) else none := hA
        rw [this]; simp
      · intro k u hk
        simpa [Dk.upd] using hk
    · rw [List.getElem?_set_ne (fun e => hji e.symm)] at hj
      have hne : ((j : Int) = (i : Int)) = False := eq_false (by omega)
      rcases hE j v hj with ⟨e1, e2⟩ | ⟨e1, g', c', fr, e2, e3, e4⟩
      · exact Or.inl ⟨e1, by simp only [Dk.upd, hne, if_false]; exact e2⟩
      · exact Or.inr ⟨by simp only [Dk.upd, hne, if_false]; exact e1, g', c', fr, e2, (uni_some d1).2 (.inr e3), by simp only [Dk.upd, hne, if_false]; exact e4⟩

theorem elems_nil (H : At w0 L w) (n : Nat) : At w0 (Elems (List.replicate n (.slice none 0 0)) (fun _ => Dk.zer) :: L) w := by
  refine (At.fold (M := []) H).imp fun h hh i v hv => ?_
  rw [List.getElem?_replicate] at hv
  split at hv
  · cases hv; exact Or.inl ⟨rfl, rfl⟩
  · cases hv

theorem rnew_no (H : At w0 L w) (n : Int) (h : n < 1 ∨ 65536 < n) : Calls Try.prog 14 #[.int .i64 n] w (Ret w0 (.tuple #[.pointer none, .int .i64 30]) L) := by
  by_cases h1 : n < 1
  · go_enter Try.func14, Try.ntmps14
    go_wp2_with fail
    go_ret2
    exact ⟨rfl, H⟩
  · have h2 : 65536 < n := by omega
    go_enter Try.func14, Try.ntmps14
    go_wp2_with fail
    go_ret2
    exact ⟨rfl, H⟩

theorem rnew_yes (H : At w0 L w) (N : Nat) (h1 : (1 : Int) ≤ N) (h2 : (N : Int) ≤ 65536) : Calls Try.prog 14 #[.int .i64 N] w
    (RetEx w0 (fun r => .tuple #[.pointer (some ⟨r, 0, none⟩), .int .i64 0]) (fun r => RefAt r ⟨N, fun _ => Dk.zer, false, false, 0, 0, 0, 0⟩ :: L)) := by
  have ht : (N : Int).toNat = N := by omega
  go_enter Try.func14, Try.ntmps14
  go_wp2_with (first | (refine st_make rfl _ _ _ rfl _ _ _ _ rfl rfl 33 Try.underlying56 24 ?_ 1 ?_ (.slice none 0 0) ?_ ?_ ?_ ?_ ?_ H ?_; (kernel_rfl); (kernel_rfl); (kernel_rfl); (omega); (omega); (omega); (omega); (clear H; intro sg w H K hK; go_simp)) | (refine st_box rfl _ _ rfl _ rfl H ?_; (clear H; intro r w H K hK; simp only [Act.eval, Value.cells, Array.getD_eq_getD_getElem?, List.getElem?_toArray, List.getElem?_cons_succ, List.getElem?_cons_zero, Option.getD_some] at H; go_simp)))
  go_ret2
  have e0 : madeCells #[.slice none 0 0] ((N : Int).toNat * 1) = (List.replicate N (Value.slice none 0 0)).toArray := by rw [ht, Nat.mul_one]; exact madeCells_one _ _
  rw [e0] at H
  have H2 : At w0 (Blk r _ :: Blk sg _ :: Elems _ (fun _ => Dk.zer) :: L) w := (elems_nil H N).back 2 (by simp)
  exact ⟨r, rfl, shut_ref (R := ⟨N, fun _ => Dk.zer, false, false, 0, 0, 0, 0⟩) List.length_replicate H2⟩
end
end Rf
end Go.Proofs.Ytbbkfneafonmiaa
