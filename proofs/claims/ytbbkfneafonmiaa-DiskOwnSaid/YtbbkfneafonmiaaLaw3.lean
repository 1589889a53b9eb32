/-
  The two disks' Read, whatever it answers.
-/
import Derived.Test.YtbbkfneafonmiaaLaw2
namespace Go.Proofs.Ytbbkfneafonmiaa
open Go.Hp Go.RowKit
set_option linter.unusedVariables false
set_option linter.unusedSimpArgs false
namespace Lw
open Dk Rf
section
variable {w0 w : World} {L : List HProp} {d r : Nat} {D : DS} {R : RS}

theorem reads_nil {B : HProp} : Reads B (.slice none 0 0) [] := fun _ _ _ _ => .inl ⟨rfl, rfl⟩

def readD (D : DS) (n : Int) : DS := if mayE D n = 0 then { D with reads := wrap64 (D.reads + 1) } else D
def got (e : Int) (l : List UInt8) : List UInt8 := if e = 0 then l else []
def readR (R : RS) (n : Int) : RS := if refE R n = 0 then { R with reads := wrap64 (R.reads + 1) } else R

theorem readD_conv (n : Int) : readD (conv R) n = conv (readR R n) := by
  unfold readD readR
  rw [mayE_conv]
  split <;> rfl
theorem both_readR (h : Both R) (n : Int) : Both (readR R n) := by
  unfold readR
  split
  · exact ⟨⟨h.ok.n, h.ok.t0, h.ok.t1, h.ok.len⟩, h.n1, h.l0, h.l1⟩
  · exact h
theorem n_readR (n : Int) : (readR R n).n = R.n := by unfold readR; split <;> rfl
theorem n_rwritten (n : Int) (b : List UInt8) : (rwritten R n b).1.n = R.n := by
  unfold rwritten
  split
  · rfl
  · split
    · rfl
    · split <;> rfl

/-- What a Read hands back, and what is told then. -/
def RdPost (w0 : World) (e : Int) (l : List UInt8) (L : List HProp) (x : Ending) (w : World) : Prop :=
  ∃ v B, x = .returned (.tuple #[v, .int .i64 e]) ∧ Reads B v (got e l) ∧ At w0 (B :: L) w

theorem read (n : Int) (hsec : (D.sec n).length = 512) (H : At w0 (DiskAt d D :: L) w) : Calls Try.prog 18 #[.pointer (some ⟨d, 0, none⟩), .int .i64 n] w (RdPost w0 (mayE D n) (D.sec n) (DiskAt d (readD D n) :: L)) := by
  by_cases hm : mayE D n = 0
  · refine (read_yes H n hm).mono ?_
    rintro e w ⟨g, rfl, H⟩
    refine ⟨_, _, by rw [hm], ?_, by simpa [readD, hm] using H⟩
    rw [got, if_pos hm]
    exact reads_full hsec (by decide)
  · refine (read_no H n hm).mono ?_
    rintro e w ⟨rfl, H⟩
    refine ⟨_, emp, rfl, ?_, by simpa [readD, hm] using H.addEmp⟩
    rw [got, if_neg hm]
    exact reads_nil

theorem rread (h : Both R) (n : Int) (H : At w0 (RefAt r R :: L) w) : Calls Try.prog 19 #[.pointer (some ⟨r, 0, none⟩), .int .i64 n] w (RdPost w0 (refE R n) (R.sec n) (RefAt r (readR R n) :: L)) := by
  by_cases hm : refE R n = 0
  · refine (rread_yes H n hm h.ok.n).mono ?_
    rintro e w ⟨g, rfl, H⟩
    refine ⟨_, _, by rw [hm], ?_, by simpa [readR, hm] using H⟩
    rw [got, if_pos hm]
    exact reads_full (h.ok.len n) (by decide)
  · refine (rread_no H n hm).mono ?_
    rintro e w ⟨rfl, H⟩
    refine ⟨_, emp, rfl, ?_, by simpa [readR, hm] using H.addEmp⟩
    rw [got, if_neg hm]
    exact reads_nil

theorem mayE_out {D : DS} {n : Int} (hp : D.pw.isNone = false) (h : n < 0 ∨ D.n ≤ n) : mayE D n = 31 := by simp [mayE, hp, h]
theorem mayE_in {D : DS} {n : Int} (hp : D.pw.isNone = false) (h1 : 0 ≤ n) (h2 : n < D.n) : mayE D n = 0 := by
  have h : ¬ (n < 0 ∨ D.n ≤ n) := by omega
  simp [mayE, hp, h]
theorem mayE_fallen {D : DS} {n : Int} (hp : D.pw.isNone = true) : mayE D n = 5 := by simp [mayE, hp]

theorem reads_take {g : Nat} {l : List UInt8} {t : TypeId} {n k : Nat} (hl : l.length = n) (hk : k ≤ n) (hn : n ≤ maxLen) : Reads (Blk g (.cells (bv l).toArray t (0, 0))) (.slice (some ⟨g, 0, none⟩) k n) (l.take k) := by
  subst hl
  have e : (l.take k).length = k := by rw [List.length_take]; omega
  have := reads_blk (g := g) (off := 0) (t := t) (fr := (0, 0)) (c := (bv l).toArray) (l := l.take k) (cap := l.length) (fun j v hj => by rw [Nat.zero_add, List.getElem?_toArray]; exact bv_take hj) (by omega) hn
  rwa [e] at this

theorem whole_eq {b s : List UInt8} (hl : b.length = 512) (hs : s.length = 512) : b.take 512 ++ s.drop 512 = b := by
  rw [List.take_of_length_le (by omega), List.drop_eq_nil_of_le (by omega), List.append_nil]

theorem written_steady {N r c c' n : Int} {s : Int → List UInt8} {b : List UInt8} (h1 : 0 ≤ n) (h2 : n < N) (hl : b.length = 512) (hs : (s n).length = 512) (hc : wrap64 (c + 1) = c') :
    Dk.written ⟨N, s, some none, r, c⟩ n b = (⟨N, upd s n b, some none, r, c'⟩, 0) := by
  have hm : mayE ⟨N, s, some none, r, c⟩ n = 0 := mayE_in rfl h1 h2
  simp [Dk.written, hm, hl, pwHolds, pwBytes, pwNext, whole_eq hl hs, hc]

theorem written_left {N r c c' n l t : Int} {s : Int → List UInt8} {b : List UInt8} (h1 : 0 ≤ n) (h2 : n < N) (hl : b.length = 512) (hs : (s n).length = 512) (hc : wrap64 (c + 1) = c') (h0 : l ≠ 0) :
    Dk.written ⟨N, s, some (some (l, t)), r, c⟩ n b = (⟨N, upd s n b, some (some (l - 1, t)), r, c'⟩, 0) := by
  have hm : mayE ⟨N, s, some (some (l, t)), r, c⟩ n = 0 := mayE_in rfl h1 h2
  simp [Dk.written, hm, hl, pwHolds, pwBytes, pwNext, whole_eq hl hs, hc, h0]

theorem written_torn {N r c c' n t : Int} {s : Int → List UInt8} {b : List UInt8} (h1 : 0 ≤ n) (h2 : n < N) (hl : b.length = 512) (hc : wrap64 (c + 1) = c') :
    Dk.written ⟨N, s, some (some (0, t)), r, c⟩ n b = (⟨N, upd s n (b.take t.toNat ++ (s n).drop t.toNat), none, r, c'⟩, 5) := by
  have hm : mayE ⟨N, s, some (some (0, t)), r, c⟩ n = 0 := mayE_in rfl h1 h2
  simp [Dk.written, hm, hl, pwHolds, pwBytes, pwNext, hc]

theorem reads_lend {g : Nat} {l : List UInt8} {t : TypeId} {n : Nat} (hl : l.length = n) (hn : n + 67 ≤ maxLen) :
    Reads (Blk g (.cells (bv l ++ List.replicate 67 (Value.int .u8 201)).toArray t (0, 0))) (.slice (some ⟨g, 0, none⟩) n (n + 67)) l := by
  subst hl
  refine reads_blk (fun j v hj => ?_) (by omega) hn
  have hjl := (List.getElem?_eq_some_iff.1 hj).1
  rw [Nat.zero_add, List.getElem?_toArray, List.getElem?_append_left hjl]
  exact hj

theorem reads_own_n {v : Value} {l : List UInt8} {t : TypeId} {n : Nat} (hl : l.length = n) : Reads (OwnRow t 1 v n (bv l)) v l := by
  subst hl
  exact reads_own

theorem wrap1 : wrap64 (0 + 1) = 1 := wrap64_in (by decide) (by decide)

theorem cell_part {w : World} {g off : Nat} {c : Array Value} {t : TypeId} {fr : Nat × Nat} {l : List Value} (hg : w.heap[g]? = some (.cells c t fr)) (h : ∀ (j : Nat) (u : Value), l[j]? = some u → c[off + j]? = some u) :
    ∀ (j : Nat) (u : Value), l[j]? = some u → w.cell? ((⟨g, off, none⟩ : Addr).add j) = some u := by
  intro j u hj
  rw [Addr.add_lit, cell_of_row w g (off + j) c t fr hg]
  exact h j u hj

theorem part_take {l : List UInt8} {k : Nat} (j : Nat) (u : Value) (h : (bv (l.take k))[j]? = some u) : (bv l).toArray[0 + j]? = some u := by
  rw [Nat.zero_add, List.getElem?_toArray]
  exact bv_take h
theorem part_whole {l : List UInt8} (j : Nat) (u : Value) (h : (bv l)[j]? = some u) : (bv l).toArray[0 + j]? = some u := by
  rw [Nat.zero_add, List.getElem?_toArray]
  exact h
theorem part_drop {l : List UInt8} {k : Nat} (j : Nat) (u : Value) (h : (bv (l.drop k))[j]? = some u) : (bv l).toArray[k + j]? = some u := by
  rw [List.getElem?_toArray]
  unfold bv at h ⊢
  rwa [List.map_drop, List.getElem?_drop] at h

theorem made_512 : madeCells (Value.int .u8 0).cells ((512 : Int).toNat * 1) = (List.replicate 512 (Value.int .u8 (0 : UInt8).toNat)).toArray := by
  have h : (512 : Int).toNat * 1 = 512 := rfl
  rw [h]
  exact madeCells_one _ _
end
end Lw
end Go.Proofs.Ytbbkfneafonmiaa
