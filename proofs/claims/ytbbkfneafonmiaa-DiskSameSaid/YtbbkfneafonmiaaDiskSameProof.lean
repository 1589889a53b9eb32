/-
  DiskSame.
-/
import Derived.Test.YtbbkfneafonmiaaLaw3
import Derived.Test.YtbbkfneafonmiaaSteps
import Derived.Test.YtbbkfneafonmiaaReg4
import Derived.ProofKit
namespace Go.Proofs.Ytbbkfneafonmiaa
open Go.Hp Go.RowKit Go.ChangeShapes Go.WideShapes
set_option linter.unusedVariables false
set_option linter.unusedSimpArgs false
namespace diskSame
open Dk Rf Lw

theorem img_congr {s t : Int → List UInt8} : ∀ k : Nat, (∀ j : Nat, j < k → s j = t j) → img s k = img t k
  | 0, _ => rfl
  | k + 1, h => by
    have h1 := img_congr k fun j hj => h j (by omega)
    have h2 := h k (by omega)
    show img s k ++ s k = img t k ++ t k
    rw [h1, h2]

theorem cut_img {s : Int → List UInt8} (hs : ∀ n, (s n).length = 512) : ∀ (k j : Nat), j < k → ((img s k).drop (j * 512)).take 512 = s j
  | 0, _, h => by omega
  | k + 1, j, h => by
    rw [img]
    have hl := len_img hs k
    by_cases hj : j < k
    · have h1 : j * 512 + 512 ≤ (img s k).length := by
        have h := Nat.mul_le_mul_right 512 (show j + 1 ≤ k by omega)
        rw [Nat.add_mul, Nat.one_mul] at h
        rw [hl]
        exact h
      have h2 : j * 512 ≤ (img s k).length := Nat.le_trans (Nat.le_add_right _ _) h1
      have h3 : 512 ≤ ((img s k).drop (j * 512)).length := by
        rw [List.length_drop]
        exact Nat.le_sub_of_add_le (by rw [Nat.add_comm]; exact h1)
      rw [List.drop_append_of_le_length h2, List.take_append_of_le_length h3]
      exact cut_img hs k j hj
    · have hjk : j = k := by omega
      subst hjk
      rw [← hl, List.drop_left]
      exact List.take_of_length_le (by rw [hs]; exact Nat.le_refl _)

/-- Two disks of 8 sectors that answer the same. -/
structure Tw (A B : DS) : Prop where
  nA : A.n = 8
  nB : B.n = 8
  pw : A.pw = B.pw
  ok : PwOk A.pw
  lA : ∀ m, (A.sec m).length = 512
  lB : ∀ m, (B.sec m).length = 512
  eq : ∀ j : Int, 0 ≤ j → j < 8 → A.sec j = B.sec j

theorem Tw.may {A B : DS} (h : Tw A B) (n : Int) : mayE A n = mayE B n := by unfold mayE; rw [h.pw, h.nA, h.nB]
theorem mayE_range {A : DS} {n : Int} (h : mayE A n = 0) : 0 ≤ n ∧ n < A.n := by
  unfold mayE at h
  split at h
  · cases h
  · split at h
    · cases h
    · omega
theorem Tw.at_ {A B : DS} (h : Tw A B) {n : Int} (hm : mayE A n = 0) : A.sec n = B.sec n := by
  obtain ⟨h1, h2⟩ := mayE_range hm
  rw [h.nA] at h2
  exact h.eq n h1 h2
theorem Tw.got_eq {A B : DS} (h : Tw A B) (n : Int) : got (mayE A n) (A.sec n) = got (mayE A n) (B.sec n) := by
  unfold got
  split
  · rename_i hm; exact h.at_ hm
  · rfl
theorem Tw.img_eq {A B : DS} (h : Tw A B) : img A.sec A.n.toNat = img B.sec B.n.toNat := by
  rw [h.nA, h.nB]
  exact img_congr 8 fun j hj => h.eq j (by omega) (by omega)
theorem Tw.rd {A B : DS} (h : Tw A B) (n : Int) : Tw (readD A n) (readD B n) := by
  unfold readD
  rw [← h.may n]
  split
  · exact ⟨h.nA, h.nB, h.pw, h.ok, h.lA, h.lB, h.eq⟩
  · exact h
theorem Tw.ar {A B : DS} (h : Tw A B) (x y : Int) (hx : x ≤ 9223372036854775807) : Tw (armed A x y) (armed B x y) := by
  unfold armed
  rw [← h.pw]
  split
  · exact h
  · refine ⟨h.nA, h.nB, rfl, ?_, h.lA, h.lB, h.eq⟩
    intro l t e
    cases e
    unfold armY armX
    refine ⟨?_, ?_, ?_, ?_⟩ <;> (repeat' split) <;> omega
theorem Tw.st {A B : DS} (h : Tw A B) : Tw { A with pw := some none } { B with pw := some none } :=
  ⟨h.nA, h.nB, rfl, fun _ _ e => (by cases e), h.lA, h.lB, h.eq⟩

theorem PwOk.next {p : Option (Option (Int × Int))} (h : PwOk p) : PwOk (if pwHolds p then pwNext p else none) := by
  match p, h with
  | none, _ => intro l t e; cases e
  | some none, _ => intro l t e; cases e
  | some (some (l, t)), h =>
    obtain ⟨h1, h2, h3, h4⟩ := h l t rfl
    by_cases h0 : l = 0
    · simp [pwHolds, h0, PwOk]
    · simp only [pwHolds, pwNext, h0, if_false, if_true]
      intro l' t' e
      cases e
      exact ⟨by omega, by omega, h3, h4⟩

theorem Tw.wr {A B : DS} (h : Tw A B) (n : Int) (b : List UInt8) : (Dk.written A n b).2 = (Dk.written B n b).2 ∧ Tw (Dk.written A n b).1 (Dk.written B n b).1 := by
  unfold Dk.written
  rw [← h.may n]
  by_cases hm : mayE A n = 0
  · by_cases hl : b.length = 512
    · have hb := pwBytes_range h.ok
      have hs := h.at_ hm
      have hlx : (b.take (pwBytes A.pw).toNat ++ (A.sec n).drop (pwBytes A.pw).toNat).length = 512 := by
        rw [List.length_append, List.length_take, List.length_drop, h.lA, hl]; omega
      simp only [hm, hl, ne_eq, not_true_eq_false, if_false]
      rw [← h.pw, ← hs]
      refine ⟨rfl, h.nA, h.nB, rfl, PwOk.next h.ok, upd_len hlx h.lA, upd_len hlx h.lB, fun j j1 j2 => ?_⟩
      show upd _ _ _ j = upd _ _ _ j
      unfold upd
      split
      · rfl
      · exact h.eq j j1 j2
    · simp only [hm, hl, ne_eq, not_true_eq_false, if_false, not_false_eq_true, if_true]
      exact ⟨trivial, h⟩
  · simp only [hm, ne_eq, not_false_eq_true, if_true]
    exact ⟨trivial, h⟩

/-- The first disk, while it is filled. -/
structure One (A : DS) : Prop where
  n : A.n = 8
  pw : A.pw = some none
  len : ∀ m, (A.sec m).length = 512

theorem One.wr {A : DS} (h : One A) (n : Int) (b : List UInt8) : One (Dk.written A n b).1 := by
  unfold Dk.written
  by_cases hm : mayE A n = 0
  · by_cases hl : b.length = 512
    · simp only [hm, hl, ne_eq, not_true_eq_false, if_false]
      refine ⟨h.n, by rw [h.pw]; rfl, upd_len ?_ h.len⟩
      rw [h.pw]
      show (b.take 512 ++ (A.sec n).drop 512).length = 512
      rw [whole_eq hl (h.len n), hl]
    · simp only [hm, hl, ne_eq, not_true_eq_false, if_false, not_false_eq_true, if_true]
      exact h
  · simp only [hm, ne_eq, not_false_eq_true, if_true]
    exact h

/-- Ahead of the two writes, behind the first, behind both. -/
def jw (W : World) (g : Nat) (o : Obj) (da db : Nat) (A B A' B' : DS) (E : Int) : List Value → World → Prop
  | [] => fun w => At W (Blk g o :: DiskAt da A :: DiskAt db B :: Arg W :: []) w
  | [x] => fun w => x = .int .i64 E ∧ At W (Blk g o :: DiskAt da A' :: DiskAt db B :: Arg W :: []) w
  | [x, y] => fun w => x = .int .i64 E ∧ y = .int .i64 E ∧ At W (Blk g o :: DiskAt da A' :: DiskAt db B' :: Arg W :: []) w
  | _ => fun _ => False

theorem jw_get {W w : World} {g : Nat} {o : Obj} {da db : Nat} {A B A' B' : DS} {E : Int} {xs : List Value} (h : jw W g o da db A B A' B' E xs w) : w.heap[g]? = some o := by
  match xs, h with
  | [], h => exact At.get0 h
  | [_], h => exact At.get0 h.2
  | [_, _], h => exact At.get0 h.2.2

section
variable {P : Program} {Q : Exit → Act → World → Prop} {o : Oper} {a : Act} {w : World} {K : Act → World → Prop}
theorem op_loadh (T : TypeId) (x : Operand) (ho : o.op = .load T x) (g off : Nat) (hx : a.eval x = .pointer (some ⟨g, off, none⟩))
    (hT : plainT P T = true) {c : Array Value} {t : TypeId} {fr : Nat × Nat} (hL : w.heap[g]? = some (.cells c t fr)) {v : Value} (hc : c[off]? = some v)
    (h : K (a.put o.dst v) w) : o.wp P a w K Q := by
  refine op_value (v := v) (w' := w) ?_ h
  simp [execOp, ho, hx, Instr.loadAt, Instr.sureAddr, run_loadVar_cell hT hL hc]
end

section
variable {W : World}

set_option maxRecDepth 100000 in
set_option maxHeartbeats 4000000 in
theorem walk {va vb : Value} {l m : List StepV} (hs : StepsAt W va l) (hs2 : StepsAt W vb m) :
    Calls Try.prog 9 #[va, vb] W fun e w => e = .returned (.bool true) ∧ Below W.heap.size W w := by
  have H := At.of W
  obtain ⟨ad, cap, rfl, hl1, hl2, hst⟩ := hs
  obtain ⟨ad2, cap2, rfl, hl3, hl4, hst2⟩ := hs2
  have hl5 : l.length ≤ 9223372036854775807 := by simp only [maxLen] at hl2; omega
  have hl6 : m.length ≤ 9223372036854775807 := by simp only [maxLen] at hl4; omega
  have Hst := Lib.hid hst
  have Hst2 := Lib.hid hst2
  clear hst hst2
  go_enter Try.func9, Try.ntmps9
  go_wp2_with fail
  refine (known H).mono ?_
  rintro e w ⟨rfl, H⟩
  go_wp2_with fail
  refine (new_yes H 8 (by omega) (by omega)).mono ?_
  rintro e w ⟨d, rfl, H⟩
  go_wp2_with fail
  go_loopw [7] (fun i wr => ∃ k : Nat, k ≤ l.length ∧ i = .int .i64 k ∧ ∃ A, Hid (One A) ∧ At W (DiskAt d A :: Arg W :: []) wr) (fun i _ => l.length - (intOf i).toNat)
  case atStart => exact ⟨0, Nat.zero_le _, rfl, _, Lib.hid ⟨rfl, rfl, fun _ => len_zer⟩, H⟩
  case round =>
    clear H
    obtain ⟨k, hk, rfl, A, hA, H⟩ := hrel
    by_cases hlt : k < l.length
    · have g1 : (k : Int) < l.length := by omega
      obtain ⟨⟨sk, sn, sm, sv, sd⟩, hs⟩ : ∃ s, l[k]? = some s := ⟨l[k], by simp [hlt]⟩
      obtain ⟨b, rfl, so⟩ := Hst.out k _ hs
      obtain ⟨sa, dc, hdv, hd1, hd2, hd3⟩ := so.d.len
      dsimp only at hdv
      subst hdv
      clear hd3
      have n1 := so.n64.1
      have n2 := so.n64.2
      dsimp only at n1 n2 hd1 hd2
      go_wp2_with (first | (refine st_make rfl _ _ _ rfl _ _ _ _ rfl rfl 5 Try.underlying33 1 ?_ 1 ?_ (.int .u8 0) ?_ ?_ ?_ ?_ ?_ H ?_; (kernel_rfl); (kernel_rfl); (kernel_rfl); (omega); (omega); (omega); (omega); (clear H; intro g w H K hK; rw [made_512] at H; have so3 := (so.at_ H 2 rfl).c3; dsimp only at so3; go_simp))          | (refine st_load1 rfl _ _ rfl _ rfl ?_ so3 ?_; (kernel_rfl); (intro K hK; go_simp))          | (refine st_load1 rfl _ _ rfl _ rfl ?_ so1 ?_; (kernel_rfl); (intro K hK; go_simp))          | (refine st_copy rfl _ _ _ _ rfl 5 Try.underlying33 ?_ g 0 512 512 sd.length dc sa rfl rfl (bv (sd.take 512)) ?_ ?_ (bv_one _) H 0 rfl ?_ ?_; (kernel_rfl); (rw [length_bv, List.length_take]; exact Nat.min_comm _ _);            (intro hp; obtain ⟨ad2, cap2, hv, _, _, hc⟩ := (so.at_ H 2 rfl).d.len; obtain ⟨bb, hbb, hcc⟩ := hc (by rw [length_bv, List.length_take] at hp; dsimp only; omega); cases hv; exact ⟨bb, hbb, fun j v hj => hcc j v (bv_take hj)⟩);            (rw [length_bv, List.length_take, List.length_replicate]; omega); (clear H so3; intro w H K hK; simp only [List.set_cons_zero] at H; rw [splice_full] at H; have so1 := (so.at_ H 2 rfl).c1; dsimp only at so1; go_simp)))
      refine (round H sn 8 n1 n2 (by omega) (by omega)).mono ?_
      rintro e w ⟨rfl, H⟩
      have hlb := len_fullB sd 0
      generalize fullB sd 0 = bb at *
      generalize rnd sn 8 = p at *
      have hB : Reads (Blk g (.cells (bv bb).toArray 5 (0, 0))) (.slice (some ⟨g, 0, none⟩) 512 512) bb := reads_full hlb (by decide)
      go_wp2_with fail
      refine (write hB (by rw [hA.out.pw]; intro l t e; cases e) p (H.sel 2 [1, 0])).mono ?_
      rintro e w ⟨rfl, H⟩
      go_wp2_with fail
      go_roundw
      case rel => exact ⟨k + 1, by omega, by go_num, _, Lib.hid (hA.out.wr p bb), H.sel 3 [0, 2]⟩
      case measure => simp [intOf]; omega
    · have g1 : ¬ (k : Int) < l.length := by omega
      go_wp2_with fail
      have hn1 : (1 : Int) ≤ A.n := by have := hA.out.n; omega
      have hn2 : A.n ≤ 65536 := by have := hA.out.n; omega
      have hli := len_img hA.out.len 8
      refine (image hn1 hn2 hA.out.len H).mono ?_
      rintro e w ⟨x, rfl, H⟩
      have hX : Reads (OwnRow 5 1 x (A.n.toNat * 512) (bv (img A.sec A.n.toNat))) x (img A.sec 8) := by
        rw [hA.out.n]
        exact reads_own_n hli
      go_wp2_with fail
      refine (load_yes hX 8 hli (by omega) (by omega) H).mono ?_
      rintro e w ⟨d2, rfl, H⟩
      have HT : Hid (Tw A ⟨(8 : Nat), cut (img A.sec 8) 8, some none, 0, 0⟩) := Lib.hid ⟨hA.out.n, rfl, hA.out.pw, (by rw [hA.out.pw]; intro l t e; cases e), hA.out.len, fun n => cut_len (Nat.le_of_eq hli.symm) n, fun j j1 j2 => by
        show A.sec j = cut (img A.sec 8) 8 j
        unfold cut
        rw [if_pos ⟨j1, j2⟩]
        have := cut_img hA.out.len 8 j.toNat (by omega)
        rw [this, Int.toNat_of_nonneg j1]⟩
      replace H : At W (DiskAt d A :: DiskAt d2 ⟨(8 : Nat), cut (img A.sec 8) 8, some none, 0, 0⟩ :: Arg W :: []) w := H.sel 4 [2, 0, 3]
      generalize (⟨(8 : Nat), cut (img A.sec 8) 8, some none, 0, 0⟩ : DS) = B at *
      clear hn1 hn2 hli hA hX
      go_wp2_with fail
      go_loopw [11] (fun i wr => ∃ k : Nat, k ≤ m.length ∧ i = .int .i64 k ∧ ∃ A B, Hid (Tw A B) ∧ At W (DiskAt d A :: DiskAt d2 B :: Arg W :: []) wr) (fun i _ => m.length - (intOf i).toNat)
      case atStart => exact ⟨0, Nat.zero_le _, rfl, A, B, HT, H⟩
      case round =>
        clear H HT
        obtain ⟨k, hk, rfl, A, B, HT, H⟩ := hrel
        have hda : ∃ da, da = d := ⟨_, rfl⟩
        obtain ⟨da, rfl⟩ := hda
        have hdb : ∃ db, db = d2 := ⟨_, rfl⟩
        obtain ⟨db, rfl⟩ := hdb
        by_cases hlt : k < m.length
        · have g1 : (k : Int) < m.length := by omega
          obtain ⟨⟨sk, sn, sm, sv, sd⟩, hs⟩ : ∃ s, m[k]? = some s := ⟨m[k], by simp [hlt]⟩
          obtain ⟨b, rfl, so⟩ := Hst2.out k _ hs
          obtain ⟨sa, dc, hdv, hd1, hd2, hd3⟩ := so.d.len
          dsimp only at hdv
          subst hdv
          have hS := reads_arg so.d
          clear hd3
          have sow := so.at_ H 2 rfl
          have hcells : ∀ (j : Nat) (u : Value), [Value.int .i64 sk, .int .i64 sn, .int .i64 sm, .slice sa sd.length dc][j]? = some u → wr.cell? ((b.add (k * 4)).add j) = some u := by
            intro j u hj
            match j, hj with
            | 0, hj => cases hj; exact sow.c0
            | 1, hj => cases hj; exact sow.c1
            | 2, hj => cases hj; exact sow.c2
            | 3, hj => cases hj; exact sow.c3
            | j + 4, hj => simp at hj
          have Hc := Lib.hid hcells
          have k1 := so.k64.1
          have k2 := so.k64.2
          have n1 := so.n64.1
          have n2 := so.n64.2
          have m1 := so.m64.1
          have m2 := so.m64.2
          dsimp only at k1 k2 n1 n2 m1 m2 hd1 hd2 hS
          clear hcells sow
          go_wp2_with (first | (refine st_loadCells rfl _ _ rfl _ rfl ?_ [.int .i64 sk, .int .i64 sn, .int .i64 sm, .slice sa sd.length dc] ?_ Hc.out ?_; (kernel_rfl); (kernel_rfl); (intro K hK; go_simp))              | (refine st_alloc rfl _ rfl (.agg (#[.int .i64 0, .int .i64 0, .int .i64 0, .slice none 0 0])) ?_ (#[.int .i64 0, .int .i64 0, .int .i64 0, .slice none 0 0]) rfl H ?_; (kernel_rfl); (clear H; intro gs w H K hK; go_simp)) | (refine st_put rfl _ _ _ rfl _ rfl _ rfl ?_ ?_ H 0 rfl ?_ ?_; (simp [Value.oneCell']); (kernel_rfl); (simp); (clear H; intro w H K hK; simp only [List.set_cons_zero, List.set_cons_succ, Act.eval, Value.cells, Array.getD_eq_getD_getElem?, List.getElem?_toArray, List.getElem?_cons_succ, List.getElem?_cons_zero, Option.getD_some] at H; go_simp)) | (refine st_load rfl _ _ rfl _ _ rfl ?_ H 0 rfl rfl ?_; (kernel_rfl); (intro K hK; go_simp)))
          replace H : At W (Blk gs (.cells #[.int .i64 sk, .int .i64 sn, .int .i64 sm, .slice sa sd.length dc] 35 (0, 0)) :: DiskAt da A :: DiskAt db B :: Arg W :: []) w := H
          refine (round H sk 7 k1 k2 (by omega) (by omega)).mono ?_
          rintro e w ⟨rfl, H⟩
          obtain ⟨p1, p2⟩ := rnd_range (v := sk) (n := 7) (by omega)
          generalize rnd sk 7 = p at *
          rcases (show p = 0 ∨ p = 1 ∨ p = 2 ∨ p = 3 ∨ p = 4 ∨ p = 5 ∨ p = 6 by omega) with rfl | rfl | rfl | rfl | rfl | rfl | rfl
          ·
            go_wp2_with (first | (refine st_load rfl _ _ rfl _ _ rfl ?_ H 0 rfl rfl ?_; (kernel_rfl); (intro K hK; go_simp)))
            refine (Lw.read sn (HT.out.lA sn) (H.sel 4 [1, 0, 2, 3])).mono ?_
            rintro e w ⟨v1, B1, rfl, hB1, H⟩
            replace H : At W (Blk gs (.cells #[.int .i64 sk, .int .i64 sn, .int .i64 sm, .slice sa sd.length dc] 35 (0, 0)) :: B1 :: DiskAt da (readD A sn) :: DiskAt db B :: Arg W :: []) w := H.sel 4 [2, 0, 1, 3]
            go_wp2_with (first | (refine st_load rfl _ _ rfl _ _ rfl ?_ H 0 rfl rfl ?_; (kernel_rfl); (intro K hK; go_simp)))
            refine (Lw.read sn (HT.out.lB sn) (H.sel 4 [3, 1, 2])).mono ?_
            rintro e w ⟨v2, B2, rfl, hB2, H⟩
            have hg := HT.out.got_eq sn
            have hm := HT.out.may sn
            rw [← hm] at hB2 ⊢
            rw [← hg] at hB2
            replace HT : Hid (Tw (readD A sn) (readD B sn)) := Lib.hid (HT.out.rd sn)
            have H : At W (B2 :: DiskAt db (readD B sn) :: B1 :: DiskAt da (readD A sn) :: Arg W :: []) w := H
            generalize got (mayE A sn) (A.sec sn) = G at *
            generalize mayE A sn = E2 at *
            clear hg hm
            generalize readD A sn = A at *
            generalize readD B sn = B at *
            go_wp2_with fail
            refine (same H (hB1.at_ H 2 rfl) (hB2.at_ H 0 rfl)).mono ?_
            rintro e w ⟨rfl, H⟩
            rw [beq_self_eq_true]
            go_wp2_with fail
            replace H : At W (DiskAt da A :: DiskAt db B :: Arg W :: []) w := H.sel 5 [3, 1, 4]
            refine (fallen H).mono ?_
            rintro e w ⟨rfl, H⟩
            go_wp2_with fail
            refine (fallen (H.sel 2 [1, 0])).mono ?_
            rintro e w ⟨rfl, H⟩
            rw [← HT.out.pw]
            go_wp2_with fail
            have hn1 : (1 : Int) ≤ A.n := by have := HT.out.nA; omega
            have hn2 : A.n ≤ 65536 := by have := HT.out.nA; omega
            have hm1 : (1 : Int) ≤ B.n := by have := HT.out.nB; omega
            have hm2 : B.n ≤ 65536 := by have := HT.out.nB; omega
            refine (image hn1 hn2 HT.out.lA (H.sel 2 [1, 0])).mono ?_
            rintro e w ⟨x, rfl, H⟩
            go_wp2_with fail
            refine (image hm1 hm2 HT.out.lB (H.sel 3 [2, 0, 1])).mono ?_
            rintro e w ⟨y, rfl, H⟩
            have hX : ∀ v, Reads (OwnRow 5 1 v (A.n.toNat * 512) (bv (img A.sec A.n.toNat))) v (img A.sec A.n.toNat) := fun v => reads_own_n (len_img HT.out.lA _)
            have hY : ∀ v, Reads (OwnRow 5 1 v (B.n.toNat * 512) (bv (img B.sec B.n.toNat))) v (img B.sec B.n.toNat) := fun v => reads_own_n (len_img HT.out.lB _)
            go_wp2_with fail
            refine (same H ((hX x).at_ H 2 rfl) ((hY y).at_ H 0 rfl)).mono ?_
            rintro e w ⟨rfl, H⟩
            have hbe : (img A.sec A.n.toNat == img B.sec B.n.toNat) = true := by rw [HT.out.img_eq]; exact beq_self_eq_true _
            rw [hbe]
            clear hX hY hbe hn1 hn2 hm1 hm2
            go_wp2_with fail
            go_roundw
            case rel => exact ⟨k + 1, by omega, by go_num, A, B, HT, H.sel 5 [3, 1, 4]⟩
            case measure => simp [intOf]; omega
          · go_wp2_with fail
            obtain ⟨he, hT2⟩ := HT.out.wr sn sd
            have HT2 := Lib.hid hT2
            have HE := Lib.hid he.symm
            have hokB : PwOk B.pw := by rw [← HT.out.pw]; exact HT.out.ok
            have hokA := HT.out.ok
            clear he hT2 HT
            refine wp_region_chain [5, 11] (fun i => (#[0, 0, 0, 0, 0, 1, 0, 0, 0, 0, 0, 2, 2] : Array Nat).getD i 0)                (fun xs i => (#[.pointer (some ⟨da, 0, none⟩), .pointer (some ⟨gs, 1, none⟩), .int .i64 sn, .pointer (some ⟨gs, 3, none⟩), .slice sa sd.length dc, xs.getD 0 undef,                  .pointer (some ⟨db, 0, none⟩), .pointer (some ⟨gs, 1, none⟩), .int .i64 sn, .pointer (some ⟨gs, 3, none⟩), .slice sa sd.length dc, xs.getD 1 undef, .bool false] : Array Value).getD i undef)                (jw W gs (.cells #[.int .i64 sk, .int .i64 sn, .int .i64 sm, .slice sa sd.length dc] 35 (0, 0)) da db A B (Dk.written A sn sd).1 (Dk.written B sn sd).1 (Dk.written A sn sd).2)                (by kernel_rfl) (by kernel_rfl) (by kernel_rfl) ?_ ?_ H ?_ ?_
            · intro xs x j hj
              match j, hj with
              | 0, _ => rfl
              | 1, _ => rfl
              | 2, _ => rfl
              | 3, _ => rfl
              | 4, _ => rfl
              | 5, hj => exact getD_snoc hj
              | 6, _ => rfl
              | 7, _ => rfl
              | 8, _ => rfl
              | 9, _ => rfl
              | 10, _ => rfl
              | 11, hj => exact getD_snoc hj
              | 12, _ => rfl
              | n + 13, _ => rfl
            · intro xs x m h1 h2
              match xs, h1, h2 with
              | [], _, h2 => cases h2; rfl
              | [_], _, h2 => cases h2; rfl
            · clear H
              refine ⟨chain_pl rfl ?_, chain_pl rfl ?_, chain_pl rfl ?_, chain_pl rfl ?_, chain_pl rfl ?_, chain_mk 0 rfl ?_, chain_pl rfl ?_, chain_pl rfl ?_, chain_pl rfl ?_, chain_pl rfl ?_, chain_pl rfl ?_, chain_mk 1 rfl ?_, chain_pl rfl ?_, trivial⟩
              all_goals first
                | (intro xs h1 h2; refine (if_pos (by rfl)).mpr ?_; intro T' ds w K H hkn ho hK)
                | (intro xs hx; rcases xs with _ | ⟨x0, _ | ⟨x1, _ | ⟨x2, xs⟩⟩⟩ <;> (try (exfalso; simp only [List.length_cons, List.length_nil] at hx; omega)); refine ⟨rfl, ?_⟩; intro T' ds w K H hkn ho hK)
              all_goals
                have o5 := ho 5 (by kernel_rfl)
                have o9 := ho 9 (by kernel_rfl)
                have o12 := ho 12 (by kernel_rfl)
                clear ho
                simp [know, dstAt, Region.binds] at hkn o5 o9 o12
              all_goals first
                | (go_simp; exact hK _ H)
                | (refine op_loadh _ _ rfl gs 1 (by simp [Act.eval, hkn]) (by kernel_rfl) (jw_get H) rfl ?_; exact hK _ H)
                | (refine op_loadh _ _ rfl gs 3 (by simp [Act.eval, hkn]) (by kernel_rfl) (jw_get H) rfl ?_; exact hK _ H)
                | (replace H : At W (Blk gs _ :: DiskAt da A :: DiskAt db B :: Arg W :: []) w := H; go_simp; refine (write hS hokA sn (H.sel 4 [1, 3, 0, 2])).mono ?_; rintro e w ⟨rfl, H⟩; exact hK _ _ ⟨rfl, H.sel 4 [2, 0, 3, 1]⟩)
                | (obtain ⟨rfl, H⟩ := H; replace H : At W (Blk gs _ :: DiskAt da _ :: DiskAt db B :: Arg W :: []) w := H; go_simp; refine (write hS hokB sn (H.sel 4 [2, 3, 0, 1])).mono ?_; rintro e w ⟨rfl, H⟩; rw [HE.out]; exact hK _ _ ⟨rfl, rfl, H.sel 4 [2, 3, 0, 1]⟩)
                | (rcases xs with _ | ⟨x0, _ | ⟨x1, _ | ⟨x2, xs⟩⟩⟩ <;> first | (exfalso; simp at h1; done) | (exfalso; simp at h2; done) | skip; obtain ⟨rfl, rfl, H⟩ := H; go_simp; exact hK _ ⟨rfl, rfl, H⟩)
                | skip
            · intro xs w hx H
              match xs, hx with
              | [x0, x1], _ =>
              obtain ⟨rfl, rfl, H⟩ := H
              replace H : At W (DiskAt da (Dk.written A sn sd).1 :: DiskAt db (Dk.written B sn sd).1 :: Arg W :: []) w := H.drop
              have HT := HT2
              clear HT2 HE hokA hokB
              simp [putAll, Act.put]
              generalize (Dk.written A sn sd).2 = E at *
              generalize (Dk.written A sn sd).1 = A at *
              generalize (Dk.written B sn sd).1 = B at *
              go_wp2_with fail
              refine (fallen H).mono ?_
              rintro e w ⟨rfl, H⟩
              go_wp2_with fail
              refine (fallen (H.sel 2 [1, 0])).mono ?_
              rintro e w ⟨rfl, H⟩
              rw [← HT.out.pw]
              go_wp2_with fail
              have hn1 : (1 : Int) ≤ A.n := by have := HT.out.nA; omega
              have hn2 : A.n ≤ 65536 := by have := HT.out.nA; omega
              have hm1 : (1 : Int) ≤ B.n := by have := HT.out.nB; omega
              have hm2 : B.n ≤ 65536 := by have := HT.out.nB; omega
              refine (image hn1 hn2 HT.out.lA (H.sel 2 [1, 0])).mono ?_
              rintro e w ⟨x, rfl, H⟩
              go_wp2_with fail
              refine (image hm1 hm2 HT.out.lB (H.sel 3 [2, 0, 1])).mono ?_
              rintro e w ⟨y, rfl, H⟩
              have hX : ∀ v, Reads (OwnRow 5 1 v (A.n.toNat * 512) (bv (img A.sec A.n.toNat))) v (img A.sec A.n.toNat) := fun v => reads_own_n (len_img HT.out.lA _)
              have hY : ∀ v, Reads (OwnRow 5 1 v (B.n.toNat * 512) (bv (img B.sec B.n.toNat))) v (img B.sec B.n.toNat) := fun v => reads_own_n (len_img HT.out.lB _)
              go_wp2_with fail
              refine (same H ((hX x).at_ H 2 rfl) ((hY y).at_ H 0 rfl)).mono ?_
              rintro e w ⟨rfl, H⟩
              have hbe : (img A.sec A.n.toNat == img B.sec B.n.toNat) = true := by rw [HT.out.img_eq]; exact beq_self_eq_true _
              rw [hbe]
              clear hX hY hbe hn1 hn2 hm1 hm2
              go_wp2_with fail
              go_roundw
              case rel => exact ⟨k + 1, by omega, by go_num, A, B, HT, H.sel 5 [3, 1, 4]⟩
              case measure => simp [intOf]; omega
          · go_wp2_with (first | (refine st_load rfl _ _ rfl _ _ rfl ?_ H 0 rfl rfl ?_; (kernel_rfl); (intro K hK; go_simp)))
            refine (arm (H.sel 2 [1, 0]) sn sm).mono ?_
            rintro e w ⟨rfl, H⟩
            replace H : At W (Blk gs (.cells #[.int .i64 sk, .int .i64 sn, .int .i64 sm, .slice sa sd.length dc] 35 (0, 0)) :: DiskAt da (armed A sn sm) :: DiskAt db B :: Arg W :: []) w := H.sel 2 [1, 0]
            go_wp2_with (first | (refine st_load rfl _ _ rfl _ _ rfl ?_ H 0 rfl rfl ?_; (kernel_rfl); (intro K hK; go_simp)))
            refine (arm (H.sel 3 [2, 0, 1]) sn sm).mono ?_
            rintro e w ⟨rfl, H⟩
            replace HT := Lib.hid (HT.out.ar sn sm n2)
            replace H : At W (DiskAt da (armed A sn sm) :: DiskAt db (armed B sn sm) :: Arg W :: []) w := H.sel 3 [2, 0]
            generalize armed A sn sm = A at *
            generalize armed B sn sm = B at *
            go_wp2_with fail
            refine (fallen H).mono ?_
            rintro e w ⟨rfl, H⟩
            go_wp2_with fail
            refine (fallen (H.sel 2 [1, 0])).mono ?_
            rintro e w ⟨rfl, H⟩
            rw [← HT.out.pw]
            go_wp2_with fail
            have hn1 : (1 : Int) ≤ A.n := by have := HT.out.nA; omega
            have hn2 : A.n ≤ 65536 := by have := HT.out.nA; omega
            have hm1 : (1 : Int) ≤ B.n := by have := HT.out.nB; omega
            have hm2 : B.n ≤ 65536 := by have := HT.out.nB; omega
            refine (image hn1 hn2 HT.out.lA (H.sel 2 [1, 0])).mono ?_
            rintro e w ⟨x, rfl, H⟩
            go_wp2_with fail
            refine (image hm1 hm2 HT.out.lB (H.sel 3 [2, 0, 1])).mono ?_
            rintro e w ⟨y, rfl, H⟩
            have hX : ∀ v, Reads (OwnRow 5 1 v (A.n.toNat * 512) (bv (img A.sec A.n.toNat))) v (img A.sec A.n.toNat) := fun v => reads_own_n (len_img HT.out.lA _)
            have hY : ∀ v, Reads (OwnRow 5 1 v (B.n.toNat * 512) (bv (img B.sec B.n.toNat))) v (img B.sec B.n.toNat) := fun v => reads_own_n (len_img HT.out.lB _)
            go_wp2_with fail
            refine (same H ((hX x).at_ H 2 rfl) ((hY y).at_ H 0 rfl)).mono ?_
            rintro e w ⟨rfl, H⟩
            have hbe : (img A.sec A.n.toNat == img B.sec B.n.toNat) = true := by rw [HT.out.img_eq]; exact beq_self_eq_true _
            rw [hbe]
            clear hX hY hbe hn1 hn2 hm1 hm2
            go_wp2_with fail
            go_roundw
            case rel => exact ⟨k + 1, by omega, by go_num, A, B, HT, H.sel 5 [3, 1, 4]⟩
            case measure => simp [intOf]; omega
          · go_wp2_with fail
            refine (Dk.start (H.sel 2 [1])).mono ?_
            rintro e w ⟨rfl, H⟩
            go_wp2_with fail
            refine (Dk.start (H.sel 2 [1, 0])).mono ?_
            rintro e w ⟨rfl, H⟩
            replace HT := Lib.hid HT.out.st
            replace H : At W (DiskAt da { A with pw := some none } :: DiskAt db { B with pw := some none } :: Arg W :: []) w := H.sel 2 [1, 0]
            generalize ({ A with pw := some none } : DS) = A at *
            generalize ({ B with pw := some none } : DS) = B at *
            go_wp2_with fail
            refine (fallen H).mono ?_
            rintro e w ⟨rfl, H⟩
            go_wp2_with fail
            refine (fallen (H.sel 2 [1, 0])).mono ?_
            rintro e w ⟨rfl, H⟩
            rw [← HT.out.pw]
            go_wp2_with fail
            have hn1 : (1 : Int) ≤ A.n := by have := HT.out.nA; omega
            have hn2 : A.n ≤ 65536 := by have := HT.out.nA; omega
            have hm1 : (1 : Int) ≤ B.n := by have := HT.out.nB; omega
            have hm2 : B.n ≤ 65536 := by have := HT.out.nB; omega
            refine (image hn1 hn2 HT.out.lA (H.sel 2 [1, 0])).mono ?_
            rintro e w ⟨x, rfl, H⟩
            go_wp2_with fail
            refine (image hm1 hm2 HT.out.lB (H.sel 3 [2, 0, 1])).mono ?_
            rintro e w ⟨y, rfl, H⟩
            have hX : ∀ v, Reads (OwnRow 5 1 v (A.n.toNat * 512) (bv (img A.sec A.n.toNat))) v (img A.sec A.n.toNat) := fun v => reads_own_n (len_img HT.out.lA _)
            have hY : ∀ v, Reads (OwnRow 5 1 v (B.n.toNat * 512) (bv (img B.sec B.n.toNat))) v (img B.sec B.n.toNat) := fun v => reads_own_n (len_img HT.out.lB _)
            go_wp2_with fail
            refine (same H ((hX x).at_ H 2 rfl) ((hY y).at_ H 0 rfl)).mono ?_
            rintro e w ⟨rfl, H⟩
            have hbe : (img A.sec A.n.toNat == img B.sec B.n.toNat) = true := by rw [HT.out.img_eq]; exact beq_self_eq_true _
            rw [hbe]
            clear hX hY hbe hn1 hn2 hm1 hm2
            go_wp2_with fail
            go_roundw
            case rel => exact ⟨k + 1, by omega, by go_num, A, B, HT, H.sel 5 [3, 1, 4]⟩
            case measure => simp [intOf]; omega
          ·
            go_wp2_with (first | (refine st_load rfl _ _ rfl _ _ rfl ?_ H 0 rfl rfl ?_; (kernel_rfl); (intro K hK; go_simp)))
            refine (Lw.read sn (HT.out.lA sn) (H.sel 4 [1, 0, 2, 3])).mono ?_
            rintro e w ⟨v1, B1, rfl, hB1, H⟩
            replace H : At W (Blk gs (.cells #[.int .i64 sk, .int .i64 sn, .int .i64 sm, .slice sa sd.length dc] 35 (0, 0)) :: B1 :: DiskAt da (readD A sn) :: DiskAt db B :: Arg W :: []) w := H.sel 4 [2, 0, 1, 3]
            go_wp2_with (first | (refine st_load rfl _ _ rfl _ _ rfl ?_ H 0 rfl rfl ?_; (kernel_rfl); (intro K hK; go_simp)))
            refine (Lw.read sn (HT.out.lB sn) (H.sel 4 [3, 1, 2])).mono ?_
            rintro e w ⟨v2, B2, rfl, hB2, H⟩
            have hg := HT.out.got_eq sn
            have hm := HT.out.may sn
            rw [← hm] at hB2 ⊢
            rw [← hg] at hB2
            replace HT : Hid (Tw (readD A sn) (readD B sn)) := Lib.hid (HT.out.rd sn)
            have H : At W (B2 :: DiskAt db (readD B sn) :: B1 :: DiskAt da (readD A sn) :: Arg W :: []) w := H
            generalize got (mayE A sn) (A.sec sn) = G at *
            generalize mayE A sn = E2 at *
            clear hg hm
            generalize readD A sn = A at *
            generalize readD B sn = B at *
            go_wp2_with fail
            refine (same H (hB1.at_ H 2 rfl) (hB2.at_ H 0 rfl)).mono ?_
            rintro e w ⟨rfl, H⟩
            rw [beq_self_eq_true]
            go_wp2_with fail
            replace H : At W (DiskAt da A :: DiskAt db B :: Arg W :: []) w := H.sel 5 [3, 1, 4]
            refine (fallen H).mono ?_
            rintro e w ⟨rfl, H⟩
            go_wp2_with fail
            refine (fallen (H.sel 2 [1, 0])).mono ?_
            rintro e w ⟨rfl, H⟩
            rw [← HT.out.pw]
            go_wp2_with fail
            have hn1 : (1 : Int) ≤ A.n := by have := HT.out.nA; omega
            have hn2 : A.n ≤ 65536 := by have := HT.out.nA; omega
            have hm1 : (1 : Int) ≤ B.n := by have := HT.out.nB; omega
            have hm2 : B.n ≤ 65536 := by have := HT.out.nB; omega
            refine (image hn1 hn2 HT.out.lA (H.sel 2 [1, 0])).mono ?_
            rintro e w ⟨x, rfl, H⟩
            go_wp2_with fail
            refine (image hm1 hm2 HT.out.lB (H.sel 3 [2, 0, 1])).mono ?_
            rintro e w ⟨y, rfl, H⟩
            have hX : ∀ v, Reads (OwnRow 5 1 v (A.n.toNat * 512) (bv (img A.sec A.n.toNat))) v (img A.sec A.n.toNat) := fun v => reads_own_n (len_img HT.out.lA _)
            have hY : ∀ v, Reads (OwnRow 5 1 v (B.n.toNat * 512) (bv (img B.sec B.n.toNat))) v (img B.sec B.n.toNat) := fun v => reads_own_n (len_img HT.out.lB _)
            go_wp2_with fail
            refine (same H ((hX x).at_ H 2 rfl) ((hY y).at_ H 0 rfl)).mono ?_
            rintro e w ⟨rfl, H⟩
            have hbe : (img A.sec A.n.toNat == img B.sec B.n.toNat) = true := by rw [HT.out.img_eq]; exact beq_self_eq_true _
            rw [hbe]
            clear hX hY hbe hn1 hn2 hm1 hm2
            go_wp2_with fail
            go_roundw
            case rel => exact ⟨k + 1, by omega, by go_num, A, B, HT, H.sel 5 [3, 1, 4]⟩
            case measure => simp [intOf]; omega
          ·
            go_wp2_with (first | (refine st_load rfl _ _ rfl _ _ rfl ?_ H 0 rfl rfl ?_; (kernel_rfl); (intro K hK; go_simp)))
            refine (Lw.read sn (HT.out.lA sn) (H.sel 4 [1, 0, 2, 3])).mono ?_
            rintro e w ⟨v1, B1, rfl, hB1, H⟩
            replace H : At W (Blk gs (.cells #[.int .i64 sk, .int .i64 sn, .int .i64 sm, .slice sa sd.length dc] 35 (0, 0)) :: B1 :: DiskAt da (readD A sn) :: DiskAt db B :: Arg W :: []) w := H.sel 4 [2, 0, 1, 3]
            go_wp2_with (first | (refine st_load rfl _ _ rfl _ _ rfl ?_ H 0 rfl rfl ?_; (kernel_rfl); (intro K hK; go_simp)))
            refine (Lw.read sn (HT.out.lB sn) (H.sel 4 [3, 1, 2])).mono ?_
            rintro e w ⟨v2, B2, rfl, hB2, H⟩
            have hg := HT.out.got_eq sn
            have hm := HT.out.may sn
            rw [← hm] at hB2 ⊢
            rw [← hg] at hB2
            replace HT : Hid (Tw (readD A sn) (readD B sn)) := Lib.hid (HT.out.rd sn)
            have H : At W (B2 :: DiskAt db (readD B sn) :: B1 :: DiskAt da (readD A sn) :: Arg W :: []) w := H
            generalize got (mayE A sn) (A.sec sn) = G at *
            generalize mayE A sn = E2 at *
            clear hg hm
            generalize readD A sn = A at *
            generalize readD B sn = B at *
            go_wp2_with fail
            refine (same H (hB1.at_ H 2 rfl) (hB2.at_ H 0 rfl)).mono ?_
            rintro e w ⟨rfl, H⟩
            rw [beq_self_eq_true]
            go_wp2_with fail
            replace H : At W (DiskAt da A :: DiskAt db B :: Arg W :: []) w := H.sel 5 [3, 1, 4]
            refine (fallen H).mono ?_
            rintro e w ⟨rfl, H⟩
            go_wp2_with fail
            refine (fallen (H.sel 2 [1, 0])).mono ?_
            rintro e w ⟨rfl, H⟩
            rw [← HT.out.pw]
            go_wp2_with fail
            have hn1 : (1 : Int) ≤ A.n := by have := HT.out.nA; omega
            have hn2 : A.n ≤ 65536 := by have := HT.out.nA; omega
            have hm1 : (1 : Int) ≤ B.n := by have := HT.out.nB; omega
            have hm2 : B.n ≤ 65536 := by have := HT.out.nB; omega
            refine (image hn1 hn2 HT.out.lA (H.sel 2 [1, 0])).mono ?_
            rintro e w ⟨x, rfl, H⟩
            go_wp2_with fail
            refine (image hm1 hm2 HT.out.lB (H.sel 3 [2, 0, 1])).mono ?_
            rintro e w ⟨y, rfl, H⟩
            have hX : ∀ v, Reads (OwnRow 5 1 v (A.n.toNat * 512) (bv (img A.sec A.n.toNat))) v (img A.sec A.n.toNat) := fun v => reads_own_n (len_img HT.out.lA _)
            have hY : ∀ v, Reads (OwnRow 5 1 v (B.n.toNat * 512) (bv (img B.sec B.n.toNat))) v (img B.sec B.n.toNat) := fun v => reads_own_n (len_img HT.out.lB _)
            go_wp2_with fail
            refine (same H ((hX x).at_ H 2 rfl) ((hY y).at_ H 0 rfl)).mono ?_
            rintro e w ⟨rfl, H⟩
            have hbe : (img A.sec A.n.toNat == img B.sec B.n.toNat) = true := by rw [HT.out.img_eq]; exact beq_self_eq_true _
            rw [hbe]
            clear hX hY hbe hn1 hn2 hm1 hm2
            go_wp2_with fail
            go_roundw
            case rel => exact ⟨k + 1, by omega, by go_num, A, B, HT, H.sel 5 [3, 1, 4]⟩
            case measure => simp [intOf]; omega
          ·
            go_wp2_with (first | (refine st_load rfl _ _ rfl _ _ rfl ?_ H 0 rfl rfl ?_; (kernel_rfl); (intro K hK; go_simp)))
            refine (Lw.read sn (HT.out.lA sn) (H.sel 4 [1, 0, 2, 3])).mono ?_
            rintro e w ⟨v1, B1, rfl, hB1, H⟩
            replace H : At W (Blk gs (.cells #[.int .i64 sk, .int .i64 sn, .int .i64 sm, .slice sa sd.length dc] 35 (0, 0)) :: B1 :: DiskAt da (readD A sn) :: DiskAt db B :: Arg W :: []) w := H.sel 4 [2, 0, 1, 3]
            go_wp2_with (first | (refine st_load rfl _ _ rfl _ _ rfl ?_ H 0 rfl rfl ?_; (kernel_rfl); (intro K hK; go_simp)))
            refine (Lw.read sn (HT.out.lB sn) (H.sel 4 [3, 1, 2])).mono ?_
            rintro e w ⟨v2, B2, rfl, hB2, H⟩
            have hg := HT.out.got_eq sn
            have hm := HT.out.may sn
            rw [← hm] at hB2 ⊢
            rw [← hg] at hB2
            replace HT : Hid (Tw (readD A sn) (readD B sn)) := Lib.hid (HT.out.rd sn)
            have H : At W (B2 :: DiskAt db (readD B sn) :: B1 :: DiskAt da (readD A sn) :: Arg W :: []) w := H
            generalize got (mayE A sn) (A.sec sn) = G at *
            generalize mayE A sn = E2 at *
            clear hg hm
            generalize readD A sn = A at *
            generalize readD B sn = B at *
            go_wp2_with fail
            refine (same H (hB1.at_ H 2 rfl) (hB2.at_ H 0 rfl)).mono ?_
            rintro e w ⟨rfl, H⟩
            rw [beq_self_eq_true]
            go_wp2_with fail
            replace H : At W (DiskAt da A :: DiskAt db B :: Arg W :: []) w := H.sel 5 [3, 1, 4]
            refine (fallen H).mono ?_
            rintro e w ⟨rfl, H⟩
            go_wp2_with fail
            refine (fallen (H.sel 2 [1, 0])).mono ?_
            rintro e w ⟨rfl, H⟩
            rw [← HT.out.pw]
            go_wp2_with fail
            have hn1 : (1 : Int) ≤ A.n := by have := HT.out.nA; omega
            have hn2 : A.n ≤ 65536 := by have := HT.out.nA; omega
            have hm1 : (1 : Int) ≤ B.n := by have := HT.out.nB; omega
            have hm2 : B.n ≤ 65536 := by have := HT.out.nB; omega
            refine (image hn1 hn2 HT.out.lA (H.sel 2 [1, 0])).mono ?_
            rintro e w ⟨x, rfl, H⟩
            go_wp2_with fail
            refine (image hm1 hm2 HT.out.lB (H.sel 3 [2, 0, 1])).mono ?_
            rintro e w ⟨y, rfl, H⟩
            have hX : ∀ v, Reads (OwnRow 5 1 v (A.n.toNat * 512) (bv (img A.sec A.n.toNat))) v (img A.sec A.n.toNat) := fun v => reads_own_n (len_img HT.out.lA _)
            have hY : ∀ v, Reads (OwnRow 5 1 v (B.n.toNat * 512) (bv (img B.sec B.n.toNat))) v (img B.sec B.n.toNat) := fun v => reads_own_n (len_img HT.out.lB _)
            go_wp2_with fail
            refine (same H ((hX x).at_ H 2 rfl) ((hY y).at_ H 0 rfl)).mono ?_
            rintro e w ⟨rfl, H⟩
            have hbe : (img A.sec A.n.toNat == img B.sec B.n.toNat) = true := by rw [HT.out.img_eq]; exact beq_self_eq_true _
            rw [hbe]
            clear hX hY hbe hn1 hn2 hm1 hm2
            go_wp2_with fail
            go_roundw
            case rel => exact ⟨k + 1, by omega, by go_num, A, B, HT, H.sel 5 [3, 1, 4]⟩
            case measure => simp [intOf]; omega
        · have g1 : ¬ (k : Int) < m.length := by omega
          go_wp2_with fail
          go_ret
          exact ⟨rfl, H.below 2 rfl⟩
end

theorem own : ownKnob Try.prog.godebug = none := by kernel_rfl

theorem lifted (os : Os) (started : os.Started) (H : Type) (enc : TypeId × Value → H) :
    ReturnsInHanded {} Try.checked os 9 .any (Rows.diskSameSpec.pre6 enc Try.prog Try.f9 Rows.diskSameRow.domain false) (Rows.diskSameSpec.post enc Try.prog Try.f9 false true false false) := by
  refine frame_true (C := Try.checked) started own (by kernel_rfl) Try.func9
    (ChangeSpec.witness6 (enc := enc) (C := Try.checked) false ⟨#[], #[.slice none 0 0, .slice none 0 0], []⟩ 8 (by kernel_rfl) (by kernel_rfl) (by kernel_rfl) (by kernel_rfl)) rfl ?_ (by kernel_rfl) (by kernel_rfl) (by kernel_rfl) Try.underlying4 ?_
  · intro ds hds
    match ds, hds with
    | [_, _], _ => rfl
  · rintro W args ds p ⟨base, hval⟩ hA hwt
    have hp : Try.f9.params.toList = [25, 25] := by rw [Try.params9]
    rw [hp] at hA hwt
    obtain ⟨v0, r0, d0, e0, p0, q0, ha, rfl, rfl, h0, hA⟩ := trodAll_cons hA
    obtain ⟨v1, r1, d1, e1, p1, q1, rfl, rfl, rfl, h1, hA⟩ := trodAll_cons hA
    obtain ⟨rfl, rfl, rfl⟩ := trodAll_nil hA
    have ha2 : args = #[v0, v1] := by cases args; simp_all
    subst ha2
    simp only [DataW.weightsEach, List.all_append, Bool.and_eq_true] at hwt
    obtain ⟨a0, b0⟩ := Lw.arg_Steps (hval 0 _ _ (by rw [Try.params9]; rfl) rfl) h0 hwt.1
    obtain ⟨a1, b1⟩ := Lw.arg_Steps (hval 1 _ _ (by rw [Try.params9]; rfl) rfl) h1 hwt.2.1
    exact walk b0 b1

theorem over : Rows.diskSameRow.holds Try.pinned (OpenSpec.ofChange Rows.diskSameSpec) :=
  OpenClaim.holds_of_wide 9 Try.f9 rfl rfl rfl rfl rfl rfl rfl ⟨rfl, rfl, rfl, rfl, rfl⟩ rfl rfl rfl rfl rfl (by kernel_rfl) Try.func9 (by kernel_rfl)
    (of_decide_eq_true (by kernel_rfl)) (by unfold Func.isWrapper; first | (rw [if_pos (by decide +kernel)]; kernel_rfl) | (rw [if_neg (by decide +kernel)]; exact ⟨rfl, rfl⟩))
    (fun os started H enc _ => lifted os started H enc)

theorem proved : Rows.DiskSameSaid := over
#print axioms proved
end diskSame
end Go.Proofs.Ytbbkfneafonmiaa
