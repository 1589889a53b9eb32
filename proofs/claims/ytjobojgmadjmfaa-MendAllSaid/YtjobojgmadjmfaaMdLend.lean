/-
  The statements' own functions: bytes.
-/
import Derived.Test.YtjobojgmadjmfaaMdTake
namespace Go.Proofs.Ytjobojgmadjmfaa
open Go.Hp Go.RowKit
set_option linter.unusedVariables false
set_option linter.unusedSimpArgs false
set_option maxRecDepth 100000
set_option maxHeartbeats 2000000
namespace Md

/-- A row that is written from a place on with one value. -/
def runV (A : List Value) (v z : Value) (k m : Nat) : List Value := A ++ (List.replicate k v ++ List.replicate (m - k) z)
theorem runV_zero (A : List Value) (v z : Value) (m : Nat) : runV A v z 0 m = A ++ List.replicate m z := by simp [runV]
theorem runV_all (A : List Value) (v z : Value) (m : Nat) : runV A v z m m = A ++ List.replicate m v := by simp [runV]
theorem len_runV {A : List Value} {v z : Value} {k m : Nat} (h : k ≤ m) : (runV A v z k m).length = A.length + m := by simp [runV]; omega
theorem runV_set {A : List Value} {v z : Value} {k m : Nat} (h : k < m) : (runV A v z k m).set (A.length + k) v = runV A v z (k + 1) m := by
  unfold runV
  have hn : m - k = (m - (k + 1)) + 1 := by omega
  rw [List.set_append_right _ _ (by omega), List.set_append_right _ _ (by simp)]
  simp only [List.length_replicate, Nat.add_sub_cancel_left, Nat.sub_self]
  rw [hn, List.replicate_succ, List.set_cons_zero, List.replicate_succ', List.append_assoc]
  rfl

theorem run_row_string {P : Program} {w : World} {v : Value} {l : List UInt8} (h : RowAt w v l.length (bv l)) (src dst e : TypeId) (hs : P.underlying src = some (.slice e)) (he : P.underlying e = some (.int .u8)) (hd : P.underlying dst = some .string) :
    (convert src dst v).run P w = .ok (.string ⟨l.toArray⟩) w := by
  obtain ⟨ad, cap, rfl, h1, h2, h3, h4⟩ := h
  cases ad with
  | none =>
    have h0 : l = [] := by
      cases l with
      | nil => rfl
      | cons a l => obtain ⟨b, hb⟩ := h3 (by simp); cases hb
    subst h0
    rw [run_convert_bytes_string w src dst e _ _ _ hs he hd]
    rfl
  | some b => exact run_bytes_string (.inr ⟨b, cap, rfl, h1, h2, h4 b rfl⟩) src dst e hs he hd

/-- What lies behind lent bytes. -/
def lentB (l : List UInt8) : Array Value := (bv l ++ List.replicate 67 (Value.int .u8 201)).toArray

section
variable {w0 w : World} {L : List HProp}

theorem sameB {va vb : Value} {a b : List UInt8} (ha : RowAt w va a.length (bv a)) (hb : RowAt w vb b.length (bv b)) (H : At w0 L w) : Calls Try.prog 31 #[va, vb] w (Ret w0 (.bool (a == b)) L) := by
  have c1 := run_row_string (P := Try.prog) ha 28 9 5 Try.underlying28 Try.underlying5 Try.underlying9
  have c2 := run_row_string (P := Try.prog) hb 28 9 5 Try.underlying28 Try.underlying5 Try.underlying9
  clear ha hb
  go_enter Try.func31, Try.ntmps31
  go_wp2_with fail
  go_ret
  exact ⟨rfl, H⟩

theorem lent_row {l : List UInt8} {g : Nat} {t : TypeId} {fr : Nat × Nat} (hl : l.length ≤ 140737488355328) (H : At w0 (Blk g (.cells (lentB l) t fr) :: L) w) : RowAt w (.slice (some ⟨g, 0, none⟩) l.length (l.length + 67)) l.length (bv l) := by
  refine ⟨_, _, rfl, by omega, by simp only [maxLen]; omega, fun _ => ⟨_, rfl⟩, fun b hb j u hj => ?_⟩
  cases hb
  rw [Addr.add_lit, Nat.zero_add, cell_of_row w g j _ t fr H.get0]
  have hjl := (List.getElem?_eq_some_iff.1 hj).1
  unfold lentB
  rw [List.getElem?_toArray, List.getElem?_append_left hjl]
  exact hj

theorem lendB {va : Value} {l : List UInt8} (hv : RowAt w va l.length (bv l)) (hl : l.length ≤ 140737488355328) (H : At w0 L w) : Calls Try.prog 32 #[va] w
    (RetEx w0 (fun g => .slice (some ⟨g, 0, none⟩) l.length (l.length + 67)) (fun g => Blk g (.cells (lentB l) 5 (0, 0)) :: L)) := by
  obtain ⟨W, rfl⟩ : ∃ W : World, W = w := ⟨_, rfl⟩
  have HF := At.of W
  have H0 := Lib.hid H
  obtain ⟨ad, cap, rfl, c1, c2, c3, c4⟩ := hv
  have C3 := Lib.hid c3
  have C4 := Lib.hid c4
  clear H c3 c4
  have hn : ((l.length : Int) + 67).toNat = l.length + 67 := by omega
  unfold lentB
  go_enter Try.func32, Try.ntmps32
  go_wp2_with (first | ((with_reducible refine k_make ?_); refine st_make rfl _ _ _ rfl _ _ _ _ rfl rfl 5 Try.underlying28 1 ?_ 1 ?_ (.int .u8 0) ?_ ?_ ?_ ?_ ?_ HF ?_; (kernel_rfl); (kernel_rfl); (kernel_rfl); (omega); (omega); (omega); (omega);        (clear HF; intro g w HF K hK; replace HF : At W (Blk g (.cells (List.replicate (l.length + 67) (Value.int .u8 0)).toArray 5 (0, 0)) :: Arg W :: []) w := (by rw [← madeCells_one]; have e : ((l.length : Int) + 67).toNat * 1 = l.length + 67 := (by omega); rw [e] at HF; exact HF); go_simp))      | ((with_reducible refine k_builtin ?_); refine st_copy rfl _ _ _ _ rfl 5 Try.underlying28 ?_ g 0 (l.length + 67) (l.length + 67) l.length cap ad rfl rfl (bv l) ?_ ?_ (bv_one _) HF 0 rfl ?_ ?_; (kernel_rfl); (rw [length_bv]; show _ = min l.length (l.length + 67); omega);          (intro hp; obtain ⟨bb, hbb⟩ := C3.out (by rw [length_bv] at hp; exact hp); exact ⟨bb, hbb, fun j u hj => (HF.ext 1 rfl).cell (C4.out bb hbb j u hj)⟩);          (rw [length_bv, List.length_replicate]; omega); (clear HF; intro w HF K hK; simp only [List.set_cons_zero] at HF; go_simp)))
  have e0 : splice (List.replicate (l.length + 67) (.int .u8 0)) 0 (bv l) = runV (bv l) (.int .u8 201) (.int .u8 0) 0 67 := by
    rw [runV_zero]
    unfold splice
    rw [List.take_zero, List.nil_append, Nat.zero_add, List.drop_replicate, length_bv, Nat.add_sub_cancel_left]
  rw [e0] at HF
  clear e0
  go_loopw [4] (fun i wr => ∃ k : Nat, k ≤ 67 ∧ i = .int .i64 (l.length + k) ∧ At W (Blk g (.cells (runV (bv l) (.int .u8 201) (.int .u8 0) k 67).toArray 5 (0, 0)) :: Arg W :: []) wr) (fun i _ => l.length + 67 - (intOf i).toNat)
  case atStart => exact ⟨0, Nat.zero_le _, by simp, HF⟩
  case round =>
    clear HF
    obtain ⟨k, hk, rfl, HF⟩ := hrel
    by_cases hlt : k < 67
    · have hset := runV_set (A := bv l) (v := .int .u8 201) (z := .int .u8 0) hlt
      have hlen := len_runV (A := bv l) (v := .int .u8 201) (z := .int .u8 0) hk
      rw [length_bv] at hset hlen
      have hoff : ((l.length : Int) + k).toNat = l.length + k := by omega
      have Hset := Lib.hid hset
      have Hlen := Lib.hid hlen
      clear hset hlen
      have hlt2 : (k : Int) < 67 := by omega
      go_wp2_with (first | ((with_reducible refine k_store ?_); refine st_store rfl _ _ _ rfl _ _ rfl _ rfl rfl ?_ HF 0 rfl ?_ ?_; (kernel_rfl); (simp only [List.size_toArray]; rw [Hlen.out]; omega); (clear HF; intro w HF K hK; simp only [List.set_cons_zero, List.set_cons_succ, List.setIfInBounds_toArray, Act.eval, Value.cells, Array.getD_eq_getD_getElem?, List.getElem?_toArray, List.getElem?_cons_succ, List.getElem?_cons_zero, Option.getD_some] at HF; rw [Hset.out] at HF; go_simp)))
      go_roundw
      case rel => exact ⟨k + 1, by omega, by rw [Int.natCast_add, Int.add_assoc]; rfl, HF⟩
      case measure => simp [intOf]; omega
    · have hk2 : k = 67 := by omega
      subst hk2
      rw [runV_all] at HF
      go_wp2_with fail
      go_ret
      exact ⟨g, rfl, HF.lift1 H0.out⟩

theorem backB {vb : Value} {l : List UInt8} {g : Nat} {t : TypeId} (hv : RowAt w vb l.length (bv l)) (hl : l.length ≤ 140737488355328) (H : At w0 (Blk g (.cells (lentB l) t (0, 0)) :: L) w) : Calls Try.prog 37 #[.slice (some ⟨g, 0, none⟩) l.length (l.length + 67), vb] w
    (Ret w0 (.bool true) (Blk g (.cells (lentB l) t (0, 0)) :: L)) := by
  have hr := lent_row hl H
  have hcell : ∀ k : Nat, k < 67 → (lentB l)[l.length + k]? = some (.int .u8 201) := by
    intro k hk
    unfold lentB
    rw [List.getElem?_toArray, List.getElem?_append_right (by rw [length_bv]; omega), length_bv, Nat.add_sub_cancel_left, List.getElem?_replicate, if_pos hk]
  have Hc := Lib.hid hcell
  have Hr := Lib.hid hr
  have Hv := Lib.hid hv
  clear hcell hr
  obtain ⟨ad, cap, rfl, c1, c2, c3, c4⟩ := hv
  clear c3 c4
  have ht : ((l.length : Int) + 67).toNat = l.length + 67 := by omega
  go_enter Try.func37, Try.ntmps37
  go_wp2_with fail
  refine (sameB Hr.out Hv.out H).mono ?_
  rintro e w1 ⟨rfl, H1⟩
  clear H Hr Hv
  have H := H1
  clear H1
  have hbb : (l == l) = true := by simp
  go_wp2_with fail
  go_loopw [6] (fun i wr => ∃ k : Nat, k ≤ 67 ∧ i = .int .i64 (l.length + k) ∧ At w0 (Blk g (.cells (lentB l) t (0, 0)) :: L) wr) (fun i _ => l.length + 67 - (intOf i).toNat)
  case atStart => exact ⟨0, Nat.zero_le _, by simp, H⟩
  case round =>
    clear H
    obtain ⟨k, hk, rfl, H⟩ := hrel
    by_cases hlt : k < 67
    · have hoff : ((l.length : Int) + k).toNat = l.length + k := by omega
      have hlt2 : (k : Int) < 67 := by omega
      have hck := Hc.out k hlt
      go_wp2_with (first | ((with_reducible refine k_load ?_); refine st_load rfl _ _ rfl g (l.length + k) rfl ?_ H 0 rfl hck ?_; (kernel_rfl); (intro K hK; go_simp)))
      go_roundw
      case rel => exact ⟨k + 1, by omega, by rw [Int.natCast_add, Int.add_assoc]; rfl, H⟩
      case measure => simp [intOf]; omega
    · have hk2 : k = 67 := by omega
      subst hk2
      go_wp2_with fail
      go_ret
      exact ⟨rfl, H⟩
end
end Md
end Go.Proofs.Ytjobojgmadjmfaa
