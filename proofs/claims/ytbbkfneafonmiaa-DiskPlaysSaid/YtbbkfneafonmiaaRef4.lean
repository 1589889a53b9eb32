/-
  The reference's disk: Image, Load.
-/
import Derived.Test.YtbbkfneafonmiaaRef3
import Derived.Test.YtbbkfneafonmiaaDisk3
namespace Go.Proofs.Ytbbkfneafonmiaa
open Go.Hp Go.RowKit
set_option linter.unusedVariables false
set_option linter.unusedSimpArgs false
namespace Rf

/-- A row of bytes that is filled up to somewhere, zeros behind. -/
def fillA (A : List UInt8) (m : Nat) : List Value := bv A ++ List.replicate (m - A.length) (.int .u8 0)
theorem fillA_nil (m : Nat) : fillA [] m = List.replicate m (.int .u8 0) := by simp [fillA, bv]
theorem fillA_all {A : List UInt8} {m : Nat} (h : A.length = m) : fillA A m = bv A := by simp [fillA, h]
theorem len_fillA {A : List UInt8} {m : Nat} (h : A.length ≤ m) : (fillA A m).length = m := by simp [fillA]; omega
theorem fillA_set {A : List UInt8} {m : Nat} (b : UInt8) (h : A.length < m) : (fillA A m).set A.length (.int .u8 b.toNat) = fillA (A ++ [b]) m := by
  have hk : (bv A).length = A.length := length_bv A
  unfold fillA
  rw [List.set_append_right _ _ (by omega), hk, Nat.sub_self]
  have hn : m - A.length = (m - (A ++ [b]).length) + 1 := by simp; omega
  rw [hn, List.replicate_succ, List.set_cons_zero, bv_append, List.append_assoc]
  rfl
theorem fillA_zer {A : List UInt8} {m : Nat} (h : A.length + 512 ≤ m) : fillA A m = fillA (A ++ Dk.zer) m := by
  have hz : bv Dk.zer = List.replicate 512 (Value.int .u8 0) := by unfold Dk.zer bv; rw [List.map_replicate]; rfl
  unfold fillA
  rw [bv_append, hz, List.append_assoc, List.replicate_append_replicate, List.length_append, Dk.len_zer]
  have hm : m - A.length = 512 + (m - (A.length + 512)) := by omega
  rw [← hm]

section
variable {w0 w : World} {L : List HProp} {r : Nat} {R : RS}

set_option maxHeartbeats 1000000 in
theorem rimage (ok : RefOk R) (H : At w0 (RefAt r R :: L) w) : Calls Try.prog 39 #[.pointer (some ⟨r, 0, none⟩)] w
    (RetEx w0 (fun g => .slice (some ⟨g, 0, none⟩) (R.n * 512) (R.n * 512)) (fun g => Blk g (.cells (bv (Dk.img R.sec R.n)).toArray 5 (0, 0)) :: RefAt r R :: L)) := by
  have hN := ok.n
  have hN2 : (R.n : Int) ≤ 65536 := by omega
  have hcap : (512 * (R.n : Int)).toNat = R.n * 512 := by omega
  have Hs := Lib.hid ok.len
  obtain ⟨sg, vals, he, H⟩ := open_ref H
  have He := Lib.hid he
  clear he ok
  go_enter Try.func39, Try.ntmps39
  go_wp2_with (first | (refine st_load rfl _ _ rfl _ _ rfl ?_ H 0 rfl rfl ?_; (kernel_rfl); (intro K hK; go_simp)) | (refine st_make rfl _ _ _ rfl _ _ _ _ rfl rfl 5 Try.underlying33 1 ?_ 1 ?_ (.int .u8 0) ?_ ?_ ?_ ?_ ?_ H ?_; (kernel_rfl); (kernel_rfl); (kernel_rfl); (omega); (omega); (omega); (omega); (clear H; intro g w H K hK; go_simp)))
  have e0 : madeCells (Value.int .u8 0).cells ((512 * (R.n : Int)).toNat * 1) = (fillA [] (R.n * 512)).toArray := by
    rw [fillA_nil, hcap, Nat.mul_one]; exact madeCells_one _ _
  rw [e0] at H
  clear e0
  have H2 : At w0 (RefAt r R :: Blk g (.cells (fillA [] (R.n * 512)).toArray 5 (0, 0)) :: L) w := shut_ref He.out (H.sel 4 [1, 2, 3, 0])
  clear H hcap
  go_loopw [4] (fun i wr => ∃ k : Nat, k ≤ R.n ∧ i = .int .i64 k ∧ At w0 (RefAt r R :: Blk g (.cells (fillA (Dk.img R.sec k) (R.n * 512)).toArray 5 (0, 0)) :: L) wr) (fun i _ => R.n - (intOf i).toNat)
  case atStart => exact ⟨0, Nat.zero_le _, rfl, H2⟩
  case round =>
    clear H2 He
    obtain ⟨sg0, rfl⟩ : ∃ sg0, sg0 = sg := ⟨_, rfl⟩
    clear vals
    obtain ⟨k, hk, rfl, H⟩ := hrel
    by_cases hlt : k < R.n
    · obtain ⟨sg, vals, he, H⟩ := open_ref H
      obtain ⟨v, hv⟩ : ∃ v, vals[k]? = some v := by
        have : k < vals.length := by omega
        exact ⟨vals[k], by simp [this]⟩
      have hva : vals.toArray[k]? = some v := by simpa using hv
      have He := Lib.hid he
      clear he
      have hlt2 : (k : Int) < R.n := by omega
      have Hil := Lib.hid (Dk.len_img Hs.out k)
      rcases elem_cases (H.pick 2 rfl) hv with ⟨rfl, hz⟩ | ⟨hl, g0, rfl⟩
      · have Hz := Lib.hid hz
        clear hz
        go_wp2_with (first | (refine st_load rfl _ _ rfl _ _ rfl ?_ H 0 rfl rfl ?_; (kernel_rfl); (intro K hK; go_simp)) | (refine st_load rfl _ _ rfl _ _ rfl ?_ H 1 rfl hva ?_; (kernel_rfl); (intro K hK; go_simp)))
        go_loop [6] (fun j => j = .int .i64 0) (fun _ => 0)
        case atStart => rfl
        case round =>
          obtain rfl := hrel
          go_wp2_with fail
          go_roundw
          case rel =>
            refine ⟨k + 1, by omega, by go_num, ?_⟩
            have e : Dk.img R.sec (k + 1) = Dk.img R.sec k ++ Dk.zer := by rw [Dk.img, Hz.out]
            rw [e, ← fillA_zer (by have := Hil.out; omega)]
            exact shut_ref He.out H
          case measure => simp [intOf]; omega
      · have Hl := Lib.hid hl
        have Hr := elem_reads (sec := R.sec) hv
        clear hl
        go_wp2_with (first | (refine st_load rfl _ _ rfl _ _ rfl ?_ H 0 rfl rfl ?_; (kernel_rfl); (intro K hK; go_simp)) | (refine st_load rfl _ _ rfl _ _ rfl ?_ H 1 rfl hva ?_; (kernel_rfl); (intro K hK; go_simp)))
        obtain ⟨wo, rfl⟩ : ∃ wo : World, wo = wr := ⟨_, rfl⟩
        go_loopw [6] (fun j ww => ∃ m : Nat, m ≤ 512 ∧ j = .int .i64 m ∧ At w0 (Blk r (.cells #[.slice (some ⟨sg, 0, none⟩) R.n R.n, .bool R.armed, .bool R.fallen, .int .i64 R.left, .int .i64 R.torn, .int .i64 R.reads, .int .i64 R.writes] 59 (0, 0)) ::
          Blk sg (.cells vals.toArray 33 (0, 0)) :: Elems vals R.sec :: Blk g (.cells (fillA (Dk.img R.sec k ++ (R.sec k).take m) (R.n * 512)).toArray 5 (0, 0)) :: L) ww) (fun j _ => 512 - (intOf j).toNat)
        case atStart => exact ⟨0, Nat.zero_le _, rfl, by simpa using H⟩
        case round =>
          clear H
          obtain ⟨m, hm, rfl, H⟩ := hrel
          by_cases hlm : m < 512
          · have hl := Hl.out
            have hml : m < (R.sec k).length := by omega
            have hAl : (Dk.img R.sec k ++ (R.sec k).take m).length = k * 512 + m := by
              have := Hil.out
              simp only [List.length_append, List.length_take]; omega
            have hoff : ((k : Int) * 512 + m).toNat = k * 512 + m := by omega
            have hb1 : (k : Int) * 512 + m < ((R.n * 512 : Nat) : Int) := by omega
            have hset := fillA_set (m := R.n * 512) (R.sec k)[m] (A := Dk.img R.sec k ++ (R.sec k).take m) (by omega)
            rw [hAl, List.append_assoc, ← List.take_succ_eq_append_getElem hml] at hset
            have hflen := len_fillA (m := R.n * 512) (A := Dk.img R.sec k ++ (R.sec k).take m) (by omega)
            have Hset := Lib.hid hset
            have Hfl := Lib.hid hflen
            have hck := (Hr.at_ H 2 rfl).cells m _ (bv_get (R.sec k) m hml)
            rw [Addr.add_lit, Nat.zero_add] at hck
            have hlm2 : (m : Int) < 512 := by omega
            clear hl hAl hset hflen
            go_wp2_with (first | (refine st_load1 rfl _ _ rfl _ rfl ?_ hck ?_; (kernel_rfl); (intro K hK; go_simp)) | (refine st_store rfl _ _ _ rfl _ _ rfl _ rfl rfl ?_ H 3 rfl ?_ ?_; (kernel_rfl); (simp only [List.size_toArray]; rw [Hfl.out]; omega); (clear H; intro w H K hK; simp only [List.set_cons_zero, List.set_cons_succ, List.setIfInBounds_toArray, Act.eval, Value.cells, Array.getD_eq_getD_getElem?, List.getElem?_toArray, List.getElem?_cons_succ, List.getElem?_cons_zero, Option.getD_some] at H; rw [Hset.out] at H; go_simp)))
            go_roundw
            case rel => exact ⟨m + 1, by omega, by go_num, H⟩
            case measure => simp [intOf]; omega
          · have hm2 : m = 512 := by omega
            subst hm2
            go_wp2_with fail
            go_roundw
            case rel =>
              refine ⟨k + 1, by omega, by go_num, ?_⟩
              have e : Dk.img R.sec (k + 1) = Dk.img R.sec k ++ (R.sec k).take 512 := by rw [Dk.img, List.take_of_length_le (by have := Hl.out; omega)]
              rw [e]
              exact shut_ref He.out H
            case measure => simp [intOf]; omega
    · have hk2 : k = R.n := by omega
      subst hk2
      rw [fillA_all (Dk.len_img Hs.out _)] at H
      go_wp2_with (first | (have H9 := open_ref H; obtain ⟨sg, vals, he, H9⟩ := H9; (refine st_load rfl _ _ rfl _ _ rfl ?_ H9 0 rfl rfl ?_; (kernel_rfl); (intro K hK; clear he H9; go_simp))))
      go_ret
      exact ⟨g, rfl, H.pick 1 rfl⟩
end
end Rf
end Go.Proofs.Ytbbkfneafonmiaa
