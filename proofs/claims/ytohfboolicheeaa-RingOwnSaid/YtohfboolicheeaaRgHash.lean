/-
  Hashes on either side.
-/
import Derived.Test.YtohfboolicheeaaRgSpec
import Derived.Lib.Walk
import Derived.Laws.BitsLemmas
namespace Go.Proofs.Ytohfboolicheeaa
open Go.Hp Go.RowKit
set_option linter.unusedVariables false
set_option linter.unusedSimpArgs false
set_option maxRecDepth 100000
set_option maxHeartbeats 1000000
namespace Rg

theorem wrap64_of {n : Int} (h0 : -9223372036854775808 ≤ n) (h1 : n < 9223372036854775808) : wrap64 n = n := by
  unfold wrap64
  omega
theorem xor_val {n h b : Nat} (hh : h < 2 ^ n) (hb : b < 2 ^ n) : (BitVec.ofInt n (h : Int) ^^^ BitVec.ofInt n (b : Int)).toNat = h ^^^ b := by
  rw [BitVec.toNat_xor, BitVec.ofInt_natCast, BitVec.ofInt_natCast, BitVec.toNat_ofNat, BitVec.toNat_ofNat, Nat.mod_eq_of_lt hh, Nat.mod_eq_of_lt hb]
theorem and_val {n b : Nat} (hb : b < 2 ^ n) (x : BitVec n) : (x &&& BitVec.ofInt n (b : Int)).toNat = x.toNat &&& b := by
  rw [BitVec.toNat_and, BitVec.ofInt_natCast, BitVec.toNat_ofNat, Nat.mod_eq_of_lt hb]
theorem bxor64 {h b : Nat} (hh : h < 4294967296) (hb : b < 256) : bits .xor .i64 (h : Int) (b : Int) = ((h ^^^ b : Nat) : Int) := by
  have hx : h ^^^ b < 4294967296 := Nat.xor_lt_two_pow (n := 32) hh (by omega)
  show IntKind.i64.wrap ((BitVec.ofInt 64 (h : Int) ^^^ BitVec.ofInt 64 (b : Int)).toNat : Int) = _
  rw [xor_val (by omega) (by omega), IntKind.wrap_i64]
  omega
theorem bxor32 {h b : Nat} (hh : h < 4294967296) (hb : b < 256) : bits .xor .u32 (h : Int) (b : Int) = ((h ^^^ b : Nat) : Int) := by
  have hx : h ^^^ b < 4294967296 := Nat.xor_lt_two_pow (n := 32) hh (by omega)
  show IntKind.u32.wrap ((BitVec.ofInt 32 (h : Int) ^^^ BitVec.ofInt 32 (b : Int)).toNat : Int) = _
  rw [xor_val (by omega) (by omega)]
  generalize h ^^^ b = q at hx ⊢
  simp [IntKind.wrap, IntKind.bits, IntKind.signed]
  omega
theorem band64 {x : Nat} (hx : x < 4611686018427387904) : bits .and .i64 (x : Int) 4294967295 = ((x % 4294967296 : Nat) : Int) := by
  have := bits_mask .i64 62 (by decide) (fun n h0 h1 => by rw [IntKind.wrap_i64]; omega) 32 (by decide) (x : Int) (by omega) (by omega)
  have e : ((2 : Int) ^ 32 - 1) = 4294967295 := by decide
  rw [e] at this
  rw [this]
  omega
theorem band255 (x : Int) : bits .and .i64 x 255 = x % 256 := by
  have hm : (BitVec.ofInt 64 x).toNat % 256 = (x % 256).toNat := by
    rw [BitVec.toNat_ofInt]
    omega
  show IntKind.i64.wrap ((BitVec.ofInt 64 x &&& BitVec.ofInt 64 ((255 : Nat) : Int)).toNat : Int) = _
  rw [and_val (by decide)]
  have e : ∀ y : Nat, y &&& 255 = y % 256 := fun y => Nat.and_two_pow_sub_one_eq_mod y 8
  rw [e, hm, IntKind.wrap_i64]
  omega
theorem mix_val {h b : Nat} (hh : h < 4294967296) (hb : b < 256) : bits .and .i64 (wrap64 (bits .xor .i64 (h : Int) (b : Int) * 16777619)) 4294967295 = (mixS h b : Nat) := by
  have hx : h ^^^ b < 4294967296 := Nat.xor_lt_two_pow (n := 32) hh (by omega)
  rw [bxor64 hh hb]
  unfold mixS
  generalize h ^^^ b = q at hx ⊢
  rw [wrap64_of (by omega) (by omega), show (q : Int) * 16777619 = ((q * 16777619 : Nat) : Int) from by omega, band64 (by omega)]

section
variable {w0 w : World} {L : List HProp}
theorem mix (H : At w0 L w) {h b : Nat} (hh : h < 4294967296) (hb : b < 256) : Calls Try.prog 64 #[.int .i64 h, .int .i64 b] w (Ret w0 (.int .i64 (mixS h b : Nat)) L) := by
  have HV := Lib.hid (mix_val hh hb)
  go_enter Try.func64, Try.ntmps64
  go_wp2_with fail
  go_ret
  refine ⟨?_, H⟩
  show Ending.returned (.int .i64 _) = _
  rw [HV.out]

theorem byte_shr (n : Int) {i : Nat} (hi : i < 8) : (n / (2 : Int) ^ (8 * i)) % 256 = (byteS n i : Nat) := by
  unfold byteS
  have e : ((2 ^ (8 * i) : Nat) : Int) = (2 : Int) ^ (8 * i) := by rw [Int.natCast_pow]; norm_cast
  rw [e]
  generalize n / (2 : Int) ^ (8 * i) = q
  omega
theorem byte_ushr (n : Int) {i : Nat} (hi : i < 8) : (n % 18446744073709551616 / (2 : Int) ^ (8 * i)) % 256 = (byteS n i : Nat) := by
  rw [← byte_shr n hi]
  have : i = 0 ∨ i = 1 ∨ i = 2 ∨ i = 3 ∨ i = 4 ∨ i = 5 ∨ i = 6 ∨ i = 7 := by omega
  rcases this with rfl | rfl | rfl | rfl | rfl | rfl | rfl | rfl
  · rw [show (2 : Int) ^ (8 * 0) = 1 by decide]; omega
  · rw [show (2 : Int) ^ (8 * 1) = 256 by decide]; omega
  · rw [show (2 : Int) ^ (8 * 2) = 65536 by decide]; omega
  · rw [show (2 : Int) ^ (8 * 3) = 16777216 by decide]; omega
  · rw [show (2 : Int) ^ (8 * 4) = 4294967296 by decide]; omega
  · rw [show (2 : Int) ^ (8 * 5) = 1099511627776 by decide]; omega
  · rw [show (2 : Int) ^ (8 * 6) = 281474976710656 by decide]; omega
  · rw [show (2 : Int) ^ (8 * 7) = 72057594037927936 by decide]; omega

theorem bytes8_step {n : Int} {h : Nat} {k : Nat} (hk : k < 8) : hashB h ((bytes8 n).take (k + 1)) = mixS (hashB h ((bytes8 n).take k)) (byteS n k) := by
  have hl : (bytes8 n)[k]? = some (byteS n k) := by
    unfold bytes8
    rw [List.getElem?_map, List.getElem?_range hk, Option.map_some]
  rw [List.take_add_one, hl, hashB_app, Option.toList_some, hashB_one]
theorem bytes8_full {n : Int} {h : Nat} : hashB h ((bytes8 n).take 8) = numS h n := by
  unfold numS
  rw [List.take_of_length_le (by unfold bytes8; rw [List.length_map, List.length_range]; exact Nat.le_refl _)]

theorem hash_step {n : Int} {h g k : Nat} (hk : k < 8) (hg : g = hashB h ((bytes8 n).take k)) : mixS g (byteS n k) = hashB h ((bytes8 n).take (k + 1)) := by rw [bytes8_step hk, hg]
theorem number (H : At w0 L w) {h : Nat} (hh : h < 4294967296) (n : Int) : Calls Try.prog 50 #[.int .i64 h, .int .i64 n] w (Ret w0 (.int .i64 (numS h n : Nat)) L) := by
  obtain ⟨R, hR⟩ : ∃ R, numS h n = R := ⟨_, rfl⟩
  rw [hR]
  have HR := Lib.hid (bytes8_full.trans hR)
  clear hR
  go_enter Try.func50, Try.ntmps50
  go_wp2_with fail
  go_loopw [0, 5] (fun a i wr => ∃ k g : Nat, k ≤ 8 ∧ i = .int .i64 k ∧ a = .int .i64 g ∧ Hid (g = hashB h ((bytes8 n).take k)) ∧ g < 4294967296 ∧ At w0 L wr) (fun _ i _ => 8 - (intOf i).toNat)
  case atStart => exact ⟨0, h, by decide, rfl, rfl, Lib.hid (hashB_nil h).symm, hh, H⟩
  case round =>
    clear H
    obtain ⟨k, g, hk, rfl, rfl, HG, hg, H⟩ := hrel
    by_cases hlt : k < 8
    · have g1 : (k : Int) < 8 := by omega
      have s1 : 0 ≤ (8 : Int) * k := by omega
      have s2 : (8 : Int) * k ≤ 64 := by omega
      have hw9 : wrap64 (8 * (k : Int)) = 8 * k := wrap64_of (by omega) (by omega)
      have HB := Lib.hid (byte_shr n hlt)
      have HS := Lib.hid (hash_step hlt HG.out)
      have Hb := Lib.hid (byteS_lt n k)
      have Hm := Lib.hid (mixS_lt g (byteS n k))
      go_wp2_with fail
      rw [band255, HB.out]
      refine (mix H hg Hb.out).mono ?_
      rintro e w2 ⟨rfl, HX⟩
      clear H
      have H := HX
      clear HX
      go_wp2_with fail
      go_roundw
      case rel => exact ⟨k + 1, _, by omega, rfl, rfl, Lib.hid HS.out, Hm.out, H⟩
      case measure => simp [intOf]; omega
    · have hk8 : k = 8 := by omega
      subst hk8
      have HE := Lib.hid (HG.out.trans HR.out)
      go_wp2_with fail
      go_ret
      refine ⟨?_, H⟩
      show Ending.returned (.int .i64 _) = _
      rw [HE.out]

def bC (b : Nat) : List Value := [.int .u8 b]
def bCs (l : List Nat) : List Value := (l.map bC).flatten
theorem bCs_app (a b : List Nat) : bCs (a ++ b) = bCs a ++ bCs b := by unfold bCs; simp
theorem bCs_len (l : List Nat) : (bCs l).length = l.length * 1 := by
  unfold bCs
  rw [flat_len (size := 1) (by intro r hr; obtain ⟨e, _, rfl⟩ := List.mem_map.1 hr; rfl), List.length_map]
def OB (v : Value) (l : List Nat) : HProp := OwnRow 5 1 v l.length (bCs l)
theorem ob_recs {v : Value} {l : List Nat} (H : At w0 (OB v l :: L) w) : RecsAt w v 1 (l.map bC) := by
  obtain ⟨ad, cap, h1, h2, h3, h4, h5, h6⟩ := own_value H
  exact ⟨⟨ad, cap, by rw [List.length_map]; exact h1, by rw [List.length_map]; exact h2, h3, by rw [List.length_map]; exact h5, h6⟩, by intro r hr; obtain ⟨e, _, rfl⟩ := List.mem_map.1 hr; rfl⟩
theorem ob_nil (H : At w0 L w) : At w0 (OB (.slice none 0 0) [] :: L) w := own_nil H 5 1
theorem ob_snoc {v : Value} {l : List Nat} {b : Nat} (H : At w0 (OwnRow 5 1 v (l.length + 1) (bCs l ++ [.int .u8 b]) :: L) w) : At w0 (OB v (l ++ [b]) :: L) w := by
  unfold OB
  rw [bCs_app, List.length_append]
  have e : bCs [b] = [.int .u8 (b : Int)] := by unfold bCs; simp [bC]
  rw [e]
  exact H

theorem mix32 {h b : Nat} (hh : h < 4294967296) (hb : b < 256) : bits .xor .u32 (h : Int) (b : Int) * 16777619 % 4294967296 = (mixS h b : Nat) := by
  have hx : h ^^^ b < 4294967296 := Nat.xor_lt_two_pow (n := 32) hh (by omega)
  rw [bxor32 hh hb]
  unfold mixS
  generalize h ^^^ b = q
  omega
theorem hash_step2 {l : List Nat} {h g k b : Nat} (hk : l[k]? = some b) (hg : g = hashB h (l.take k)) : mixS g b = hashB h (l.take (k + 1)) := by
  rw [List.take_add_one, hk, hashB_app, Option.toList_some, hashB_one, hg]

theorem bytes {v : Value} {l : List Nat} (hv : RecsAt w v 1 (l.map bC)) (hl : ∀ b ∈ l, b < 256) (H : At w0 L w) : Calls Try.prog 53 #[v] w (Ret w0 (.int .i64 (hashB hash0 l : Nat)) L) := by
  obtain ⟨W, rfl⟩ : ∃ W : World, W = w := ⟨_, rfl⟩
  have HF := At.of W
  have H0 := Lib.hid H
  obtain ⟨ad, cap, rfl, c1, c2, c3⟩ := hv.value
  rw [List.length_map] at c1 c3 hv ⊢
  have HV := Lib.hid hv
  have C3 := Lib.hid c3
  have HL := Lib.hid hl
  obtain ⟨R, hR⟩ : ∃ R, hashB hash0 l = R := ⟨_, rfl⟩
  rw [hR]
  have HR := Lib.hid hR
  have hl63 : l.length ≤ 9223372036854775807 := by simp only [maxLen] at c2; omega
  clear hR H hv c3 hl
  go_enter Try.func53, Try.ntmps53
  go_wp2_with fail
  go_loopw [3, 8] (fun a i wr => ∃ k g : Nat, k ≤ l.length ∧ i = .int .i64 k ∧ a = .int .u32 g ∧ Hid (g = hashB hash0 (l.take k)) ∧ g < 4294967296 ∧ At W (Arg W :: []) wr) (fun _ i _ => l.length - (intOf i).toNat)
  case atStart => exact ⟨0, 2166136261, Nat.zero_le _, rfl, rfl, Lib.hid (hashB_nil hash0).symm, by decide, HF⟩
  case round =>
    clear HF
    obtain ⟨k, g, hk, rfl, rfl, HG, hg, HF⟩ := hrel
    by_cases hlt : k < l.length
    · have g1 : (k : Int) < l.length := by omega
      obtain ⟨b, hb⟩ : ∃ b, l[k]? = some b := ⟨_, List.getElem?_eq_getElem hlt⟩
      obtain ⟨ba, rfl⟩ := C3.out (by omega)
      have hb8 : b < 256 := HL.out b (List.mem_of_getElem? hb)
      have Hc := Lib.hid (show ∀ w2, Ext W w2 → w2.cell? (ba.add k) = some (.int .u8 (b : Int)) from fun w2 hx => by
        have := hx.cell (recs_get HV.out hb 0 _ rfl)
        rwa [Addr.add_add, Nat.mul_one, Nat.add_zero] at this)
      have HS := Lib.hid (hash_step2 hb HG.out)
      have Hm := Lib.hid (mixS_lt g b)
      have HM := Lib.hid (mix32 hg hb8)
      clear hb
      go_wp2_with (first | ((with_reducible refine k_load ?_); refine st_load1 rfl _ _ rfl _ rfl rfl (Hc.out _ (HF.ext 0 rfl)) ?_; (intro K hK; go_simp)))
      go_roundw
      case rel => exact ⟨k + 1, mixS g b, by omega, rfl, by rw [← HM.out], Lib.hid HS.out, Hm.out, HF⟩
      case measure => simp [intOf]; omega
    · have hk8 : k = l.length := by omega
      subst hk8
      rw [List.take_of_length_le (Nat.le_refl _)] at HG
      have HE := Lib.hid (HG.out.trans HR.out)
      go_wp2_with fail
      go_ret
      refine ⟨?_, HF.lift0 H0.out⟩
      show Ending.returned (.int .i64 _) = _
      rw [HE.out]

theorem u64_wrap (n : Int) : IntKind.u64.wrap n = n % 18446744073709551616 := by simp [IntKind.wrap, IntKind.bits, IntKind.signed]
theorem u8_byte (n : Int) {k : Nat} (hk : k < 8) : IntKind.u64.wrap n / 2 ^ (8 * k) % 256 = (byteS n k : Nat) := by rw [u64_wrap]; exact byte_ushr n hk
theorem flat_step {l : List Int} {i : Nat} {n : Int} (h : l[i]? = some n) : (l.take (i + 1)).flatMap bytes8 = (l.take i).flatMap bytes8 ++ bytes8 n := by
  rw [List.take_add_one, h, Option.toList_some, List.flatMap_append, List.flatMap_cons, List.flatMap_nil, List.append_nil]
theorem bytes8_len (n : Int) : (bytes8 n).length = 8 := by unfold bytes8; rw [List.length_map, List.length_range]
theorem bytes8_get {n : Int} {k : Nat} (hk : k < 8) : (bytes8 n)[k]? = some (byteS n k) := by
  unfold bytes8
  rw [List.getElem?_map, List.getElem?_range hk, Option.map_some]
theorem bytes8_snoc {n : Int} {k : Nat} (hk : k < 8) : (bytes8 n).take (k + 1) = (bytes8 n).take k ++ [byteS n k] := by
  rw [List.take_add_one, bytes8_get hk, Option.toList_some]
theorem bytes8_lt {n : Int} {b : Nat} (h : b ∈ bytes8 n) : b < 256 := by
  unfold bytes8 at h
  obtain ⟨i, _, rfl⟩ := List.mem_map.1 h
  exact byteS_lt n i
theorem flat_len8 : ∀ (l : List Int), (l.flatMap bytes8).length = l.length * 8
  | [] => rfl
  | n :: l => by rw [List.flatMap_cons, List.length_append, flat_len8 l, bytes8_len, List.length_cons]; omega

theorem numbers {v : Value} {l : List Int} (hv : RecsAt w v 1 (l.map iC)) (hl : l.length ≤ 8) (H : At w0 L w) : Calls Try.prog 49 #[v] w (Ret w0 (.int .i64 (hashB hash0 (l.flatMap bytes8) : Nat)) L) := by
  obtain ⟨W, rfl⟩ : ∃ W : World, W = w := ⟨_, rfl⟩
  have HF := At.of W
  have H0 := Lib.hid H
  obtain ⟨ad, cap, rfl, c1, c2, c3⟩ := hv.value
  rw [List.length_map] at c1 c3 hv ⊢
  have HV := Lib.hid hv
  have C3 := Lib.hid c3
  obtain ⟨R, hR⟩ : ∃ R, hashB hash0 (l.flatMap bytes8) = R := ⟨_, rfl⟩
  rw [hR]
  have HR := Lib.hid hR
  clear hR H hv c3
  go_enter Try.func49, Try.ntmps49
  go_wp2_with fail
  replace HF := ob_nil HF
  go_loopw [3, 9] (fun a i wr => ∃ (k : Nat) (acc : List Nat) (b3 : Option Addr) (m3 p3 : Nat), k ≤ l.length ∧ i = .int .i64 k ∧ a = .slice b3 m3 p3 ∧ Hid (acc = (l.take k).flatMap bytes8) ∧ acc.length ≤ 8 * k ∧ At W (OB (.slice b3 m3 p3) acc :: Arg W :: []) wr) (fun _ i _ => l.length - (intOf i).toNat)
  case atStart => exact ⟨0, [], _, _, _, Nat.zero_le _, rfl, rfl, Lib.hid (by simp), by simp, HF⟩
  case round =>
    clear HF
    obtain ⟨k, acc, b3, m3, p3, hk, rfl, rfl, HA, hacc, HF⟩ := hrel
    by_cases hlt : k < l.length
    · have g1 : (k : Int) < l.length := by omega
      obtain ⟨n, hn⟩ : ∃ n, l[k]? = some n := ⟨_, List.getElem?_eq_getElem hlt⟩
      obtain ⟨ba, rfl⟩ := C3.out (by omega)
      have Hc := Lib.hid (show ∀ w2, Ext W w2 → w2.cell? (ba.add k) = some (.int .i64 n) from fun w2 hx => hx.cell (recs_int HV.out hn))
      have HA2 := Lib.hid (show acc ++ bytes8 n = (l.take (k + 1)).flatMap bytes8 from by rw [flat_step hn, HA.out])
      clear hn HA
      go_wp2_with (first | ((with_reducible refine k_load ?_); refine st_load1 rfl _ _ rfl _ rfl rfl (Hc.out _ (HF.ext 1 rfl)) ?_; (intro K hK; go_simp)))
      go_loopw [3, 13] (fun a j wr => ∃ (m : Nat) (b3 : Option Addr) (m3 p3 : Nat), m ≤ 8 ∧ j = .int .i64 m ∧ a = .slice b3 m3 p3 ∧ At W (OB (.slice b3 m3 p3) (acc ++ (bytes8 n).take m) :: Arg W :: []) wr) (fun _ j _ => 8 - (intOf j).toNat)
      case atStart => exact ⟨0, _, _, _, by decide, rfl, rfl, by rw [List.take_zero, List.append_nil]; exact HF⟩
      case round =>
        clear HF
        obtain ⟨m, b4, m4, p4, hm, rfl, rfl, HF⟩ := hrel
        by_cases hlt2 : m < 8
        · have g2 : (m : Int) < 8 := by omega
          have s1 : 0 ≤ (8 : Int) * m := by omega
          have s2 : (8 : Int) * m ≤ 64 := by omega
          have hw9 : wrap64 (8 * (m : Int)) = 8 * m := wrap64_of (by omega) (by omega)
          have HB := Lib.hid (u8_byte n hlt2)
          have HT := Lib.hid (bytes8_snoc (n := n) hlt2)
          obtain ⟨X, hX⟩ : ∃ X, acc ++ (bytes8 n).take m = X := ⟨_, rfl⟩
          have hXl : X.length ≤ 8 * l.length + 8 := by rw [← hX, List.length_append, List.length_take, bytes8_len]; omega
          rw [hX] at HF
          have HX := Lib.hid hX
          clear hX
          go_wp2_with (first | ((with_reducible refine k_builtin ?_); refine st_append rfl _ _ _ rfl 5 Try.underlying92 1 st5 1 bt5 _ zt5 rfl (.slice b4 m4 p4) X.length (bCs X) rfl ((HF.alloc _).sel 3 [1, 0, 2]) (some ⟨wr.heap.size, 0, none⟩) 1 1 [.int .u8 (IntKind.u64.wrap n / 2 ^ (8 * m) % 256)] rfl rfl (fun _ => ⟨_, rfl, cells_of ((HF.alloc _).get 0 rfl)⟩) (by simp [Value.oneCell']) ?_ ?_ ?_; ((try simp only [maxLen]); omega); (omega); (clear HF; intro v7 w HF K hK; obtain ⟨s4, t4, u4, rfl⟩ := own_form HF; go_simp)))
          go_roundw
          case rel =>
            rw [HB.out] at HF
            have HG := ob_snoc (HF.sel 3 [0, 2])
            refine ⟨m + 1, s4, t4, u4, by omega, rfl, rfl, ?_⟩
            rw [HT.out, ← List.append_assoc, HX.out]
            exact HG
          case measure => simp [intOf]; omega
        · have hm8 : m = 8 := by omega
          subst hm8
          go_wp2_with fail
          go_roundw
          case rel => exact ⟨k + 1, _, b4, m4, p4, by omega, rfl, rfl, Lib.hid (by rw [List.take_of_length_le (by rw [bytes8_len]; exact Nat.le_refl _)]; exact HA2.out), by rw [List.length_append, List.length_take, bytes8_len]; omega, HF⟩
          case measure => simp [intOf]; omega
    · have hk8 : k = l.length := by omega
      subst hk8
      rw [List.take_of_length_le (Nat.le_refl _)] at HA
      have HE := Lib.hid (show hashB hash0 acc = R by rw [HA.out]; exact HR.out)
      have HL := Lib.hid (show ∀ b ∈ acc, b < 256 from fun b hb => by
        rw [HA.out] at hb
        obtain ⟨n, _, hn⟩ := List.mem_flatMap.1 hb
        exact bytes8_lt hn)
      go_wp2_with fail
      refine (bytes (ob_recs HF) HL.out HF).mono ?_
      rintro e w2 ⟨rfl, HX⟩
      rw [HE.out]
      clear HF
      have HF := HX
      clear HX
      go_wp2_with fail
      go_ret
      exact ⟨rfl, (HF.sel 2 [1]).lift0 H0.out⟩
end
end Rg
end Go.Proofs.Ytohfboolicheeaa
