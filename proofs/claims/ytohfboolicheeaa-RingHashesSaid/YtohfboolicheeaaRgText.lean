/-
  The document's buckets.
-/
import Derived.Test.YtohfboolicheeaaRgBoth
namespace Go.Proofs.Ytohfboolicheeaa
open Go.Hp Go.RowKit
set_option linter.unusedVariables false
set_option linter.unusedSimpArgs false
set_option maxRecDepth 100000
set_option maxHeartbeats 2000000
namespace Rg
section
variable {w0 w : World} {L : List HProp}
theorem text (H : At w0 L w) (s : ByteArray) (hsz : s.size ≤ 9223372036854775807) : Calls Try.prog 54 #[.string s] w (Ret w0 (.int .i64 (textS s : Nat)) L) := by
  obtain ⟨l, hl⟩ : ∃ l, s.data.toList.map UInt8.toNat = l := ⟨_, rfl⟩
  have hll : l.length = s.size := by rw [← hl, List.length_map, Array.length_toList]; rfl
  obtain ⟨R, hR⟩ : ∃ R, textS s = R := ⟨_, rfl⟩
  rw [hR]
  have HR := Lib.hid (show hashB hash0 l = R by rw [← hl]; exact hR)
  have HL := Lib.hid (show ∀ (k : Nat) (h : k < s.size), l[k]? = some (s[k].toNat) from fun k h => by
    rw [← hl, List.getElem?_map, Array.getElem?_toList, Array.getElem?_eq_getElem h]
    rfl)
  have HLL := Lib.hid hll
  clear hl hR hll
  go_enter Try.func54, Try.ntmps54
  go_wp2_with fail
  go_loopw [3, 4] (fun a i wr => ∃ k g : Nat, k ≤ s.size ∧ i = .int .i64 k ∧ a = .int .i64 g ∧ Hid (g = hashB hash0 (l.take k)) ∧ g < 4294967296 ∧ At w0 L wr) (fun _ i _ => s.size - (intOf i).toNat)
  case atStart => exact ⟨0, 2166136261, Nat.zero_le _, rfl, rfl, Lib.hid (hashB_nil hash0).symm, by decide, H⟩
  case round =>
    clear H
    obtain ⟨k, g, hk, rfl, rfl, HG, hg, H⟩ := hrel
    by_cases hlt : k < s.size
    · have gk : (k : Int) < s.size := by omega
      have hb := HL.out k hlt
      obtain ⟨b, hbb⟩ : ∃ b, s[k].toNat = b := ⟨_, rfl⟩
      have hb8 : b < 256 := by rw [← hbb]; exact UInt8.toNat_lt _
      rw [hbb] at hb
      have HS := Lib.hid (hash_step2 hb HG.out)
      have Hm := Lib.hid (mixS_lt g b)
      clear hb
      go_wp2_with fail
      refine (mix H hg hb8).mono ?_
      rintro e w2 ⟨rfl, HX⟩
      clear H
      have H := HX
      clear HX
      go_wp2_with fail
      go_roundw
      case rel => exact ⟨k + 1, _, by omega, rfl, rfl, Lib.hid HS.out, Hm.out, H⟩
      case measure => simp [intOf]; omega
    · have gk : ¬ (k : Int) < s.size := by omega
      have HE := Lib.hid (show g = R by rw [HG.out, List.take_of_length_le (by rw [HLL.out]; omega)]; exact HR.out)
      go_wp2_with fail
      go_ret
      refine ⟨?_, H⟩
      show Ending.returned (.int .i64 _) = _
      rw [HE.out]

theorem rbucket {v : Value} {c : Cf} {S : List Int} {pts : List Pt} (hr : RgF 45 w v c S pts) (hB : 1 ≤ c.B ∧ c.B ≤ 256) (s : ByteArray) (hsz : s.size ≤ 9223372036854775807) (H : At w0 L w) :
    Calls Try.prog 37 #[v, .string s] w (Ret w0 (.int .i64 ((textS s : Int) % c.B)) L) := by
  obtain ⟨W, rfl⟩ : ∃ W : World, W = w := ⟨_, rfl⟩
  have HF := At.of W
  have H0 := Lib.hid H
  obtain ⟨g, s1, s2, s3, p1, p2, p3, rfl, hg, hS, hp⟩ := hr
  have Hg := Lib.hid (fun (w2 : World) (hx : Ext W w2) j u (hj : (rgCells (.slice s1 s2 s3) c (.slice p1 p2 p3))[j]? = some u) => hx.cell (show W.cell? ⟨g, j, none⟩ = some u from by
    have := cells_of hg j u hj
    rwa [Addr.add_lit, Nat.zero_add] at this))
  obtain ⟨cF, cP, cB, cK, cR⟩ := c
  dsimp only at *
  have Ht := Lib.hid (fun (w2 : World) (M : List HProp) (HM : At W M w2) => text HM s hsz)
  obtain ⟨t, ht⟩ : ∃ t, textS s = t := ⟨_, rfl⟩
  rw [ht] at Ht
  rw [ht]
  clear ht
  have hne : ¬ cB = 0 := by omega
  clear H hp hS hg
  go_enter Try.func37, Try.ntmps37
  go_wp2_with fail
  apply wp_region_eff [] (fun i => (#[[], [], [], [], [], [], [], [], []] : Array (List Nat)).getD i []) (fun val i => ((_ :: .int .i64 t :: _ :: _ :: _ :: _ :: .int .i64 cB :: .int .i64 ((t : Int).tmod cB) :: _ :: []) : List Value).toArray.getD i undef) (fun E val => At W (Arg W :: [])) (by kernel_rfl) (by kernel_rfl) (by kernel_rfl) (by kernel_rfl) (HF)
  case step =>
    iterate 9 (refine ⟨eff_pl rfl (fun _ => by rfl) fun E val hn T ds w K H hk ho hK => ?_, ?_⟩; rotate_left)
    exact trivial
    · have o1 := ho 1 (by kernel_rfl); clear ho; simp [know, dstAt, Region.binds] at hk o1; go_simp; exact hK _ H
    · clear ho; simp [know, dstAt, Region.binds] at hk
      (go_simp; refine (Ht.out _ _ H).mono ?_; rintro e w' ⟨rfl, H⟩; exact hK _ H)
    · have o0 := ho 0 (by kernel_rfl); clear ho; simp [know, dstAt, Region.binds] at hk o0; go_simp; exact hK _ H
    · clear ho; simp [know, dstAt, Region.binds] at hk; go_simp; exact hK _ H
    · clear ho; simp [know, dstAt, Region.binds] at hk; go_simp; exact hK _ H
    · clear ho; simp [know, dstAt, Region.binds] at hk; go_simp; exact hK _ H
    · clear ho; simp [know, dstAt, Region.binds] at hk
      (refine op_load1T rfl hk (by kernel_rfl) (Hg.out _ (H.ext 0 rfl) 3 _ rfl) ?_; exact hK _ H)
    · clear ho; simp [know, dstAt, Region.binds] at hk; go_simp; exact hK _ H
    · clear ho; simp [know, dstAt, Region.binds] at hk; go_simp; exact hK _ H
  case ins =>
    iterate 9 (refine ⟨ins_pl rfl (fun _ _ _ => rfl), ?_⟩)
    exact trivial
  case jns =>
    iterate 9 (refine ⟨j_pl (fun _ _ _ => rfl), ?_⟩)
    exact trivial
  case fin =>
    intro E val w5 hE H
    clear hE HF
    simp [putAll, Act.put]
    go_wp2_with fail
    go_ret
    refine ⟨?_, H.lift0 H0.out⟩
    show Ending.returned (.int .i64 ((t : Int).tmod cB)) = _
    rw [Int.tmod_eq_emod_of_nonneg (by omega)]
end
end Rg
end Go.Proofs.Ytohfboolicheeaa
