import Derived.Test.YtbbkfneafonmiaaRows
import Derived.Test.YtbbkfneafonmiaaHp
import Derived.ProofKit
import Derived.OpenShut
namespace Go.Proofs.Ytbbkfneafonmiaa.err
open Go.RowKit
set_option linter.unusedVariables false

def tab : Array Value := #[.int .i64 0, .string ⟨#[111, 107]⟩, .int .i64 1, .string ⟨#[97, 114, 103]⟩, .int .i64 2, .string ⟨#[108, 111, 110, 103]⟩, .int .i64 3, .string ⟨#[102, 117, 108, 108]⟩, .int .i64 4, .string ⟨#[119, 111, 114, 110]⟩, .int .i64 5, .string ⟨#[102, 97, 108, 108, 101, 110]⟩, .int .i64 10, .string ⟨#[99, 117, 116]⟩, .int .i64 11, .string ⟨#[102, 111, 114, 109]⟩, .int .i64 12, .string ⟨#[115, 117, 109]⟩, .int .i64 20, .string ⟨#[99, 111, 110, 102, 105, 103]⟩, .int .i64 21, .string ⟨#[107, 101, 121]⟩, .int .i64 30, .string ⟨#[115, 101, 99, 116, 111, 114, 115]⟩, .int .i64 31, .string ⟨#[114, 97, 110, 103, 101]⟩, .int .i64 32, .string ⟨#[108, 101, 110, 103, 116, 104]⟩, .int .i64 50, .string ⟨#[109, 115, 103]⟩, .int .i64 100, .string ⟨#[110, 97, 109, 101]⟩, .int .i64 101, .string ⟨#[101, 120, 105, 115, 116, 115]⟩, .int .i64 102, .string ⟨#[110, 111, 116, 102, 111, 117, 110, 100]⟩, .int .i64 103, .string ⟨#[114, 111, 111, 109]⟩, .int .i64 104, .string ⟨#[115, 116, 97, 108, 101]⟩, .int .i64 105, .string ⟨#[99, 111, 109, 109, 97, 110, 100]⟩, .int .i64 130, .string ⟨#[105, 110, 100, 101, 120]⟩, .int .i64 131, .string ⟨#[98, 108, 111, 99, 107]⟩, .int .i64 132, .string ⟨#[115, 105, 122, 101]⟩, .int .i64 133, .string ⟨#[98, 117, 115, 121]⟩, .int .i64 134, .string ⟨#[98, 117, 99, 107, 101, 116]⟩, .int .i64 135, .string ⟨#[111, 112]⟩, .int .i64 150, .string ⟨#[112, 97, 99, 107, 101, 116]⟩, .int .i64 151, .string ⟨#[97, 100, 100, 114]⟩, .int .i64 160, .string ⟨#[101, 118, 101, 110, 116]⟩, .int .i64 170, .string ⟨#[104, 105, 115, 116, 111, 114, 121]⟩, .int .i64 200, .string ⟨#[119, 111, 114, 100]⟩]

def code (k : Nat) : Int := match tab.getD (2 * k) undef with | .int _ n => n | _ => 0
def word (k : Nat) : ByteArray := match tab.getD (2 * k + 1) undef with | .string s => s | _ => ByteArray.empty

theorem at_tab : ∀ (k : Nat), k < 32 → ∀ w : World, (Instr.index 66 (.agg tab) (.int .i64 k)).run Try.prog w = .ok (.agg #[.int .i64 (code k), .string (word k)]) w
  | 0, _ => fun _ => by kernel_rfl
  | 1, _ => fun _ => by kernel_rfl
  | 2, _ => fun _ => by kernel_rfl
  | 3, _ => fun _ => by kernel_rfl
  | 4, _ => fun _ => by kernel_rfl
  | 5, _ => fun _ => by kernel_rfl
  | 6, _ => fun _ => by kernel_rfl
  | 7, _ => fun _ => by kernel_rfl
  | 8, _ => fun _ => by kernel_rfl
  | 9, _ => fun _ => by kernel_rfl
  | 10, _ => fun _ => by kernel_rfl
  | 11, _ => fun _ => by kernel_rfl
  | 12, _ => fun _ => by kernel_rfl
  | 13, _ => fun _ => by kernel_rfl
  | 14, _ => fun _ => by kernel_rfl
  | 15, _ => fun _ => by kernel_rfl
  | 16, _ => fun _ => by kernel_rfl
  | 17, _ => fun _ => by kernel_rfl
  | 18, _ => fun _ => by kernel_rfl
  | 19, _ => fun _ => by kernel_rfl
  | 20, _ => fun _ => by kernel_rfl
  | 21, _ => fun _ => by kernel_rfl
  | 22, _ => fun _ => by kernel_rfl
  | 23, _ => fun _ => by kernel_rfl
  | 24, _ => fun _ => by kernel_rfl
  | 25, _ => fun _ => by kernel_rfl
  | 26, _ => fun _ => by kernel_rfl
  | 27, _ => fun _ => by kernel_rfl
  | 28, _ => fun _ => by kernel_rfl
  | 29, _ => fun _ => by kernel_rfl
  | 30, _ => fun _ => by kernel_rfl
  | 31, _ => fun _ => by kernel_rfl
  | n + 32, h => absurd h (by omega)


set_option maxRecDepth 100000 in
set_option maxHeartbeats 2000000 in
theorem err_at (p : Nat) (hp : p < 32) (e : Int) (hb : ∀ k, k < p → (code k == e) = false) (ht : (code p == e) = true) (w : World) :
    Calls Try.prog 11 #[.int .i64 e] w fun r w' => r = .returned (.string (word p)) ∧ Grown w w' := by
  have Hb := Lib.hid hb
  have Ht := Lib.hid ht
  clear hb ht
  go_enter Try.func11, Try.ntmps11
  go_wp2
  have hT : Value.agg #[.int .i64 0, .string ⟨#[111, 107]⟩, .int .i64 1, .string ⟨#[97, 114, 103]⟩, .int .i64 2, .string ⟨#[108, 111, 110, 103]⟩, .int .i64 3, .string ⟨#[102, 117, 108, 108]⟩, .int .i64 4, .string ⟨#[119, 111, 114, 110]⟩, .int .i64 5, .string ⟨#[102, 97, 108, 108, 101, 110]⟩, .int .i64 10, .string ⟨#[99, 117, 116]⟩, .int .i64 11, .string ⟨#[102, 111, 114, 109]⟩, .int .i64 12, .string ⟨#[115, 117, 109]⟩, .int .i64 20, .string ⟨#[99, 111, 110, 102, 105, 103]⟩, .int .i64 21, .string ⟨#[107, 101, 121]⟩, .int .i64 30, .string ⟨#[115, 101, 99, 116, 111, 114, 115]⟩, .int .i64 31, .string ⟨#[114, 97, 110, 103, 101]⟩, .int .i64 32, .string ⟨#[108, 101, 110, 103, 116, 104]⟩, .int .i64 50, .string ⟨#[109, 115, 103]⟩, .int .i64 100, .string ⟨#[110, 97, 109, 101]⟩, .int .i64 101, .string ⟨#[101, 120, 105, 115, 116, 115]⟩, .int .i64 102, .string ⟨#[110, 111, 116, 102, 111, 117, 110, 100]⟩, .int .i64 103, .string ⟨#[114, 111, 111, 109]⟩, .int .i64 104, .string ⟨#[115, 116, 97, 108, 101]⟩, .int .i64 105, .string ⟨#[99, 111, 109, 109, 97, 110, 100]⟩, .int .i64 130, .string ⟨#[105, 110, 100, 101, 120]⟩, .int .i64 131, .string ⟨#[98, 108, 111, 99, 107]⟩, .int .i64 132, .string ⟨#[115, 105, 122, 101]⟩, .int .i64 133, .string ⟨#[98, 117, 115, 121]⟩, .int .i64 134, .string ⟨#[98, 117, 99, 107, 101, 116]⟩, .int .i64 135, .string ⟨#[111, 112]⟩, .int .i64 150, .string ⟨#[112, 97, 99, 107, 101, 116]⟩, .int .i64 151, .string ⟨#[97, 100, 100, 114]⟩, .int .i64 160, .string ⟨#[101, 118, 101, 110, 116]⟩, .int .i64 170, .string ⟨#[104, 105, 115, 116, 111, 114, 121]⟩, .int .i64 200, .string ⟨#[119, 111, 114, 100]⟩] = Value.agg tab := rfl
  have hix := at_tab
  rw [hT]
  generalize Value.agg tab = TV at hix ⊢
  clear hT
  go_loopw [4, 38] (fun _ i wr => ∃ k : Nat, k ≤ p ∧ i = .int .i64 k ∧ Grown w wr) (fun _ i _ => 32 - (intOf i).toNat)
  case atStart => exact ⟨0, Nat.zero_le _, rfl, Grown.refl _⟩
  case round =>
    obtain ⟨k, hk, rfl, hg⟩ := hrel
    have hk32 : k < 32 := by omega
    have hi := hix k hk32
    clear hix
    by_cases hkp : k = p
    · subst hkp
      have ht := Ht.out
      go_wp2
      go_ret
      exact ⟨rfl, by repeat (first | exact hg | apply Grown.drew | apply Grown.alloc)⟩
    · have hb := Hb.out k (by omega)
      go_wp2
      go_roundw
      case rel => exact ⟨k + 1, by omega, by go_num, by repeat (first | exact hg | apply Grown.drew | apply Grown.alloc)⟩
      case measure => simp [intOf]; omega
end Go.Proofs.Ytbbkfneafonmiaa.err
