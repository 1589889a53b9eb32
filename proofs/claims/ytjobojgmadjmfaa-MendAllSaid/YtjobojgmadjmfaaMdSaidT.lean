/-
  What mend's statements need of Take: what it tells is small and well-formed.
-/
import Derived.Test.YtjobojgmadjmfaaMdSaid
import Derived.Test.YtjobojgmadjmfaaMdRTakeS
namespace Go.Proofs.Ytjobojgmadjmfaa
open Go.Hp Go.RowKit
set_option linter.unusedVariables false
set_option linter.unusedSimpArgs false
namespace Md

theorem base_mg0 : Base mg0 := ⟨rfl, rfl, rfl, rfl⟩
theorem base_onM (m : Mg) (n : Int) : Base (onM m n) := ⟨rfl, rfl, rfl, rfl⟩

theorem take_base (m : Mg) (h : Hd) : Base (takeS m h).2.1 := by
  unfold takeS
  split
  · exact base_mg0
  · split
    · split <;> exact base_mg0
    · split
      · unfold takeBS
        split
        · exact base_mg0
        · split
          · exact base_mg0
          · exact base_onM _ _
      · exact base_mg0

theorem newsS_len (m : Mg) (h : Hd) : ∀ k, (newsS m h k).length ≤ k
  | 0 => by simp [newsS]
  | k + 1 => by
    have := newsS_len m h k
    unfold newsS
    rw [List.length_append]
    cases m.cmds[k]? with
    | none => simp; omega
    | some c =>
      dsimp only
      split <;> simp <;> omega

/-- Lists that Take tells. -/
theorem take_all {P : List Cg → Prop} {m : Mg} {h : Hd} (h0 : P []) (hB : P [chB m]) (hK : P [chK m]) (hN : P (newsS m h m.cmds.length)) : P (takeS m h).1 := by
  unfold takeS
  split
  · exact h0
  · split
    · split
      · exact hB
      · exact h0
    · split
      · unfold takeBS
        split
        · exact h0
        · split
          · dsimp only
            split
            · exact hN
            · split
              · exact hK
              · exact h0
          · dsimp only
            split
            · exact hN
            · split
              · exact hK
              · exact h0
      · exact h0

theorem take_ok {m : Mg} {h : Hd} (hok : m.Ok) (be : m.ents.length * 40 ≤ 140737488355328) (bl : m.lasts.length * 56 ≤ 140737488355328) : ∀ c ∈ (takeS m h).1, c.Ok := by
  refine take_all (P := fun l => ∀ c ∈ l, c.Ok) ?_ ?_ ?_ ?_
  · intro c hc; cases hc
  · intro c hc
    obtain rfl := List.mem_singleton.1 hc
    exact ⟨fun r hr => absurd hr List.not_mem_nil, fun r hr => absurd hr List.not_mem_nil, show ([] : List (List Value)).length * 40 ≤ 140737488355328 by decide, show ([] : List (List Value)).length * 56 ≤ 140737488355328 by decide⟩
  · intro c hc
    obtain rfl := List.mem_singleton.1 hc
    exact ⟨hok.ents, hok.lasts, be, bl⟩
  · intro c hc
    obtain ⟨_, h2, h3⟩ := newsS_mem m h _ c hc
    refine ⟨?_, ?_, ?_, ?_⟩
    · rw [h2]; intro r hr; cases hr
    · rw [h3]; intro r hr; cases hr
    · rw [h2]; decide
    · rw [h3]; decide

theorem take_len {m : Mg} {h : Hd} (bc : m.cmds.length * 80 ≤ 140737488355328) : (takeS m h).1.length ≤ 140737488355328 := by
  refine take_all (P := fun l => l.length ≤ 140737488355328) ?_ ?_ ?_ ?_
  · exact Nat.zero_le _
  · show 1 ≤ _
    decide
  · show 1 ≤ _
    decide
  · have := newsS_len m h m.cmds.length
    omega

theorem take_from (m : Mg) (h : Hd) : ∀ c ∈ (takeS m h).1, c.From m := by
  have h0 : ∀ c ∈ ([] : List Cg), c.From m := fun c hc => absurd hc List.not_mem_nil
  have hK : m.kk = 2 → ∀ c ∈ [chK m], c.From m := fun hk c hc => by
    obtain rfl := List.mem_singleton.1 hc
    have e : (chK m).kk = m.kk := rfl
    refine ⟨?_, ?_⟩
    · rw [e, if_neg (by omega)]; rfl
    · rw [e, if_pos hk]; exact ⟨rfl, rfl⟩
  have hN : ∀ c ∈ newsS m h m.cmds.length, c.From m := fun c hc => by
    obtain ⟨h1, h2, h3⟩ := newsS_mem m h _ c hc
    have e := newsS_kk m h _ c hc
    refine ⟨?_, ?_⟩
    · rw [e, if_neg (by decide)]; exact h1
    · rw [e, if_neg (by decide)]; exact ⟨h2, h3⟩
  unfold takeS
  split
  · exact h0
  · split
    · rename_i hk
      split
      · intro c hc
        obtain rfl := List.mem_singleton.1 hc
        have e : (chB m).kk = m.kk := rfl
        refine ⟨?_, ?_⟩
        · rw [e, if_pos hk]; rfl
        · rw [e, if_neg (by omega)]; exact ⟨rfl, rfl⟩
      · exact h0
    · split
      · rename_i hk
        unfold takeBS
        split
        · exact h0
        · split
          · dsimp only
            split
            · exact hN
            · split
              · exact hK hk
              · exact h0
          · dsimp only
            split
            · exact hN
            · split
              · exact hK hk
              · exact h0
      · exact h0

end Md
end Go.Proofs.Ytjobojgmadjmfaa
