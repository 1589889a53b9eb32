/-
  The document's bucket: the answer, and the entries behind a command.
-/
import Derived.Test.YtcofcikdknmggaaBkRef
namespace Go.Proofs.Ytcofcikdknmggaa
open Go.Hp Go.RowKit
set_option linter.unusedVariables false
set_option linter.unusedSimpArgs false
set_option maxRecDepth 100000
set_option maxHeartbeats 2000000
namespace Bk

def madeR (e : En) (c : Cm) : En := if c.k = 7 then ⟨e.nm, c.nc, c.no, c.sz⟩ else if c.k = 5 ∨ e.sz < c.sz then ⟨e.nm, e.fc, e.fo, c.sz⟩ else e

/-- What the document answers (an error, an entry, a list) and the entries behind it. -/
def ansS (l : List En) (c : Cm) (room : Int) : An × List En :=
  if c.k = 4 then (⟨0, en0, woS l 0 0 []⟩, l)
  else if c.k = 1 then
    if rpB l c.nm = true then (⟨101, eAt l (rpI l c.nm), []⟩, l)
    else if room ≤ (l.length : Int) then (⟨103, en0, []⟩, l)
    else (⟨0, ⟨c.nm, c.cl, c.op, 0⟩, []⟩, woS l (rpI l c.nm) 0 [⟨c.nm, c.cl, c.op, 0⟩])
  else if rpB l c.nm = false then (⟨102, en0, []⟩, l)
  else if c.k = 2 then (⟨0, eAt l (rpI l c.nm), []⟩, woS l (rpI l c.nm) 1 [])
  else if c.k = 3 then (⟨0, eAt l (rpI l c.nm), []⟩, l)
  else if (eAt l (rpI l c.nm)).fc = c.fc ∧ (eAt l (rpI l c.nm)).fo = c.fo then (⟨0, madeR (eAt l (rpI l c.nm)) c, []⟩, woS l (rpI l c.nm) 1 [madeR (eAt l (rpI l c.nm)) c])
  else (⟨104, eAt l (rpI l c.nm), []⟩, l)

theorem eC_app (a b : List En) : eC (a ++ b) = eC a ++ eC b := by unfold eC; simp
theorem woS_len {l xs : List En} {i g : Nat} (h : i + g ≤ l.length) : (woS l i g xs).length = i + xs.length + (l.length - (i + g)) := by
  unfold woS
  simp only [List.length_append, List.length_take, List.length_drop]
  omega

section
variable {w0 w W : World} {L : List HProp}

theorem recs_take {ad : Option Addr} {cap k : Nat} {es : List En} (he : RecsAt w (.slice ad es.length cap) 4 (es.map En.cells)) (hk : k ≤ es.length) :
    RecsAt w (.slice ad k cap) 4 ((es.take k).map En.cells) := by
  obtain ⟨⟨ad2, cap2, h1, h2, h3, h4, h5⟩, h6⟩ := he
  rw [List.length_map] at h1 h2 h4
  cases h1
  have hkl : (es.take k).length = k := by rw [List.length_take]; omega
  refine ⟨⟨_, _, by rw [List.length_map, hkl], by rw [List.length_map, hkl]; omega, h3, fun h0 => h4 (by rw [List.length_map, hkl] at h0; omega), fun b hb j u hj => ?_⟩, by intro r hr; obtain ⟨e, _, rfl⟩ := List.mem_map.1 hr; rfl⟩
  rw [← flat_take (fun e : En => e.len) es k hk, List.getElem?_take] at hj
  split at hj
  · exact h5 b hb j u hj
  · cases hj

theorem recs_src {sp : Option Addr} {m c : Nat} {xs : List En} (h : RecsAt w (.slice sp m c) 4 (xs.map En.cells)) : m = xs.length ∧ (0 < m → ∃ ad, sp = some ad ∧ ∀ j u, (eC xs)[j]? = some u → w.cell? (ad.add j) = some u) := by
  obtain ⟨⟨ad2, cap2, h1, h2, h3, h4, h5⟩, h6⟩ := h
  rw [List.length_map] at h1 h2 h4
  cases h1
  refine ⟨rfl, fun h0 => ?_⟩
  obtain ⟨b, rfl⟩ := h4 h0
  exact ⟨b, rfl, h5 b rfl⟩

theorem recs_one1 {g : Nat} {x : En} (H : At w0 (Blk g (.cells x.cells.toArray 39 (0, 0)) :: L) w) : RecsAt w (.slice (some ⟨g, 0, none⟩) 1 1) 4 ([x].map En.cells) := by
  refine ⟨⟨_, _, rfl, Nat.le_refl _, by simp [maxLen], fun _ => ⟨_, rfl⟩, fun b hb j u hj => ?_⟩, by intro r hr; simp at hr; subst hr; rfl⟩
  cases hb
  exact cells_of H.get0 j u (by simpa using hj)

theorem without {v vx : Value} {l xs : List En} {i g : Nat} (hv : RecsAt w v 4 (l.map En.cells)) (hx : RecsAt w vx 4 (xs.map En.cells)) (hig : i + g ≤ l.length) (hb : (l.length + xs.length) * 40 ≤ 140737488355328) (H : At w0 L w) :
    Calls Try.prog 55 #[v, .int .i64 i, .int .i64 g, vx] w (fun e w' => ∃ v', e = .returned v' ∧ At w0 (OE v' (woS l i g xs) :: L) w') := by
  obtain ⟨W, rfl⟩ : ∃ W : World, W = w := ⟨_, rfl⟩
  have HF := At.of W
  have H0 := Lib.hid H
  obtain ⟨ad, cap, rfl, c1, c2, c3⟩ := hv.value
  obtain ⟨adx, capx, rfl, x1, x2, x3⟩ := hx.value
  rw [List.length_map] at c1 c3 hv x1 x3 hx ⊢
  have R1 := Lib.hid (recs_take hv (show i ≤ l.length by omega))
  have R2 := Lib.hid hx
  have R3 := Lib.hid (recs_drop hv hig)
  have Rw := Lib.hid (show IntKind.i64.wrap ((i : Int) + (g : Int)) = (i : Int) + (g : Int) from IntWalk.i64_in _ (by omega))
  have rw1 := Rw.out
  have k1 : ((i : Int) + (g : Int)).toNat = i + g := by omega
  have k2 : (i : Int) ≤ cap := by omega
  have k3 : (i : Int) + (g : Int) ≤ l.length := by omega
  have k4 : (0 : Int) ≤ (i : Int) + (g : Int) := by omega
  clear H hv hx c3 x3 Rw
  have HN := own_nil HF 39 4
  clear HF
  have HF := HN
  clear HN
  have l1 : (l.take i).length = i := by rw [List.length_take]; omega
  have l3 : (l.drop (i + g)).length = l.length - (i + g) := List.length_drop
  have L1 := Lib.hid l1
  have L3 := Lib.hid l3
  clear l1 l3
  by_cases hc : cap = i + g
  · have R3 := R3.out
    subst hc
    rw [if_pos rfl, show i + g - (i + g) = 0 by omega] at R3
    go_enter Try.func55, Try.ntmps55
    go_wp2_with (first | ((with_reducible refine k_builtin ?_); refine st_append rfl _ _ _ rfl 39 Try.underlying22 4 s39 40 bytes39 _ z39 rfl _ 0 [] rfl HF ad i (i + g) (eC (l.take i)) rfl (by rw [eC_len, L1.out]) (fun h0 => by obtain ⟨b, e, hb⟩ := (recs_src R1.out).2 h0; exact ⟨b, e, fun j u hj => (HF.ext 1 rfl).cell (hb j u hj)⟩) (eC_one _) ?_ ?_ ?_; (simp only [maxLen]; omega); (omega); (clear HF; intro v1 w HF K hK; go_simp))        | ((with_reducible refine k_builtin ?_); refine st_append rfl _ _ _ rfl 39 Try.underlying22 4 s39 40 bytes39 _ z39 rfl _ (0 + i) ([] ++ eC (l.take i)) rfl HF adx xs.length capx (eC xs) rfl (by rw [eC_len]) (fun h0 => by obtain ⟨b, e, hb⟩ := (recs_src R2.out).2 h0; exact ⟨b, e, fun j u hj => (HF.ext 1 rfl).cell (hb j u hj)⟩) (eC_one _) ?_ ?_ ?_; (simp only [maxLen]; omega); (omega); (clear HF; intro v2 w HF K hK; go_simp))        | ((with_reducible refine k_builtin ?_); refine st_append rfl _ _ _ rfl 39 Try.underlying22 4 s39 40 bytes39 _ z39 rfl _ (0 + i + xs.length) ([] ++ eC (l.take i) ++ eC xs) rfl HF ad 0 0 [] rfl (by simp) (fun h0 => absurd h0 (Nat.lt_irrefl _)) (fun u hu => absurd hu List.not_mem_nil) ?_ ?_ ?_; (simp only [maxLen]; omega); (omega); (clear HF; intro v3 w HF K hK; go_simp)))
    go_ret
    refine ⟨_, rfl, ?_⟩
    have e1 : OE v3 (woS l i g xs) = OwnRow 39 4 v3 (0 + i + xs.length + 0) ([] ++ eC (l.take i) ++ eC xs ++ []) := by
      unfold OE
      rw [woS_len hig, Nat.zero_add, List.nil_append, show l.length - (i + g) = 0 by omega]
      unfold woS
      rw [List.drop_of_length_le c1, List.append_nil, List.append_nil, eC_app]
    show At w0 (OE v3 (woS l i g xs) :: L) _
    rw [e1]
    exact HF.lift1 H0.out
  · have R3 := R3.out
    rw [if_neg hc] at R3
    go_enter Try.func55, Try.ntmps55
    go_wp2_with (first | ((with_reducible refine k_builtin ?_); refine st_append rfl _ _ _ rfl 39 Try.underlying22 4 s39 40 bytes39 _ z39 rfl _ 0 [] rfl HF ad i cap (eC (l.take i)) rfl (by rw [eC_len, L1.out]) (fun h0 => by obtain ⟨b, e, hb⟩ := (recs_src R1.out).2 h0; exact ⟨b, e, fun j u hj => (HF.ext 1 rfl).cell (hb j u hj)⟩) (eC_one _) ?_ ?_ ?_; (simp only [maxLen]; omega); (omega); (clear HF; intro v1 w HF K hK; go_simp))        | ((with_reducible refine k_builtin ?_); refine st_append rfl _ _ _ rfl 39 Try.underlying22 4 s39 40 bytes39 _ z39 rfl _ (0 + i) ([] ++ eC (l.take i)) rfl HF adx xs.length capx (eC xs) rfl (by rw [eC_len]) (fun h0 => by obtain ⟨b, e, hb⟩ := (recs_src R2.out).2 h0; exact ⟨b, e, fun j u hj => (HF.ext 1 rfl).cell (hb j u hj)⟩) (eC_one _) ?_ ?_ ?_; (simp only [maxLen]; omega); (omega); (clear HF; intro v2 w HF K hK; go_simp))        | ((with_reducible refine k_builtin ?_); refine st_append rfl _ _ _ rfl 39 Try.underlying22 4 s39 40 bytes39 _ z39 rfl _ (0 + i + xs.length) ([] ++ eC (l.take i) ++ eC xs) rfl HF (ad.map (·.add ((i + g) * 4))) (l.length - (i + g)) (cap - (i + g)) (eC (l.drop (i + g))) rfl (by rw [eC_len, L3.out]) (fun h0 => by obtain ⟨b, e, hb⟩ := (recs_src R3).2 h0; exact ⟨b, e, fun j u hj => (HF.ext 1 rfl).cell (hb j u hj)⟩) (eC_one _) ?_ ?_ ?_; (simp only [maxLen]; omega); (omega); (clear HF; intro v3 w HF K hK; go_simp)))
    go_ret
    refine ⟨_, rfl, ?_⟩
    have e1 : OE v3 (woS l i g xs) = OwnRow 39 4 v3 (0 + i + xs.length + (l.length - (i + g))) ([] ++ eC (l.take i) ++ eC xs ++ eC (l.drop (i + g))) := by
      unfold OE
      rw [woS_len hig, Nat.zero_add, List.nil_append, ← eC_app, ← eC_app]
      rfl
    show At w0 (OE v3 (woS l i g xs) :: L) _
    rw [e1]
    exact HF.lift1 H0.out
end
end Bk
end Go.Proofs.Ytcofcikdknmggaa
