/-
  The last one that is decided: a range over a function.
-/
import Derived.Test.YtjobojgmadjmfaaMdBase3
import Derived.LoopIn
import Derived.OwnWalkIn
import Derived.Shelf.Abstract
namespace Go.Proofs.Ytjobojgmadjmfaa
open Go.Hp Go.RowKit
set_option linter.unusedVariables false
set_option linter.unusedSimpArgs false
attribute [local go_sem] Oper.semAt_some
namespace Md
theorem z86 : zeroT Try.prog 86 = some (.agg (.int .i64 0 :: .int .i64 0 :: .int .i64 0 :: .int .i64 0 :: .int .i64 0 :: (zc ++ [.bool false])).toArray) := by kernel_rfl

section
variable {w0 w : World} {L : List HProp}

theorem bw (v : Value) (H : At w0 L w) : Calls Try.prog 54 #[v] w (fun e w' => ∃ g, e = .returned (.func (.func 61) #[] #[.pointer (some ⟨g, 0, none⟩)]) ∧ At w0 (Blk g (.cells v.cells 47 (0, 0)) :: L) w') := by
  go_enter Try.func54, Try.ntmps54
  go_wp2_with (first | ((with_reducible refine k_box ?_); refine st_box rfl _ _ rfl _ rfl H ?_; (clear H; intro g w H K hK; go_simp)))
  go_ret
  exact ⟨g, rfl, H⟩

theorem results_cellp {P : Program} {fn : Func} {p : Tmp} {ty : TypeId} (h : fn.results = #[.cell p ty]) {tmps : Array Value} {w : World} {g : Nat} {t : TypeId} {cs : Array Value} {fr : Nat × Nat} {v : Value}
    (hp : tmps.getD p undef = .pointer (some ⟨g, 0, none⟩)) (hT : plainT P ty = true) (hg : w.heap[g]? = some (.cells cs t fr)) (hc : cs[0]? = some v) : (results fn tmps).run P w = .ok v w := by
  have hr := run_loadVar_cell (P := P) (off := 0) hT hg hc
  have hp' : tmps[p]?.getD undef = .pointer (some ⟨g, 0, none⟩) := by simpa using hp
  simp [results, h, hp', asAddr, hr]

def enc (x : Nat × Pl) : Array Value := #[.int .i64 x.1, .agg x.2.cells.toArray]

/-- What comes of a row from its end. -/
def bwL (row : List Pl) : List (Nat × Pl) := row.zipIdx.reverse.map Prod.swap

theorem bwL_len (row : List Pl) : (bwL row).length = row.length := by simp [bwL]

theorem bwL_get (row : List Pl) {k m : Nat} {p : Pl} (hk : m + 1 + k = row.length) (hp : row[m]? = some p) : (bwL row)[k]? = some (m, p) := by
  unfold bwL
  rw [List.getElem?_map, List.getElem?_reverse (by simp; omega), List.length_zipIdx, show row.length - 1 - k = m by omega, List.getElem?_zipIdx, hp]
  simp

theorem bwL_take (row : List Pl) {k m : Nat} {p : Pl} (hk : m + 1 + k = row.length) (hp : row[m]? = some p) : (bwL row).take k ++ [(m, p)] = (bwL row).take (k + 1) := by
  rw [List.take_add_one, bwL_get row hk hp]
  rfl

set_option maxRecDepth 100000 in
set_option maxHeartbeats 1000000 in
theorem bw_iter {row : List Pl} {v : Value} {g : Nat} {w0 : World} {I J Jx : List (Nat × Pl) → List HProp} (hI : ∀ pre w, At w0 (I pre) w → RecsAt w v 15 (row.map Pl.cells)) (hJ : ∀ pre, ∃ X, (J pre).Perm (X ++ I pre)) (hsz : row.length ≤ 140737488355328) :
    IterAt Try.prog 61 #[.pointer (some ⟨g, 0, none⟩)] enc w0 (fun _ => [Blk g (.cells #[v] 47 (0, 0))]) J Jx (fun xs => xs = bwL row) (fun pre => pre <+: bwL row) := by
  intro l W hY H
  have HR : ∀ pre w, At w0 ([Blk g (.cells #[v] 47 (0, 0))] ++ J pre) w → RecsAt w v 15 (row.map Pl.cells) := by
    intro pre w h
    obtain ⟨X, hX⟩ := hJ pre
    have h1 : At w0 (X ++ I pre) w := (At.drop h).perm hX
    have h2 : At w0 ([] ++ I pre) w := At.dropAll (S := []) X h1
    exact hI pre w h2
  have hv := HR [] W H
  obtain ⟨ad, cap, rfl, c1, c2, c3⟩ := hv.value
  rw [List.length_map] at c1 c3 HR H hY
  have HY := Lib.hid hY
  have HRh := Lib.hid HR
  clear hY HR hI hJ hv
  have hc0 : W.cell? ⟨g, 0, none⟩ = some (.slice ad row.length cap) := by
    rw [cell_of_row W g 0 _ _ _ (H.get 0 rfl)]; rfl
  refine calls_of_in (r := none) (n := 9) ?_
  refine callsIn_of_wp Try.func61 rfl trivial ?_ rfl
  simp only [Try.ntmps61, List.size_toArray, List.length_cons, List.length_nil, Nat.reduceAdd, Nat.reduceSub, Array.replicate_succ, Array.replicate_zero, List.push_toArray, List.append_toArray, List.nil_append, List.cons_append]
  gi_wp2
  gi_loopw [3] (fun i wr => ∃ k : Nat, k ≤ row.length ∧ i = .int .i64 (row.length - 1 - k) ∧ At w0 ([Blk g (.cells #[.slice ad row.length cap] 47 (0, 0))] ++ J ((bwL row).take k)) wr) (fun i _ => (intOf i + 1).toNat)
  case atStart => exact ⟨0, Nat.zero_le _, by simp, H⟩
  case round =>
    clear H hc0
    obtain ⟨k, hk, rfl, H⟩ := hrel
    by_cases hlt : k < row.length
    · obtain ⟨m, hm⟩ : ∃ m : Nat, m + 1 + k = row.length := ⟨row.length - 1 - k, by omega⟩
      have e1 : (row.length : Int) - 1 - k = m := by omega
      rw [e1]
      have hml : m < row.length := by omega
      obtain ⟨p, hp⟩ : ∃ p, row[m]? = some p := ⟨_, List.getElem?_eq_getElem hml⟩
      obtain ⟨b, rfl⟩ := c3 (by omega)
      have hv := HRh.out _ _ H
      have hlp := Lib.hid (show sizeT Try.prog 86 = some p.cells.length by rw [show p.cells.length = 15 from hv.2 _ (List.mem_map_of_mem (List.mem_of_getElem? hp))]; exact s86)
      have Hc := Lib.hid (recs_get hv hp)
      have Ht := Lib.hid (bwL_take row hm hp)
      have hc0 : wr.cell? ⟨g, 0, none⟩ = some (.slice (some b) row.length cap) := by
        rw [cell_of_row wr g 0 _ _ _ (H.get 0 rfl)]; rfl
      obtain ⟨fn, tmps, assign, body, hy, hR⟩ := HY.out ((bwL row).take k) (m, p) wr (by rw [Ht.out]; exact List.take_prefix _ _) H
      have gm : (m : Int) < row.length := by omega
      dsimp only [enc] at hy
      have Hm := Lib.hid hm
      clear e1 hp hv hm
      gi_wp2_with (first | ((refine in_step rfl ?_); (with_reducible refine k_load ?_); refine st_loadCells rfl _ _ rfl _ rfl a86 p.cells hlp.out Hc.out ?_; (intro K hK; go_simp; refine hK _ _ ?_; clear hK K; show wpListIn _ _ _ _ _ _ _ _)))
      refine (round_any hR).mono ?_
      rintro e W3 (⟨rfl, H3⟩ | ⟨rfl, H3⟩)
      · clear hc0 Hc hR hy H
        gi_wp2
        go_roundw
        case rel => exact ⟨k + 1, by omega, by have := Hm.out; simp; omega, by rw [← Ht.out]; exact H3⟩
        case measure => simp [intOf]
      · clear hc0 Hc hR hy H
        gi_wp2
        refine bodyPost_ret (results_none rfl _ _ _) rfl ?_
        exact ⟨⟨_, rfl⟩, .inr ⟨_, by rw [Ht.out]; exact List.take_prefix _ _, At.drop H3⟩⟩
    · have e1 : (row.length : Int) - 1 - k = -1 := by omega
      rw [e1]
      clear e1
      gi_wp2
      go_end0
      exact ⟨⟨_, rfl⟩, .inl ⟨_, rfl, by
        have e2 : (bwL row).take k = bwL row := List.take_of_length_le (by rw [bwL_len]; omega)
        rw [e2] at H
        exact At.drop H⟩⟩

theorem bwL_mem {row : List Pl} {x : Nat × Pl} (h : x ∈ bwL row) : x.2 ∈ row := by
  unfold bwL at h
  rw [List.mem_map] at h
  obtain ⟨y, hy, rfl⟩ := h
  rw [List.mem_reverse] at hy
  exact List.fst_mem_of_mem_zipIdx hy

theorem bwL_snd (row : List Pl) : (bwL row).map (·.2) = row.reverse := by
  unfold bwL
  rw [List.map_map, List.map_reverse]
  congr 1
  exact List.zipIdx_map_fst 0 row

theorem pl_dec {p : Pl} (hok : p.Ok) : p.cells.toArray[14]? = some (.bool p.dec) := by
  rw [List.getElem?_toArray]
  show (p.inst)[13]? = _
  unfold Pl.inst
  have hcl := hok.cmd.len
  have hpl := hok.pa.len
  rw [List.getElem?_append_right (by rw [hpl]; decide), hpl, List.getElem?_append_right (by rw [hcl]; decide), hcl]
  rfl

theorem pl_one {p : Pl} (hok : p.Ok) : ∀ v ∈ p.cells, v.oneCell' = true := by
  intro v hv
  unfold Pl.cells Pl.inst at hv
  simp only [List.mem_cons, List.mem_append, List.not_mem_nil, or_false] at hv
  rcases hv with rfl | hv | hv | rfl
  · rfl
  · exact hok.pa.one v hv
  · exact hok.cmd.one v hv
  · rfl

theorem pl_len {p : Pl} (hok : p.Ok) : p.cells.length = 15 := by
  unfold Pl.cells Pl.inst
  rw [List.length_cons, List.length_append, List.length_append, hok.pa.len, hok.cmd.len]
  rfl

theorem top_none {h : Hd} (hn : ∀ x ∈ bwL h.row, x.2.dec = false) : topS h = h.upto := by
  unfold topS
  have : h.row.reverse.find? (·.dec) = none := by
    rw [List.find?_eq_none]
    intro p hp
    rw [← bwL_snd, List.mem_map] at hp
    obtain ⟨x, hx, rfl⟩ := hp
    simp [hn x hx]
  rw [this]

theorem top_some {h : Hd} {q : List (Nat × Pl)} {x : Nat × Pl} (hp : q ++ [x] <+: bwL h.row) (hq : ∀ y ∈ q, y.2.dec = false) (hx : x.2.dec = true) : topS h = x.2.n := by
  unfold topS
  obtain ⟨t, ht⟩ := hp
  have : h.row.reverse.find? (·.dec) = some x.2 := by
    rw [← bwL_snd, ← ht, List.map_append, List.map_append, List.append_assoc, List.find?_append]
    have h1 : (q.map (·.2)).find? (·.dec) = none := by
      rw [List.find?_eq_none]
      intro p hp
      rw [List.mem_map] at hp
      obtain ⟨y, hy, rfl⟩ := hp
      simp [hq y hy]
    rw [h1]
    simp [hx]
  rw [this]

set_option maxRecDepth 100000 in
set_option maxHeartbeats 1000000 in
theorem top {h : Hd} {vd ve vl vr : Value} (hok : h.Ok) (hsz : h.row.length ≤ 140737488355328) (hv : RecsAt w vr 15 (h.row.map Pl.cells)) (H : At w0 L w) :
    Calls Try.prog 50 #[.agg (hdV h vd ve vl vr)] w (fun e w' => e = .returned (.int .i64 (topS h)) ∧ Ext w w' ∧ At w0 L w') := by
  have HF := At.of w
  have H0 := Lib.hid H
  have Hv := Lib.hid hv
  clear hv H
  refine calls_of_marks Try.func50 rfl ?_
  simp only [Try.ntmps50, List.size_toArray, List.length_cons, List.length_nil, Nat.reduceAdd, Nat.reduceSub, Array.replicate_succ, Array.replicate_zero, List.push_toArray, List.append_toArray, List.nil_append, List.cons_append]
  gi_wp2_with (first | ((refine in_step rfl ?_); (with_reducible refine k_box ?_); refine st_box rfl _ _ rfl _ rfl HF ?_; (clear HF; intro g1 w1 HF K hK; go_simp; refine hK _ _ ?_; clear hK K; show wpListIn _ _ _ _ _ _ _ _))      | ((refine in_step rfl ?_); (with_reducible refine k_alloc ?_); refine st_alloc rfl _ rfl (.int .i64 0) ?_ #[.int .i64 0] rfl HF ?_; (kernel_rfl); (clear HF; intro g2 w2 HF K hK; go_simp; refine hK _ _ ?_; clear hK K; show wpListIn _ _ _ _ _ _ _ _))      | ((refine in_step rfl ?_); (with_reducible refine k_load ?_); refine st_load rfl _ _ rfl _ _ rfl ?_ HF 1 rfl (v := vr) rfl ?_; (kernel_rfl); (intro K hK; go_simp; refine hK _ _ ?_; clear hK K; show wpListIn _ _ _ _ _ _ _ _)))
  replace HF : At w [Blk g2 (.cells #[.int .i64 0] 3 (0, 0)), HdBlk g1 h vd ve vl vr, Arg w] w2 := HF
  refine ⟨trivial, (calls_in (bw vr HF)).mono ?_⟩
  rintro e w3 ⟨g3, rfl, HF⟩
  have hvc : vr.cells = #[vr] := by
    obtain ⟨ad, cap, e, _⟩ := Hv.out.value
    rw [e]; rfl
  rw [hvc] at HF
  clear hvc
  gi_wp2
  refine wp_rangeFunc_at (w0 := w) (gf := 61) (lb := #[.pointer (some ⟨g3, 0, none⟩)]) rfl (enters_of Try.func61 (by kernel_rfl) rfl) (encs := enc) (fun _ => rfl)
    (fun _ => [Blk g3 (.cells #[vr] 47 (0, 0))]) (fun pre => [pur (∀ x ∈ pre, x.2.dec = false), Blk g2 (.cells #[.int .i64 0] 3 (0, 0)), HdBlk g1 h vd ve vl vr, Arg w])
    (fun c pre => [fun hp => ∃ q x, (pre = q ++ [x] ∧ (∀ y ∈ q, y.2.dec = false) ∧ x.2.dec = true ∧ c = .ret) ∧ Blk g2 (.cells #[.int .i64 x.2.n] 3 (0, 0)) hp, HdBlk g1 h vd ve vl vr, Arg w])
    (fun xs => xs = bwL h.row) (fun pre => pre <+: bwL h.row) ?start (fun J Jx hJ => bw_iter (fun pre w' hw => Hv.out.ext (hw.ext 3 rfl)) hJ hsz)
    (fun x a' => [fun hp => ∃ gp, a' = { tmps := #[.agg (hdV h vd ve vl vr), .pointer (some ⟨g1, 0, none⟩), .pointer (some ⟨g2, 0, none⟩), undef, .pointer (some ⟨gp, 0, none⟩), .pointer (some ⟨g1, 6, none⟩), vr, .func (.func 61) #[] #[.pointer (some ⟨g3, 0, none⟩)], .int .i64 x.1, .agg x.2.cells.toArray, undef, undef, undef, undef, undef, undef, undef, undef], defers := [] } ∧ Blk gp (.cells x.2.cells.toArray 86 (0, 0)) hp])
    ?assign ?body ?done ?stop
  case start => exact (At.pure (fun _ h => by cases h) HF).sel 2 [1, 0]
  case assign =>
    intro l D r pre x W K hsp HA hK
    dsimp only [enc]
    have hpok := hok.row x.2 (bwL_mem (hsp.subset (by simp)))
    have H15 := Lib.hid (pl_len hpok)
    have Hon := Lib.hid (pl_one hpok)
    gi_wp2_with (first | ((refine in_step rfl ?_); (with_reducible refine k_alloc ?_); refine st_alloc rfl _ rfl _ z86 _ rfl HA ?_; (clear HA; intro gp W2 HA K hK; go_simp; refine hK _ _ ?_; clear hK K; show wpListIn _ _ _ _ _ _ _ _))        | ((refine in_step rfl ?_); (with_reducible refine k_store ?_); refine st_put rfl _ _ _ rfl _ rfl _ rfl ?_ ?_ HA 0 rfl ?_ ?_; (exact Hon.out); (rw [List.size_toArray, H15.out]; exact s86); (rw [List.size_toArray, H15.out]; rfl); (clear HA; intro W3 HA K hK; go_simp; refine hK _ _ ?_; clear hK K; show wpListIn _ _ _ _ _ _ _ _)))
    exact At.imp HA fun _ hh => ⟨gp, rfl, hh⟩
  case body =>
    rintro l D r pre x a' W hsp HA
    obtain ⟨gp, HA1⟩ := At.ex HA
    clear HA
    obtain ⟨ha, HA⟩ := At.and HA1
    clear HA1
    subst ha
    have hpok := hok.row x.2 (bwL_mem (hsp.subset (by simp)))
    have Hdc := Lib.hid (pl_dec hpok)
    obtain ⟨hpre, HA⟩ := At.unpure (HA.pick 4 rfl)
    replace HA : At w (Blk gp (.cells x.2.cells.toArray 86 (0, 0)) :: Blk g2 (.cells #[.int .i64 0] 3 (0, 0)) :: Blk l (.loop r) :: Blk D (.deferred (some [])) :: Blk g3 (.cells #[vr] 47 (0, 0)) :: HdBlk g1 h vd ve vl vr :: Arg w :: []) W := HA.sel 7 [0, 4, 1, 2, 3, 5, 6]
    have Hpre := Lib.hid hpre
    clear hpre
    cases hxd : x.2.dec with
    | true =>
      rw [hxd] at Hdc
      have Hxd := Lib.hid hxd
      clear hxd
      gi_wp2_with (first | ((refine in_step rfl ?_); (with_reducible refine k_load ?_); refine st_load rfl _ _ rfl _ _ rfl ?_ HA 0 rfl Hdc.out ?_; (kernel_rfl); (intro K hK; go_simp; refine hK _ _ ?_; clear hK K; show wpListIn _ _ _ _ _ _ _ _))          | ((refine in_step rfl ?_); (with_reducible refine k_load ?_); refine st_load rfl _ _ rfl _ _ rfl ?_ HA 0 rfl (v := .int .i64 x.2.n) rfl ?_; (kernel_rfl); (intro K hK; go_simp; refine hK _ _ ?_; clear hK K; show wpListIn _ _ _ _ _ _ _ _))          | ((refine in_step rfl ?_); (with_reducible refine k_store ?_); refine st_store rfl _ _ _ rfl _ _ rfl _ rfl rfl ?_ HA 1 rfl ?_ ?_; (kernel_rfl); (simp); (clear HA; intro W3 HA K hK; simp only [List.set_cons_zero, List.set_cons_succ, List.setIfInBounds_toArray, Act.eval, Value.cells, Array.getD_eq_getD_getElem?, List.getElem?_toArray, List.getElem?_cons_succ, List.getElem?_cons_zero, Option.getD_some] at HA; go_simp; refine hK _ _ ?_; clear hK K; show wpListIn _ _ _ _ _ _ _ _)))
      exact (At.imp (HA.sel 7 [1, 2, 3, 4, 5, 6]) fun _ hh => (⟨pre, x, ⟨rfl, Hpre.out, Hxd.out, rfl⟩, hh⟩ : ∃ q x', (pre ++ [x] = q ++ [x'] ∧ (∀ y ∈ q, y.2.dec = false) ∧ x'.2.dec = true ∧ Code.ret = .ret) ∧ Blk g2 (.cells #[.int .i64 x'.2.n] 3 (0, 0)) _)).sel 4 [1, 2, 3, 0]
    | false =>
      rw [hxd] at Hdc
      have Hxd := Lib.hid hxd
      clear hxd
      gi_wp2_with (first | ((refine in_step rfl ?_); (with_reducible refine k_load ?_); refine st_load rfl _ _ rfl _ _ rfl ?_ HA 0 rfl Hdc.out ?_; (kernel_rfl); (intro K hK; go_simp; refine hK _ _ ?_; clear hK K; show wpListIn _ _ _ _ _ _ _ _)))
      exact ((At.pure (p := ∀ y ∈ pre ++ [x], y.2.dec = false) (by
        intro y hy
        rcases List.mem_append.1 hy with h | h
        · exact Hpre.out y h
        · rw [List.mem_singleton.1 h]; exact Hxd.out) HA).sel 8 [3, 4, 5, 0, 2, 6, 7])
  case done =>
    rintro D xs W rfl HA
    obtain ⟨hall, HA⟩ := At.unpure (HA.pick 1 rfl)
    replace HA : At w (Blk D (.deferred (some [])) :: Blk g2 (.cells #[.int .i64 0] 3 (0, 0)) :: HdBlk g1 h vd ve vl vr :: Arg w :: []) W := HA
    have Ht := Lib.hid (top_none hall)
    clear hall
    gi_wp2_with (first | ((refine in_step rfl ?_); (with_reducible refine k_load ?_); refine st_load rfl _ _ rfl _ _ rfl ?_ HA 2 rfl (v := .int .i64 h.upto) rfl ?_; (kernel_rfl); (intro K hK; go_simp; refine hK _ _ ?_; clear hK K; show wpListIn _ _ _ _ _ _ _ _))          | ((refine in_step rfl ?_); (with_reducible refine k_store ?_); refine st_store rfl _ _ _ rfl _ _ rfl _ rfl rfl ?_ HA 1 rfl ?_ ?_; (kernel_rfl); (simp); (clear HA; intro W3 HA K hK; simp only [List.set_cons_zero, List.set_cons_succ, List.setIfInBounds_toArray, Act.eval, Value.cells, Array.getD_eq_getD_getElem?, List.getElem?_toArray, List.getElem?_cons_succ, List.getElem?_cons_zero, Option.getD_some] at HA; go_simp; refine hK _ _ ?_; clear hK K; show wpListIn _ _ _ _ _ _ _ _)))
    refine ⟨by simp, .inl ⟨_, _, rfl, run_takeDeferred HA.get0, ?_⟩⟩
    have HB := (At.putObj0 (o' := .deferred none) HA).drop
    exact ⟨_, results_cellp rfl rfl (by kernel_rfl) (HB.get 0 rfl) rfl, by rw [Ht.out]; rfl, HB.ext 2 rfl, (HB.sel 3 [2]).lift0 H0.out⟩
  case stop =>
    rintro D c pre W hsp HA1
    obtain ⟨q, HA2⟩ := At.ex (HA1.pick 1 rfl)
    obtain ⟨x, HA3⟩ := At.ex HA2
    obtain ⟨⟨hq1, hq2, hq3, hq4⟩, HA⟩ := At.and HA3
    clear HA1 HA2 HA3
    subst hq4
    rw [hq1] at hsp
    have Ht := Lib.hid (top_some hsp hq2 hq3)
    replace HA : At w (Blk D (.deferred (some [])) :: Blk g2 (.cells #[.int .i64 x.2.n] 3 (0, 0)) :: HdBlk g1 h vd ve vl vr :: Arg w :: []) W := HA.sel 4 [1, 0, 2, 3]
    gi_wp2
    refine ⟨by simp, .inl ⟨_, _, rfl, run_takeDeferred HA.get0, ?_⟩⟩
    have HB := (At.putObj0 (o' := .deferred none) HA).drop
    exact ⟨_, results_cellp rfl rfl (by kernel_rfl) (HB.get 0 rfl) rfl, by rw [Ht.out]; rfl, HB.ext 2 rfl, (HB.sel 3 [2]).lift0 H0.out⟩
end
end Md
end Go.Proofs.Ytjobojgmadjmfaa
