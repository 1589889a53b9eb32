/-
  The statements' own question: the entry of a name, a client's Last, the names that begin so: the program's and the document's answers are the same.
-/
import Derived.Test.YtcofcikdknmggaaBkAskP
namespace Go.Proofs.Ytcofcikdknmggaa
open Go.Hp Go.RowKit
set_option linter.unusedVariables false
set_option linter.unusedSimpArgs false
set_option maxRecDepth 100000
set_option maxHeartbeats 2000000
attribute [local go_sem] Oper.semAt_some
namespace Bk

/-- A list that is being made in a variable. -/
def LstAt (g : Nat) (l : List En) : HProp := fun hp => ∃ va, Stars [Blk g (.cells #[va] 22 (0, 0)), OE va l] hp
section
variable {w0 w : World} {L : List HProp}
theorem lst_mk {g : Nat} {l : List En} {va : Value} (H : At w0 (Blk g (.cells #[va] 22 (0, 0)) :: OE va l :: L) w) : At w0 (LstAt g l :: L) w :=
  At.imp (At.fold (M := [_, _]) H) fun _ hh => ⟨va, hh⟩
theorem lst_open {g : Nat} {l : List En} (H : At w0 (LstAt g l :: L) w) : ∃ ad n cap, At w0 (Blk g (.cells #[.slice ad n cap] 22 (0, 0)) :: OE (.slice ad n cap) l :: L) w := by
  obtain ⟨va, H1⟩ := At.ex H
  have H2 := At.flat H1
  obtain ⟨ad, cap, hv, _⟩ := own_value (H2.pick 1 rfl)
  subst hv
  exact ⟨ad, _, cap, H2⟩

theorem asked {ve vl : Value} {b : Bu} {s : ByteArray} {c : Int} (hr : Rise b.es) (hrl : RiseL b.ls) (he : RecsAt w ve 4 (b.es.map En.cells)) (hl : RecsAt w vl 7 (b.ls.map La.cells)) (be : (b.es.length + 1) * 40 ≤ 140737488355328) (bl : (b.ls.length + 1) * 56 ≤ 140737488355328) (H : At w0 L w) :
    Calls Try.prog 14 #[.agg #[.int .i64 b.u, ve, vl], .string s, .int .i64 c] w (fun e w' => e = .returned (.bool true) ∧ At w0 L w') := by
  obtain ⟨W, rfl⟩ : ∃ W : World, W = w := ⟨_, rfl⟩
  have HF := At.of W
  have H0 := Lib.hid H
  have R := Lib.hid he
  have RL := Lib.hid hl
  obtain ⟨u, es, ls⟩ := b
  dsimp only at *
  obtain ⟨⟨⟨qn, qf, qo, qs⟩, qb⟩, hq⟩ : ∃ q, findS es s = q := ⟨_, rfl⟩
  obtain ⟨⟨⟨ka, kb, kc, kd, ke, kf, kg⟩, kz⟩, hk⟩ : ∃ q, lastF ls c = q := ⟨_, rfl⟩
  have HQ := Lib.hid hq
  have HQ2 := Lib.hid ((find_eq hr s).symm.trans hq)
  have HK := Lib.hid hk
  have HK2 := Lib.hid ((last_eq hrl c).symm.trans hk)
  have HN := Lib.hid (names_eq hr s)
  clear H he hl hr hrl hq hk
  have b1 : es.length ≤ 140737488355328 := by omega
  have b2 : ls.length ≤ 140737488355328 := by omega
  refine calls_of_marks Try.func14 rfl ?_
  simp only [Try.ntmps14, List.size_toArray, List.length_cons, List.length_nil, Nat.reduceAdd, Nat.reduceSub, Array.replicate_succ, Array.replicate_zero, List.push_toArray, List.append_toArray, List.nil_append, List.cons_append]
  gi_wp2_with (first | ((refine in_step rfl ?_); (with_reducible refine k_box ?_); refine st_box rfl _ _ rfl _ rfl HF ?_; (clear HF; intro g3 w1 HF K hK; simp only [Value.cells, Act.eval, Value.cells, Array.getD_eq_getD_getElem?, List.getElem?_toArray, List.getElem?_cons_succ, List.getElem?_cons_zero, Option.getD_some] at HF; go_simp; refine hK _ _ ?_; clear hK K; show wpListIn _ _ _ _ _ _ _ _))      | ((refine in_step rfl ?_); (with_reducible refine k_load (T := 25) ?_); refine st_row rfl _ _ rfl _ rfl a25 3 s25 HF 0 rfl rfl ?_; (intro K hK; go_simp; refine hK _ _ ?_; clear hK K; show wpListIn _ _ _ _ _ _ _ _)))
  refine ⟨trivial, (calls_in (Lend (b := ⟨u, es, ls⟩) (R.out.ext (HF.ext 1 rfl)) (RL.out.ext (HF.ext 1 rfl)) be bl HF)).mono ?_⟩
  rintro e w2 ⟨ge, gl, rfl, HX⟩
  clear HF
  have HF := HX
  clear HX
  dsimp only at HF
  gi_wp2_with (first | ((refine in_step rfl ?_); (with_reducible refine k_alloc ?_); refine st_alloc rfl _ rfl _ z25 _ rfl HF ?_; (clear HF; intro g7 w2 HF K hK; simp only [Value.cells] at HF; go_simp; refine hK _ _ ?_; clear hK K; show wpListIn _ _ _ _ _ _ _ _))      | ((refine in_step rfl ?_); (with_reducible refine k_store ?_); refine st_put rfl _ _ _ rfl _ rfl _ rfl ?_ s25 HF 0 rfl rfl ?_; (simp [Value.oneCell']); (clear HF; intro W3 HF K hK; simp only [List.set_cons_zero, List.set_cons_succ] at HF; go_simp; refine hK _ _ ?_; clear hK K; show wpListIn _ _ _ _ _ _ _ _))      | ((refine in_step rfl ?_); (with_reducible refine k_load (T := 25) ?_); refine st_row rfl _ _ rfl _ rfl a25 3 s25 HF 0 rfl rfl ?_; (intro K hK; go_simp; refine hK _ _ ?_; clear hK K; show wpListIn _ _ _ _ _ _ _ _)))
  refine ⟨trivial, (calls_in (find (lent_e (by omega) (HF.pick 1 rfl)) b1 HF)).mono ?_⟩
  rw [HQ.out]
  dsimp only [En.cells]
  rintro e w3 ⟨rfl, HX⟩
  clear HF
  have HF := HX
  clear HX
  gi_wp2_with (first | ((refine in_step rfl ?_); (with_reducible refine k_alloc ?_); refine st_alloc rfl _ rfl _ z39 _ rfl HF ?_; (clear HF; intro g8 w2 HF K hK; simp only [Value.cells] at HF; go_simp; refine hK _ _ ?_; clear hK K; show wpListIn _ _ _ _ _ _ _ _))      | ((refine in_step rfl ?_); (with_reducible refine k_store ?_); refine st_put rfl _ _ _ rfl _ rfl _ rfl ?_ s39 HF 0 rfl rfl ?_; (simp [Value.oneCell']); (clear HF; intro W3 HF K hK; simp only [List.set_cons_zero, List.set_cons_succ] at HF; go_simp; refine hK _ _ ?_; clear hK K; show wpListIn _ _ _ _ _ _ _ _))      | ((refine in_step rfl ?_); (with_reducible refine k_load (T := 25) ?_); refine st_row rfl _ _ rfl _ rfl a25 3 s25 HF 1 rfl rfl ?_; (intro K hK; go_simp; refine hK _ _ ?_; clear hK K; show wpListIn _ _ _ _ _ _ _ _)))
  refine ⟨trivial, (calls_in (lastP (lent_l (by omega) (HF.pick 3 rfl)) b2 HF)).mono ?_⟩
  rw [HK.out]
  dsimp only [La.cells]
  rintro e w4 ⟨rfl, HX⟩
  clear HF
  have HF := HX
  clear HX
  gi_wp2_with (first | ((refine in_step rfl ?_); (with_reducible refine k_alloc ?_); refine st_alloc rfl _ rfl _ z53 _ rfl HF ?_; (clear HF; intro g10 w2 HF K hK; simp only [Value.cells] at HF; go_simp; refine hK _ _ ?_; clear hK K; show wpListIn _ _ _ _ _ _ _ _))      | ((refine in_step rfl ?_); (with_reducible refine k_store ?_); refine st_put rfl _ _ _ rfl _ rfl _ rfl ?_ s53 HF 0 rfl rfl ?_; (simp [Value.oneCell']); (clear HF; intro W3 HF K hK; simp only [List.set_cons_zero, List.set_cons_succ] at HF; go_simp; refine hK _ _ ?_; clear hK K; show wpListIn _ _ _ _ _ _ _ _))      | ((refine in_step rfl ?_); (with_reducible refine k_load (T := 25) ?_); refine st_row rfl _ _ rfl _ rfl a25 3 s25 HF 2 rfl rfl ?_; (intro K hK; go_simp; refine hK _ _ ?_; clear hK K; show wpListIn _ _ _ _ _ _ _ _)))
  refine ⟨trivial, (calls_in (names (lent_e (by omega) (HF.pick 3 rfl)) (by omega) HF)).mono ?_⟩
  rintro e w5 ⟨gn7, gn3, v', rfl, HX⟩
  clear HF
  have HF := HX
  clear HX
  have hnf : ∀ w : World, (binOp .eql 78 (.func (.func 46) #[] #[.pointer (some ⟨gn7, 0, none⟩), .pointer (some ⟨gn3, 0, none⟩)]) .nilFunc).run Try.prog w = .ok (.bool false) w := fun w => rfl
  gi_wp2_with ((refine in_step rfl ?_); (with_reducible refine k_alloc ?_); refine st_alloc rfl _ rfl (.slice none 0 0) ?_ #[.slice none 0 0] rfl HF ?_; (kernel_rfl); (clear HF; intro g13 w2 HF K hK; go_simp; refine hK _ _ ?_; clear hK K; show wpListIn _ _ _ _ _ _ _ _))
  have hdl : (es.drop (plI es s)).length ≤ es.length := by rw [List.length_drop]; omega
  replace HF : At W (Blk g13 (.cells #[.slice none 0 0] 22 (0, 0)) :: Blk gn7 (.cells #[v'] 22 (0, 0)) :: Blk gn3 (.cells #[.string s] 9 (0, 0)) :: OE v' (es.drop (plI es s)) :: Blk g10 (.cells #[.int .i64 ka, .int .i64 kb, .int .i64 kc, .int .i64 kd, .int .i64 ke, .int .i64 kf, .int .i64 kg] 53 (0, 0)) :: Blk g8 (.cells #[.string qn, .int .i64 qf, .int .i64 qo, .int .i64 qs] 39 (0, 0)) :: Blk g7 (.cells #[.int .i64 u, .slice (some ⟨ge, 0, none⟩) es.length (es.length + 1), .slice (some ⟨gl, 0, none⟩) ls.length (ls.length + 1)] 25 (0, 0)) :: Blk ge (.cells (eC es ++ mkE).toArray 39 (0, 0)) :: Blk gl (.cells (lC ls ++ mkL).toArray 53 (0, 0)) :: Blk g3 (.cells #[.int .i64 u, ve, vl] 25 (0, 0)) :: Arg W :: []) _ := HF
  refine range_at1 (w0 := W) (gf := 46) (lb := #[.pointer (some ⟨gn7, 0, none⟩), .pointer (some ⟨gn3, 0, none⟩)]) rfl (enters_of Try.func46 (by kernel_rfl) rfl) (encs := encE) (fun _ => rfl)
    (fun _ => [Blk gn7 (.cells #[v'] 22 (0, 0)), Blk gn3 (.cells #[.string s] 9 (0, 0)), OE v' (es.drop (plI es s))])
    (fun pre => LstAt g13 pre :: Blk g10 (.cells #[.int .i64 ka, .int .i64 kb, .int .i64 kc, .int .i64 kd, .int .i64 ke, .int .i64 kf, .int .i64 kg] 53 (0, 0)) :: Blk g8 (.cells #[.string qn, .int .i64 qf, .int .i64 qo, .int .i64 qs] 39 (0, 0)) :: Blk g7 (.cells #[.int .i64 u, .slice (some ⟨ge, 0, none⟩) es.length (es.length + 1), .slice (some ⟨gl, 0, none⟩) ls.length (ls.length + 1)] 25 (0, 0)) :: Blk ge (.cells (eC es ++ mkE).toArray 39 (0, 0)) :: Blk gl (.cells (lC ls ++ mkL).toArray 53 (0, 0)) :: Blk g3 (.cells #[.int .i64 u, ve, vl] 25 (0, 0)) :: Arg W :: [])
    (fun c pre => [pur False]) (fun xs => xs = namesS es s) (fun pre => pre <+: namesS es s) ?start (fun J Jx hJ => nm_iter (by omega)) ?Fr (fun gp x => Blk gp (.cells x.cells.toArray 39 (0, 0))) ?assign ?body ?done ?stop
  case start =>
    have H1 := HF.sel 11 [0, 1, 2, 3, 4, 5, 6, 7, 8, 9, 10]
    have HN : At W (OE (.slice none 0 0) [] :: _) _ := own_nil H1 39 4
    have H2 := lst_mk (HN.sel 12 [1, 0, 2, 3, 4, 5, 6, 7, 8, 9, 10, 11])
    exact H2.sel 11 [1, 2, 3, 0, 4, 5, 6, 7, 8, 9, 10]
  case assign =>
    intro l D r pre x W2 K hsp HA hK
    dsimp only [encE]
    have Hx1 := Lib.hid (ee_one x)
    gi_wp2_with (first | ((refine in_step rfl ?_); (with_reducible refine k_alloc ?_); refine st_alloc rfl _ rfl _ z39 _ rfl HA ?_; (clear HA; intro gp W2 HA K hK; simp only [Value.cells] at HA; go_simp; refine hK _ _ ?_; clear hK K; show wpListIn _ _ _ _ _ _ _ _))        | ((refine in_step rfl ?_); (with_reducible refine k_store ?_); refine st_put rfl _ _ _ rfl _ rfl _ rfl ?_ ?_ HA 0 rfl ?_ ?_; (exact Hx1.out); (exact s39); (rfl); (clear HA; intro W3 HA K hK; simp only [List.set_cons_zero] at HA; go_simp; refine hK _ _ ?_; clear hK K; show wpListIn _ _ _ _ _ _ _ _)))
    exact hK _ _ HA
  case body =>
    rintro l D r pre x gp W2 hsp HA
    have hlen := Lib.hid (show pre.length + 1 ≤ es.length by
      have h1 := hsp.length_le
      have h2 := (List.takeWhile_sublist (hpE s) (l := es.drop (plI es s))).length_le
      rw [List.length_append] at h1
      simp only [List.length_cons, List.length_nil, namesS] at h1
      omega)
    obtain ⟨ad, n, cap, HB⟩ := lst_open (HA.pick 6 rfl)
    clear HA
    replace HB : At W (OE (.slice ad n cap) pre :: Blk g13 (.cells #[.slice ad n cap] 22 (0, 0)) :: Blk gp (.cells x.cells.toArray 39 (0, 0)) :: Blk l (.loop r) :: Blk D (.deferred (some [])) :: Blk gn7 (.cells #[v'] 22 (0, 0)) :: Blk gn3 (.cells #[.string s] 9 (0, 0)) :: OE v' (es.drop (plI es s)) :: Blk g10 (.cells #[.int .i64 ka, .int .i64 kb, .int .i64 kc, .int .i64 kd, .int .i64 ke, .int .i64 kf, .int .i64 kg] 53 (0, 0)) :: Blk g8 (.cells #[.string qn, .int .i64 qf, .int .i64 qo, .int .i64 qs] 39 (0, 0)) :: Blk g7 (.cells #[.int .i64 u, .slice (some ⟨ge, 0, none⟩) es.length (es.length + 1), .slice (some ⟨gl, 0, none⟩) ls.length (ls.length + 1)] 25 (0, 0)) :: Blk ge (.cells (eC es ++ mkE).toArray 39 (0, 0)) :: Blk gl (.cells (lC ls ++ mkL).toArray 53 (0, 0)) :: Blk g3 (.cells #[.int .i64 u, ve, vl] 25 (0, 0)) :: Arg W :: []) W2 := HB.sel 15 [1, 0, 2, 3, 4, 5, 6, 7, 8, 9, 10, 11, 12, 13, 14]
    gi_wp2_with (first | ((refine in_step rfl ?_); (with_reducible refine k_load (T := 22) ?_); refine st_load rfl _ _ rfl _ _ rfl ?_ HB 1 rfl (v := .slice ad n cap) rfl ?_; (kernel_rfl); (intro K hK; go_simp; refine hK _ _ ?_; clear hK K; show wpListIn _ _ _ _ _ _ _ _))        | ((refine in_step rfl ?_); (with_reducible refine k_load (T := 39) ?_); refine st_row rfl _ _ rfl _ rfl a39 4 s39 HB 2 rfl rfl ?_; (intro K hK; go_simp; refine hK _ _ ?_; clear hK K; show wpListIn _ _ _ _ _ _ _ _))        | ((refine in_step rfl ?_); (with_reducible refine k_lit ?_); refine st_lit1 rfl _ _ rfl x.cells.toArray rfl 39 Try.underlying22 4 s39 _ z39 rfl rfl (by decide) (by decide) HB ?_; (clear HB; intro gq W1 HB K hK; go_simp; refine hK _ _ ?_; clear hK K; show wpListIn _ _ _ _ _ _ _ _))        | ((refine in_step rfl ?_); (with_reducible refine k_builtin ?_); refine st_append rfl _ _ _ rfl 39 Try.underlying22 4 s39 40 bytes39 _ z39 rfl (.slice ad n cap) pre.length (eC pre) rfl (HB.sel 2 [1, 0]) (some ⟨gq, 0, none⟩) 1 1 x.cells rfl rfl (fun _ => ⟨_, rfl, cells_of (HB.get 0 rfl)⟩) (ee_one x) ?_ ?_ ?_; (have := hlen.out; simp only [maxLen]; omega); (have := hlen.out; omega); (clear HB; intro v2 W2 HB K hK; obtain ⟨ad2, n2, cap2, rfl⟩ := own_form HB; go_simp; refine hK _ _ ?_; clear hK K; show wpListIn _ _ _ _ _ _ _ _))        | ((refine in_step rfl ?_); (with_reducible refine k_store ?_); refine st_store rfl _ _ _ rfl _ _ rfl _ rfl rfl ?_ HB 2 rfl ?_ ?_; (kernel_rfl); (simp); (clear HB; intro W3 HB K hK; simp only [List.set_cons_zero, List.set_cons_succ, List.setIfInBounds_toArray, Act.eval, Value.cells, Array.getD_eq_getD_getElem?, List.getElem?_toArray, List.getElem?_cons_succ, List.getElem?_cons_zero, Option.getD_some] at HB; go_simp; refine hK _ _ ?_; clear hK K; show wpListIn _ _ _ _ _ _ _ _)))
    replace HB : At W (OwnRow 39 4 (.slice ad2 n2 cap2) (pre.length + 1) (eC pre ++ x.cells) :: Blk gq (.cells x.cells.toArray 39 (0, 0)) :: Blk g13 (.cells #[.slice ad2 n2 cap2] 22 (0, 0)) :: Blk gp (.cells x.cells.toArray 39 (0, 0)) :: Blk l (.loop r) :: Blk D (.deferred (some [])) :: Blk gn7 (.cells #[v'] 22 (0, 0)) :: Blk gn3 (.cells #[.string s] 9 (0, 0)) :: OE v' (es.drop (plI es s)) :: Blk g10 (.cells #[.int .i64 ka, .int .i64 kb, .int .i64 kc, .int .i64 kd, .int .i64 ke, .int .i64 kf, .int .i64 kg] 53 (0, 0)) :: Blk g8 (.cells #[.string qn, .int .i64 qf, .int .i64 qo, .int .i64 qs] 39 (0, 0)) :: Blk g7 (.cells #[.int .i64 u, .slice (some ⟨ge, 0, none⟩) es.length (es.length + 1), .slice (some ⟨gl, 0, none⟩) ls.length (ls.length + 1)] 25 (0, 0)) :: Blk ge (.cells (eC es ++ mkE).toArray 39 (0, 0)) :: Blk gl (.cells (lC ls ++ mkL).toArray 53 (0, 0)) :: Blk g3 (.cells #[.int .i64 u, ve, vl] 25 (0, 0)) :: Arg W :: []) W3 := HB
    have HC := lst_mk ((oe_snoc HB).sel 16 [2, 0, 4, 5, 6, 7, 8, 9, 10, 11, 12, 13, 14, 15])
    exact HC.sel 13 [1, 2, 3, 4, 5, 0, 6, 7, 8, 9, 10, 11, 12]
  case done =>
    rintro D xs W2 rfl HA
    obtain ⟨ad, n, cap, HB⟩ := lst_open (HA.pick 1 rfl)
    clear HA HF
    have HF : At W (Blk ge (.cells (eC es ++ mkE).toArray 39 (0, 0)) :: Blk gl (.cells (lC ls ++ mkL).toArray 53 (0, 0)) :: Blk g13 (.cells #[.slice ad n cap] 22 (0, 0)) :: OE (.slice ad n cap) (namesS es s) :: Blk D (.deferred (some [])) :: Blk g10 (.cells #[.int .i64 ka, .int .i64 kb, .int .i64 kc, .int .i64 kd, .int .i64 ke, .int .i64 kf, .int .i64 kg] 53 (0, 0)) :: Blk g8 (.cells #[.string qn, .int .i64 qf, .int .i64 qo, .int .i64 qs] 39 (0, 0)) :: Blk g7 (.cells #[.int .i64 u, .slice (some ⟨ge, 0, none⟩) es.length (es.length + 1), .slice (some ⟨gl, 0, none⟩) ls.length (ls.length + 1)] 25 (0, 0)) :: Blk g3 (.cells #[.int .i64 u, ve, vl] 25 (0, 0)) :: Arg W :: []) W2 := HB.sel 10 [6, 7, 0, 1, 2, 3, 4, 5, 8, 9]
    clear HB
    rename_i K0 hK0
    refine hK0 _ _ ?_
    clear hK0 K0
    refine wpIn_wide.2 ?_
    go_wp2_with (first | ((with_reducible refine k_load (T := 25) ?_); (first | refine st_row rfl _ _ rfl _ rfl a25 3 s25 HF 7 rfl rfl ?_ | refine st_row rfl _ _ rfl _ rfl a25 3 s25 HF 8 rfl rfl ?_); (intro K hK; go_simp)) | ((with_reducible refine k_load (T := 25) ?_); (first | refine st_loads rfl _ _ rfl _ _ rfl a25 3 s25 HF 7 rfl ?_ ?_ | refine st_loads rfl _ _ rfl _ _ rfl a25 3 s25 HF 8 rfl ?_ ?_); (simp); (intro K hK; go_simp)))
    refine (Back (b := ⟨u, es, ls⟩) (i := 7) rfl R.out RL.out be bl HF).mono ?_
    rintro e w6 ⟨rfl, HX⟩
    clear HF
    have HF := HX
    clear HX
    go_wp2_with (first | ((with_reducible refine k_load (T := 25) ?_); refine st_row rfl _ _ rfl _ rfl a25 3 s25 HF 6 rfl rfl ?_; (intro K hK; go_simp)) | ((with_reducible refine k_load (T := 25) ?_); refine st_loads rfl _ _ rfl _ _ rfl a25 3 s25 HF 6 rfl ?_ ?_; (simp); (intro K hK; go_simp)))
    refine (rfind (R.out.ext (HF.ext 7 rfl)) b1 HF).mono ?_
    rw [HQ2.out]
    dsimp only [En.cells]
    rintro e w7 ⟨rfl, HX⟩
    clear HF
    have HF := HX
    clear HX
    go_wp2_with (first | ((with_reducible refine k_alloc (T := 39) ?_); refine st_alloc rfl _ rfl _ z39 _ rfl HF ?_; (clear HF; intro g15 w HF K hK; simp only [Value.cells] at HF; go_simp)) | ((with_reducible refine k_store (T := 39) ?_); refine st_put rfl _ _ _ rfl _ rfl _ rfl ?_ s39 HF 0 rfl rfl ?_; (simp [Value.oneCell']); (clear HF; intro w HF K hK; simp only [List.set_cons_zero, List.set_cons_succ, Act.eval, Value.cells, Array.getD_eq_getD_getElem?, List.getElem?_toArray, List.getElem?_cons_succ, List.getElem?_cons_zero, Option.getD_some] at HF; go_simp)) | ((with_reducible refine k_load (T := 25) ?_); refine st_row rfl _ _ rfl _ rfl a25 3 s25 HF 7 rfl rfl ?_; (intro K hK; go_simp)) | ((with_reducible refine k_load (T := 25) ?_); refine st_loads rfl _ _ rfl _ _ rfl a25 3 s25 HF 7 rfl ?_ ?_; (simp); (intro K hK; go_simp)))
    refine (rlast (RL.out.ext (HF.ext 8 rfl)) b2 HF).mono ?_
    rw [HK2.out]
    dsimp only [La.cells]
    rintro e w8 ⟨rfl, HX⟩
    clear HF
    have HF := HX
    clear HX
    have hz2 : ∀ w, (Op.equalIn 10000 39 (.agg #[.string qn, .int .i64 qf, .int .i64 qo, .int .i64 qs]) (.agg #[.string qn, .int .i64 qf, .int .i64 qo, .int .i64 qs])).run Try.prog w = .ok true w := fun w => run_eq_self 9 (by decide) fEntry a39 (En.fits ⟨qn, qf, qo, qs⟩)
    have hz3 : ∀ w, (Op.equalIn 10000 53 (.agg #[.int .i64 ka, .int .i64 kb, .int .i64 kc, .int .i64 kd, .int .i64 ke, .int .i64 kf, .int .i64 kg]) (.agg #[.int .i64 ka, .int .i64 kb, .int .i64 kc, .int .i64 kd, .int .i64 ke, .int .i64 kf, .int .i64 kg])).run Try.prog w = .ok true w := fun w => run_eq_self 9 (by decide) fLast a53 (La.fits ⟨ka, kb, kc, kd, ke, kf, kg⟩)
    go_wp2_with (first | ((with_reducible refine k_alloc (T := 53) ?_); refine st_alloc rfl _ rfl _ z53 _ rfl HF ?_; (clear HF; intro g17 w HF K hK; simp only [Value.cells] at HF; go_simp)) | ((with_reducible refine k_store (T := 53) ?_); refine st_put rfl _ _ _ rfl _ rfl _ rfl ?_ s53 HF 0 rfl rfl ?_; (simp [Value.oneCell']); (clear HF; intro w HF K hK; simp only [List.set_cons_zero, List.set_cons_succ, Act.eval, Value.cells, Array.getD_eq_getD_getElem?, List.getElem?_toArray, List.getElem?_cons_succ, List.getElem?_cons_zero, Option.getD_some] at HF; go_simp)))
    have hrl : (rnamesS es s).length ≤ 140737488355328 := Nat.le_trans (List.filter_sublist).length_le b1
    rw [HN.out] at HF
    apply wp_region_eff [22] (fun i => (#[[], [], [], [], [], [], [], [], [], [], [], [], [], [], [], [], [], [], [], [], [], [], [], [22], [22], [22]] : Array (List Nat)).getD i []) (fun val i => (([.bool qb, .bool qb, .bool true, .bool true, .agg #[.string qn, .int .i64 qf, .int .i64 qo, .int .i64 qs], .agg #[.string qn, .int .i64 qf, .int .i64 qo, .int .i64 qs], .bool true, .bool true, .bool true, .bool kz, .bool kz, .bool true, .bool true, .bool true, .agg #[.int .i64 ka, .int .i64 kb, .int .i64 kc, .int .i64 kd, .int .i64 ke, .int .i64 kf, .int .i64 kg], .agg #[.int .i64 ka, .int .i64 kb, .int .i64 kc, .int .i64 kd, .int .i64 ke, .int .i64 kf, .int .i64 kg], .bool true, .bool true, .bool true, .slice ad n cap, .agg #[.int .i64 u, ve, vl], .string s, val 22, .bool true, .bool true, .bool true]) : List Value).toArray.getD i undef) (fun E val => At W ((if E 22 = true then OE (val 22) (rnamesS es s) else emp) :: Blk g17 (.cells #[.int .i64 ka, .int .i64 kb, .int .i64 kc, .int .i64 kd, .int .i64 ke, .int .i64 kf, .int .i64 kg] 53 (0, 0)) :: Blk g15 (.cells #[.string qn, .int .i64 qf, .int .i64 qo, .int .i64 qs] 39 (0, 0)) :: Blk g13 (.cells #[.slice ad n cap] 22 (0, 0)) :: OE (.slice ad n cap) (rnamesS es s) :: Blk D (.deferred (some [])) :: Blk g10 (.cells #[.int .i64 ka, .int .i64 kb, .int .i64 kc, .int .i64 kd, .int .i64 ke, .int .i64 kf, .int .i64 kg] 53 (0, 0)) :: Blk g8 (.cells #[.string qn, .int .i64 qf, .int .i64 qo, .int .i64 qs] 39 (0, 0)) :: Blk g7 (.cells #[.int .i64 u, .slice (some ⟨ge, 0, none⟩) es.length (es.length + 1), .slice (some ⟨gl, 0, none⟩) ls.length (ls.length + 1)] 25 (0, 0)) :: Blk g3 (.cells #[.int .i64 u, ve, vl] 25 (0, 0)) :: Arg W :: [])) (by kernel_rfl) (by kernel_rfl) (by kernel_rfl) (by kernel_rfl) (HF.addEmp)
    case step =>
      iterate 22 (refine ⟨eff_pl rfl (fun _ => by rfl) fun E val hn T ds w K H hk ho hK => ?_, ?_⟩; rotate_left)
      refine ⟨eff_mk rfl (fun _ => by rfl) fun E val hE0 hcl hn T ds w K H hk ho hK => ?_, ?_⟩; rotate_left
      iterate 3 (refine ⟨eff_pl rfl (fun _ => by rfl) fun E val hn T ds w K H hk ho hK => ?_, ?_⟩; rotate_left)
      exact trivial
      · have o9 := ho 9 (by kernel_rfl); clear ho; simp [know, dstAt, Region.binds] at hk o9; go_simp; exact hK _ H
      · have o16 := ho 16 (by kernel_rfl); clear ho; simp [know, dstAt, Region.binds] at hk o16; go_simp; exact hK _ H
      · clear ho; simp [know, dstAt, Region.binds] at hk; go_simp; exact hK _ H
      · clear ho; simp [know, dstAt, Region.binds] at hk; go_simp; exact hK _ H
      · have o8 := ho 8 (by kernel_rfl); clear ho; simp [know, dstAt, Region.binds] at hk o8
        first | (refine op_rowT (T := 39) rfl o8 a39 s39 H 2 rfl rfl ?_; exact hK _ H) | (refine op_rowT (T := 39) rfl o8 a39 s39 H 7 rfl rfl ?_; exact hK _ H)
      · have o15 := ho 15 (by kernel_rfl); clear ho; simp [know, dstAt, Region.binds] at hk o15
        first | (refine op_rowT (T := 39) rfl o15 a39 s39 H 2 rfl rfl ?_; exact hK _ H) | (refine op_rowT (T := 39) rfl o15 a39 s39 H 7 rfl rfl ?_; exact hK _ H)
      · clear ho; simp [know, dstAt, Region.binds] at hk; go_simp; exact hK _ H
      · clear ho; simp [know, dstAt, Region.binds] at hk; go_simp; exact hK _ H
      · clear ho; simp [know, dstAt, Region.binds] at hk; go_simp; exact hK _ H
      · have o11 := ho 11 (by kernel_rfl); clear ho; simp [know, dstAt, Region.binds] at hk o11; go_simp; exact hK _ H
      · have o18 := ho 18 (by kernel_rfl); clear ho; simp [know, dstAt, Region.binds] at hk o18; go_simp; exact hK _ H
      · clear ho; simp [know, dstAt, Region.binds] at hk; go_simp; exact hK _ H
      · clear ho; simp [know, dstAt, Region.binds] at hk; go_simp; exact hK _ H
      · clear ho; simp [know, dstAt, Region.binds] at hk; go_simp; exact hK _ H
      · have o10 := ho 10 (by kernel_rfl); clear ho; simp [know, dstAt, Region.binds] at hk o10
        first | (refine op_rowT (T := 53) rfl o10 a53 s53 H 1 rfl rfl ?_; exact hK _ H) | (refine op_rowT (T := 53) rfl o10 a53 s53 H 6 rfl rfl ?_; exact hK _ H)
      · have o17 := ho 17 (by kernel_rfl); clear ho; simp [know, dstAt, Region.binds] at hk o17
        first | (refine op_rowT (T := 53) rfl o17 a53 s53 H 1 rfl rfl ?_; exact hK _ H) | (refine op_rowT (T := 53) rfl o17 a53 s53 H 6 rfl rfl ?_; exact hK _ H)
      · clear ho; simp [know, dstAt, Region.binds] at hk; go_simp; exact hK _ H
      · clear ho; simp [know, dstAt, Region.binds] at hk; go_simp; exact hK _ H
      · clear ho; simp [know, dstAt, Region.binds] at hk; go_simp; exact hK _ H
      · have o13 := ho 13 (by kernel_rfl); clear ho; simp [know, dstAt, Region.binds] at hk o13
        (refine op_loadT rfl o13 ?_ H 3 rfl rfl ?_; (kernel_rfl); exact hK _ H)
      · have o3 := ho 3 (by kernel_rfl); clear ho; simp [know, dstAt, Region.binds] at hk o3
        (refine op_rowT (T := 25) rfl o3 a25 s25 H 9 rfl rfl ?_; exact hK _ H)
      · have o1 := ho 1 (by kernel_rfl); clear ho; simp [know, dstAt, Region.binds] at hk o1; go_simp; exact hK _ H
      · clear ho; simp [know, dstAt, Region.binds] at hk
        (simp only [hE0, Bool.false_eq_true, if_false] at H); go_simp; refine (rnames (R.out.ext (H.ext 10 rfl)) be H.drop).mono ?_; rintro e w' ⟨v9, rfl, H⟩; refine hK _ _ ?_; have t22 : updE E 22 22 = true := rfl; simp only [t22, if_true]; exact H
      · clear ho; simp [know, dstAt, Region.binds] at hk
        (have e22 := hn 22 (by decide); simp only [e22, if_true] at H; go_simp; refine (sameE (oe_recs (H.pick 4 rfl)) (oe_recs (H.pick 0 rfl)) hrl H).mono ?_; rintro e w' ⟨rfl, H⟩; exact hK _ (by simp only [e22, if_true]; exact H))
      · clear ho; simp [know, dstAt, Region.binds] at hk; go_simp; exact hK _ H
      · clear ho; simp [know, dstAt, Region.binds] at hk; go_simp; exact hK _ H
    case ins =>
      iterate 22 (refine ⟨ins_pl rfl (fun _ _ _ => rfl), ?_⟩)
      refine ⟨ins_mk rfl (fun _ => rfl), ?_⟩
      iterate 3 (refine ⟨ins_pl rfl (fun val val' h => by first | rfl | ((have h22 := h 22 (by decide)); first | (simp only [h22]; done) | (simp only [h22]; rfl))), ?_⟩)
      exact trivial
    case jns =>
      iterate 22 (refine ⟨j_pl (fun _ _ _ => rfl), ?_⟩)
      refine ⟨j_mk rfl, ?_⟩
      iterate 3 (refine ⟨j_pl (fun _ _ _ => rfl), ?_⟩)
      exact trivial
    case fin =>
      intro E val w9 hE H
      have e22 := hE 22 (by decide)
      simp only [e22, if_true] at H
      clear hE e22 HF
      have HF := H
      clear H
      simp [putAll, Act.put]
      go_wp2_with fail
      have HB := HF.sel 11 [5, 10]
      refine ⟨by simp, .inl ⟨_, _, rfl, run_takeDeferred HB.get0, ?_⟩⟩
      have HC := (At.putObj0 (o' := .deferred none) HB).drop
      exact ⟨_, results_tmp rfl _ _ _, rfl, HC.lift0 H0.out⟩
  case stop =>
    rintro D c pre W hsp HA
    exact (At.unpure (HA.pick 1 rfl)).1.elim
end
end Bk
end Go.Proofs.Ytcofcikdknmggaa
