/-
  The document's bucket: which buckets may be.
-/
import Derived.Test.YtcofcikdknmggaaBkVal
namespace Go.Proofs.Ytcofcikdknmggaa
open Go.Hp Go.RowKit
set_option linter.unusedVariables false
set_option linter.unusedSimpArgs false
set_option maxRecDepth 100000
set_option maxHeartbeats 4000000
namespace Bk

structure EOk (e : En) : Prop where
  nm : nameB e.nm = true
  fi : fileB e.fc e.fo = true
  sz : inB e.sz 0 4294967296 = true
structure LOk (u : Int) (x : La) : Prop where
  cl : inB x.cl 1 255 = true
  op : inB x.op 1 1099511627776 = true
  ins : inB x.ins 1 u = true
  la : lastB x = true
def EsOk (l : List En) (n : Nat) : Prop := (∀ j e, l[j]? = some e → j < n → EOk e) ∧ ∀ j p q, l[j]? = some p → l[j + 1]? = some q → j + 1 < n → nLt p.nm q.nm = true
def LsOk (u : Int) (l : List La) (n : Nat) : Prop := (∀ j e, l[j]? = some e → j < n → LOk u e) ∧ ∀ j p q, l[j]? = some p → l[j + 1]? = some q → j + 1 < n → p.cl < q.cl
structure VB (b : Bu) : Prop where
  u0 : inB b.u 0 1048576 = true
  n : b.es.length ≤ 256
  z : b.u = 0 → b.es.length = 0 ∧ b.ls.length = 0
  e : EsOk b.es b.es.length
  l : LsOk b.u b.ls b.ls.length

theorem es_succ {l : List En} {k : Nat} {e : En} (h : EsOk l k) (hk : l[k]? = some e) (he : EOk e) (ho : ∀ p, 0 < k → l[k - 1]? = some p → nLt p.nm e.nm = true) : EsOk l (k + 1) := by
  refine ⟨fun j x hj hlt => ?_, fun j p q hp hq hlt => ?_⟩
  · rcases Nat.lt_or_ge j k with h2 | h2
    · exact h.1 j x hj h2
    · obtain rfl : j = k := by omega
      rw [hk] at hj
      cases hj
      exact he
  · rcases Nat.lt_or_ge (j + 1) k with h2 | h2
    · exact h.2 j p q hp hq h2
    · obtain rfl : k = j + 1 := by omega
      rw [hk] at hq
      cases hq
      exact ho p (by omega) (by simpa using hp)
theorem ls_succ {u : Int} {l : List La} {k : Nat} {e : La} (h : LsOk u l k) (hk : l[k]? = some e) (he : LOk u e) (ho : ∀ p, 0 < k → l[k - 1]? = some p → p.cl < e.cl) : LsOk u l (k + 1) := by
  refine ⟨fun j x hj hlt => ?_, fun j p q hp hq hlt => ?_⟩
  · rcases Nat.lt_or_ge j k with h2 | h2
    · exact h.1 j x hj h2
    · obtain rfl : j = k := by omega
      rw [hk] at hj
      cases hj
      exact he
  · rcases Nat.lt_or_ge (j + 1) k with h2 | h2
    · exact h.2 j p q hp hq h2
    · obtain rfl : k = j + 1 := by omega
      rw [hk] at hq
      cases hq
      exact ho p (by omega) (by simpa using hp)

theorem run_geq (w : World) (a b : ByteArray) : (binOp .geq 9 (.string a) (.string b)).run Try.prog w = .ok (.bool (!nLt a b)) w := by
  simp [binOp, Op.stringOp, nLt]

section
variable {w0 w W : World} {L : List HProp}

theorem bucket {ve vl : Value} {b : Bu} (he : RecsAt w ve 4 (b.es.map En.cells)) (hl : RecsAt w vl 7 (b.ls.map La.cells)) (be : b.es.length ≤ 140737488355328) (bl : b.ls.length ≤ 140737488355328) (H : At w0 L w) :
    Calls Try.prog 10 #[.agg #[.int .i64 b.u, ve, vl]] w (BoolPost w0 L (fun r => r = true ↔ VB b)) := by
  obtain ⟨W, rfl⟩ : ∃ W : World, W = w := ⟨_, rfl⟩
  have HF := At.of W
  have H0 := Lib.hid H
  obtain ⟨u, es, ls⟩ := b
  dsimp only at *
  obtain ⟨ade, cape, rfl, c1, c2, c3⟩ := he.value
  obtain ⟨adl, capl, rfl, d1, d2, d3⟩ := hl.value
  rw [List.length_map] at c1 c3 d1 d3 he hl ⊢
  simp only [List.length_map]
  have R := Lib.hid he
  have Q := Lib.hid hl
  have C3 := Lib.hid c3
  have D3 := Lib.hid d3
  clear H he hl c3 d3
  have hw : IntKind.i64.wrap ((es.length : Int) + (ls.length : Int)) = (es.length : Int) + (ls.length : Int) := IntWalk.i64_in _ (by omega)
  go_enter Try.func10, Try.ntmps10
  go_wp2_with (first | ((with_reducible refine k_box ?_); refine st_box rfl _ _ rfl _ rfl HF ?_; (clear HF; intro g1 w HF K hK; simp only [Value.cells, Act.eval, Value.cells, Array.getD_eq_getD_getElem?, List.getElem?_toArray, List.getElem?_cons_succ, List.getElem?_cons_zero, Option.getD_some] at HF; go_simp)) | ((with_reducible refine k_load ?_); refine st_load rfl _ _ rfl _ _ rfl ?_ HF 0 rfl rfl ?_; (kernel_rfl); (intro K hK; go_simp)))
  refine (within2 HF u 0 1048576).mono ?_
  rintro e w ⟨rfl, HX⟩
  clear HF
  have HF := HX
  clear HX
  cases eu : inB u 0 1048576 with
  | false =>
    go_wp2_with (first | ((with_reducible refine k_box ?_); refine st_box rfl _ _ rfl _ rfl HF ?_; (clear HF; intro g1 w HF K hK; simp only [Value.cells, Act.eval, Value.cells, Array.getD_eq_getD_getElem?, List.getElem?_toArray, List.getElem?_cons_succ, List.getElem?_cons_zero, Option.getD_some] at HF; go_simp)) | ((with_reducible refine k_load ?_); refine st_load rfl _ _ rfl _ _ rfl ?_ HF 0 rfl rfl ?_; (kernel_rfl); (intro K hK; go_simp)))
    go_ret
    exact ⟨_, rfl, ⟨fun h => (by cases h), fun h => (by exfalso; have := h.u0; dsimp only at this; rw [eu] at this; cases this)⟩, (HF.sel 2 [1]).lift0 H0.out⟩
  | true =>
    by_cases hn256 : es.length ≤ 256
    · have gn : decide ((256 : Int) < es.length) = false := decide_eq_false (by omega)
      by_cases hu0 : u = 0
      · subst hu0
        by_cases hz : es.length = 0 ∧ ls.length = 0
        · have gz : decide ((0 : Int) < (es.length : Int) + (ls.length : Int)) = false := decide_eq_false (by omega)
          have HZ0 := Lib.hid (show (0 : Int) = 0 → es.length = 0 ∧ ls.length = 0 from fun _ => hz)
          clear hz
          go_wp2_with (first | ((with_reducible refine k_box ?_); refine st_box rfl _ _ rfl _ rfl HF ?_; (clear HF; intro g1 w HF K hK; simp only [Value.cells, Act.eval, Value.cells, Array.getD_eq_getD_getElem?, List.getElem?_toArray, List.getElem?_cons_succ, List.getElem?_cons_zero, Option.getD_some] at HF; go_simp)) | ((with_reducible refine k_load ?_); refine st_load rfl _ _ rfl _ _ rfl ?_ HF 0 rfl rfl ?_; (kernel_rfl); (intro K hK; go_simp)))
          go_loopw [3] (fun i wr => ∃ k : Nat, k ≤ es.length ∧ i = .int .i64 k ∧ Hid (EsOk es k) ∧ At W (Blk g1 (.cells #[.int .i64 0, .slice ade es.length cape, .slice adl ls.length capl] 25 (0, 0)) :: Arg W :: []) wr) (fun i _ => es.length - (intOf i).toNat)
          case atStart => exact ⟨0, Nat.zero_le _, rfl, Lib.hid ⟨fun j e _ h => absurd h (Nat.not_lt_zero _), fun j p q _ _ h => absurd h (by omega)⟩, HF⟩
          case round =>
            clear HF
            obtain ⟨k, hk, rfl, HI, HF⟩ := hrel
            by_cases hlt : k < es.length
            · exact absurd hlt (by have := HZ0.out (by first | trivial | rfl); omega)
            · have g1x : ¬ (k : Int) < es.length := by omega
              have hkk : k = es.length := by omega
              have HE := Lib.hid (show EsOk es es.length by have := HI.out; rw [hkk] at this; exact this)
              clear hkk HI
              go_wp2_with ((with_reducible refine k_load ?_); refine st_load rfl _ _ rfl _ _ rfl ?_ HF 0 rfl rfl ?_; (kernel_rfl); (intro K hK; go_simp))
              go_loopw [5] (fun i wr => ∃ k : Nat, k ≤ ls.length ∧ i = .int .i64 k ∧ Hid (LsOk 0 ls k) ∧ At W (Blk g1 (.cells #[.int .i64 0, .slice ade es.length cape, .slice adl ls.length capl] 25 (0, 0)) :: Arg W :: []) wr) (fun i _ => ls.length - (intOf i).toNat)
              case atStart => exact ⟨0, Nat.zero_le _, rfl, Lib.hid ⟨fun j e _ h => absurd h (Nat.not_lt_zero _), fun j p q _ _ h => absurd h (by omega)⟩, HF⟩
              case round =>
                clear HF
                obtain ⟨k, hk, rfl, HI, HF⟩ := hrel
                by_cases hlt : k < ls.length
                · exact absurd hlt (by have := HZ0.out (by first | trivial | rfl); omega)
                · have g1x : ¬ (k : Int) < ls.length := by omega
                  have hkk : k = ls.length := by omega
                  have HV := Lib.hid (show VB ⟨0, es, ls⟩ from ⟨eu, hn256, fun h => HZ0.out (by first | exact h | trivial), HE.out, by have := HI.out; rw [hkk] at this; exact this⟩)
                  clear hkk
                  go_wp2_with ((with_reducible refine k_load ?_); refine st_load rfl _ _ rfl _ _ rfl ?_ HF 0 rfl rfl ?_; (kernel_rfl); (intro K hK; go_simp))
                  go_ret
                  exact ⟨_, rfl, ⟨fun _ => HV.out, fun _ => rfl⟩, (HF.sel 2 [1]).lift0 H0.out⟩
        · have gz : decide ((0 : Int) < (es.length : Int) + (ls.length : Int)) = true := decide_eq_true (by omega)
          go_wp2_with (first | ((with_reducible refine k_box ?_); refine st_box rfl _ _ rfl _ rfl HF ?_; (clear HF; intro g1 w HF K hK; simp only [Value.cells, Act.eval, Value.cells, Array.getD_eq_getD_getElem?, List.getElem?_toArray, List.getElem?_cons_succ, List.getElem?_cons_zero, Option.getD_some] at HF; go_simp)) | ((with_reducible refine k_load ?_); refine st_load rfl _ _ rfl _ _ rfl ?_ HF 0 rfl rfl ?_; (kernel_rfl); (intro K hK; go_simp)))
          go_ret
          exact ⟨_, rfl, ⟨fun h => (by cases h), fun h => (by exfalso; exact hz (h.z rfl))⟩, (HF.sel 2 [1]).lift0 H0.out⟩
      · have HZ0 := Lib.hid (show u = 0 → es.length = 0 ∧ ls.length = 0 from fun h => absurd h hu0)
        have gu : (u == 0) = false := by simpa using hu0
        go_wp2_with (first | ((with_reducible refine k_box ?_); refine st_box rfl _ _ rfl _ rfl HF ?_; (clear HF; intro g1 w HF K hK; simp only [Value.cells, Act.eval, Value.cells, Array.getD_eq_getD_getElem?, List.getElem?_toArray, List.getElem?_cons_succ, List.getElem?_cons_zero, Option.getD_some] at HF; go_simp)) | ((with_reducible refine k_load ?_); refine st_load rfl _ _ rfl _ _ rfl ?_ HF 0 rfl rfl ?_; (kernel_rfl); (intro K hK; go_simp)))
        go_loopw [3] (fun i wr => ∃ k : Nat, k ≤ es.length ∧ i = .int .i64 k ∧ Hid (EsOk es k) ∧ At W (Blk g1 (.cells #[.int .i64 u, .slice ade es.length cape, .slice adl ls.length capl] 25 (0, 0)) :: Arg W :: []) wr) (fun i _ => es.length - (intOf i).toNat)
        case atStart => exact ⟨0, Nat.zero_le _, rfl, Lib.hid ⟨fun j e _ h => absurd h (Nat.not_lt_zero _), fun j p q _ _ h => absurd h (by omega)⟩, HF⟩
        case round =>
          clear HF
          obtain ⟨k, hk, rfl, HI, HF⟩ := hrel
          by_cases hlt : k < es.length
          · have g1x : (k : Int) < es.length := by omega
            obtain ⟨b, rfl⟩ := C3.out (by omega)
            obtain ⟨x, hx⟩ : ∃ x, es[k]? = some x := ⟨_, List.getElem?_eq_getElem hlt⟩
            have Hc := Lib.hid (recs_get (R.out.ext (HF.ext 1 rfl)) hx)
            have Hx := Lib.hid hx
            obtain ⟨xn, xf, xo, xs⟩ := x
            clear hx
            go_wp2_with (first | ((with_reducible refine k_load (T := 39) ?_); refine st_loadCells rfl _ _ rfl _ rfl a39 [.string xn, .int .i64 xf, .int .i64 xo, .int .i64 xs] s39 Hc.out ?_; (intro K hK; go_simp)) | ((with_reducible refine k_alloc (T := 39) ?_); refine st_alloc rfl _ rfl _ z39 _ rfl HF ?_; (clear HF; intro g4 w HF K hK; simp only [Value.cells] at HF; go_simp)) | ((with_reducible refine k_store (T := 39) ?_); refine st_put rfl _ _ _ rfl _ rfl _ rfl ?_ s39 HF 0 rfl rfl ?_; (simp [Value.oneCell']); (clear HF; intro w HF K hK; simp only [List.set_cons_zero, List.set_cons_succ, Act.eval, Value.cells, Array.getD_eq_getD_getElem?, List.getElem?_toArray, List.getElem?_cons_succ, List.getElem?_cons_zero, Option.getD_some] at HF; go_simp)) | ((with_reducible refine k_load ?_); refine st_load rfl _ _ rfl _ _ rfl ?_ HF 0 rfl rfl ?_; (kernel_rfl); (intro K hK; go_simp)))
            cases enm : nameB xn with
            | false =>
              skip
              apply wp_region_eff [] (fun i => (#[[], [], [], [], [], [], [], [], [], [], [], [], [], [], [], [], [], [], [], [], [], [], [], [], [], [], [], [], [], [], [], []] : Array (List Nat)).getD i []) (fun val i => ((_ :: _ :: _ :: _ :: .bool true :: undef :: undef :: undef :: undef :: undef :: undef :: undef :: undef :: undef :: undef :: undef :: undef :: undef :: undef :: _ :: .bool true :: undef :: undef :: undef :: undef :: _ :: .bool true :: undef :: undef :: undef :: undef :: _ :: []) : List Value).toArray.getD i undef) (fun E val => At W (Blk g4 (.cells #[.string xn, .int .i64 xf, .int .i64 xo, .int .i64 xs] 39 (0, 0)) :: Blk g1 (.cells #[.int .i64 u, .slice (some b) es.length cape, .slice adl ls.length capl] 25 (0, 0)) :: Arg W :: [])) (by kernel_rfl) (by kernel_rfl) (by kernel_rfl) (by kernel_rfl) (HF)
              case step =>
                iterate 5 (refine ⟨eff_pl rfl (fun _ => by rfl) fun E val hn T ds w K H hk ho hK => ?_, ?_⟩; rotate_left)
                iterate 14 (refine ⟨eff_no rfl (fun _ => by rfl) (fun _ => rfl), ?_⟩)
                iterate 2 (refine ⟨eff_pl rfl (fun _ => by rfl) fun E val hn T ds w K H hk ho hK => ?_, ?_⟩; rotate_left)
                iterate 4 (refine ⟨eff_no rfl (fun _ => by rfl) (fun _ => rfl), ?_⟩)
                iterate 2 (refine ⟨eff_pl rfl (fun _ => by rfl) fun E val hn T ds w K H hk ho hK => ?_, ?_⟩; rotate_left)
                iterate 4 (refine ⟨eff_no rfl (fun _ => by rfl) (fun _ => rfl), ?_⟩)
                refine ⟨eff_pl rfl (fun _ => by rfl) fun E val hn T ds w K H hk ho hK => ?_, ?_⟩; rotate_left
                exact trivial
                · have o4 := ho 4 (by kernel_rfl); clear ho; simp [know, dstAt, Region.binds] at hk o4; go_simp; exact hK _ H
                · clear ho; simp [know, dstAt, Region.binds] at hk
                  first | (refine op_loadT rfl hk ?_ H 0 rfl rfl ?_; (kernel_rfl); exact hK _ H) | (refine op_loadT rfl hk ?_ H 1 rfl rfl ?_; (kernel_rfl); exact hK _ H)
                · clear ho; simp [know, dstAt, Region.binds] at hk
                  (go_simp; refine (name H xn).mono ?_; (try rw [enm]); rintro e w' ⟨rfl, H⟩; exact hK _ H)
                · clear ho; simp [know, dstAt, Region.binds] at hk; go_simp; exact hK _ H
                · clear ho; simp [know, dstAt, Region.binds] at hk; go_simp; exact hK _ H
                · clear ho; simp [know, dstAt, Region.binds] at hk; go_simp; exact hK _ H
                · clear ho; simp [know, dstAt, Region.binds] at hk; go_simp; exact hK _ H
                · clear ho; simp [know, dstAt, Region.binds] at hk; go_simp; exact hK _ H
                · clear ho; simp [know, dstAt, Region.binds] at hk; go_simp; exact hK _ H
                · clear ho; simp [know, dstAt, Region.binds] at hk; go_simp; exact hK _ H
              case ins =>
                iterate 32 (refine ⟨ins_pl rfl (fun _ _ _ => rfl), ?_⟩)
                exact trivial
              case jns =>
                iterate 32 (refine ⟨j_pl (fun _ _ _ => rfl), ?_⟩)
                exact trivial
              case fin =>
                intro E val w5 hE H
                clear HF hE
                have HF := H
                clear H
                simp [putAll, Act.put]
                go_wp2_with fail
                go_ret
                exact ⟨_, rfl, ⟨fun h => (by cases h), fun h => (by exfalso; have := (h.e.1 _ _ Hx.out hlt).nm; rw [enm] at this; cases this)⟩, (HF.sel 3 [2]).lift0 H0.out⟩
            | true =>
              by_cases hk0 : k = 0
              · subst hk0
                cases efi : fileB xf xo with
                | false =>
                  skip
                  apply wp_region_eff [] (fun i => (#[[], [], [], [], [], [], [], [], [], [], [], [], [], [], [], [], [], [], [], [], [], [], [], [], [], [], [], [], [], [], [], []] : Array (List Nat)).getD i []) (fun val i => ((_ :: _ :: _ :: _ :: .bool false :: _ :: _ :: .bool false :: undef :: undef :: undef :: undef :: undef :: undef :: undef :: undef :: undef :: undef :: _ :: _ :: .bool false :: _ :: _ :: _ :: _ :: _ :: .bool true :: undef :: undef :: undef :: undef :: _ :: []) : List Value).toArray.getD i undef) (fun E val => At W (Blk g4 (.cells #[.string xn, .int .i64 xf, .int .i64 xo, .int .i64 xs] 39 (0, 0)) :: Blk g1 (.cells #[.int .i64 u, .slice (some b) es.length cape, .slice adl ls.length capl] 25 (0, 0)) :: Arg W :: [])) (by kernel_rfl) (by kernel_rfl) (by kernel_rfl) (by kernel_rfl) (HF)
                  case step =>
                    iterate 8 (refine ⟨eff_pl rfl (fun _ => by rfl) fun E val hn T ds w K H hk ho hK => ?_, ?_⟩; rotate_left)
                    iterate 10 (refine ⟨eff_no rfl (fun _ => by rfl) (fun _ => rfl), ?_⟩)
                    iterate 9 (refine ⟨eff_pl rfl (fun _ => by rfl) fun E val hn T ds w K H hk ho hK => ?_, ?_⟩; rotate_left)
                    iterate 4 (refine ⟨eff_no rfl (fun _ => by rfl) (fun _ => rfl), ?_⟩)
                    refine ⟨eff_pl rfl (fun _ => by rfl) fun E val hn T ds w K H hk ho hK => ?_, ?_⟩; rotate_left
                    exact trivial
                    · have o4 := ho 4 (by kernel_rfl); clear ho; simp [know, dstAt, Region.binds] at hk o4; go_simp; exact hK _ H
                    · clear ho; simp [know, dstAt, Region.binds] at hk
                      first | (refine op_loadT rfl hk ?_ H 0 rfl rfl ?_; (kernel_rfl); exact hK _ H) | (refine op_loadT rfl hk ?_ H 1 rfl rfl ?_; (kernel_rfl); exact hK _ H)
                    · clear ho; simp [know, dstAt, Region.binds] at hk
                      (go_simp; refine (name H xn).mono ?_; (try rw [enm]); rintro e w' ⟨rfl, H⟩; exact hK _ H)
                    · clear ho; simp [know, dstAt, Region.binds] at hk; go_simp; exact hK _ H
                    · clear ho; simp [know, dstAt, Region.binds] at hk; go_simp; exact hK _ H
                    · have o3 := ho 3 (by kernel_rfl); clear ho; simp [know, dstAt, Region.binds] at hk o3; go_simp; exact hK _ H
                    · clear ho; simp [know, dstAt, Region.binds] at hk; go_simp; exact hK _ H
                    · clear ho; simp [know, dstAt, Region.binds] at hk; go_simp; exact hK _ H
                    · clear ho; simp [know, dstAt, Region.binds] at hk; go_simp; exact hK _ H
                    · clear ho; simp [know, dstAt, Region.binds] at hk; go_simp; exact hK _ H
                    · clear ho; simp [know, dstAt, Region.binds] at hk; go_simp; exact hK _ H
                    · have o4 := ho 4 (by kernel_rfl); clear ho; simp [know, dstAt, Region.binds] at hk o4; go_simp; exact hK _ H
                    · clear ho; simp [know, dstAt, Region.binds] at hk
                      first | (refine op_loadsT (T := 27) (n := 2) rfl hk.1 a27 s27 H 0 rfl rfl rfl ?_; exact hK _ H) | (refine op_loadT rfl hk.1 ?_ H 0 rfl rfl ?_; (kernel_rfl); exact hK _ H) | (refine op_loadT rfl hk.1 ?_ H 1 rfl rfl ?_; (kernel_rfl); exact hK _ H)
                    · clear ho; simp [know, dstAt, Region.binds] at hk
                      (go_simp; refine (file H xf xo).mono ?_; (try rw [efi]); rintro e w' ⟨rfl, H⟩; exact hK _ H)
                    · clear ho; simp [know, dstAt, Region.binds] at hk; go_simp; exact hK _ H
                    · clear ho; simp [know, dstAt, Region.binds] at hk; go_simp; exact hK _ H
                    · clear ho; simp [know, dstAt, Region.binds] at hk; go_simp; exact hK _ H
                    · clear ho; simp [know, dstAt, Region.binds] at hk; go_simp; exact hK _ H
                  case ins =>
                    iterate 32 (refine ⟨ins_pl rfl (fun _ _ _ => rfl), ?_⟩)
                    exact trivial
                  case jns =>
                    iterate 32 (refine ⟨j_pl (fun _ _ _ => rfl), ?_⟩)
                    exact trivial
                  case fin =>
                    intro E val w5 hE H
                    clear HF hE
                    have HF := H
                    clear H
                    simp [putAll, Act.put]
                    go_wp2_with fail
                    go_ret
                    exact ⟨_, rfl, ⟨fun h => (by cases h), fun h => (by exfalso; have := (h.e.1 _ _ Hx.out hlt).fi; rw [efi] at this; cases this)⟩, (HF.sel 3 [2]).lift0 H0.out⟩
                | true =>
                  cases esz : inB xs 0 4294967296 with
                  | false =>
                    skip
                    apply wp_region_eff [] (fun i => (#[[], [], [], [], [], [], [], [], [], [], [], [], [], [], [], [], [], [], [], [], [], [], [], [], [], [], [], [], [], [], [], []] : Array (List Nat)).getD i []) (fun val i => ((_ :: _ :: _ :: _ :: .bool false :: _ :: _ :: .bool false :: undef :: undef :: undef :: undef :: undef :: undef :: undef :: undef :: undef :: undef :: _ :: _ :: .bool false :: _ :: _ :: _ :: _ :: _ :: .bool false :: _ :: _ :: _ :: _ :: _ :: []) : List Value).toArray.getD i undef) (fun E val => At W (Blk g4 (.cells #[.string xn, .int .i64 xf, .int .i64 xo, .int .i64 xs] 39 (0, 0)) :: Blk g1 (.cells #[.int .i64 u, .slice (some b) es.length cape, .slice adl ls.length capl] 25 (0, 0)) :: Arg W :: [])) (by kernel_rfl) (by kernel_rfl) (by kernel_rfl) (by kernel_rfl) (HF)
                    case step =>
                      iterate 8 (refine ⟨eff_pl rfl (fun _ => by rfl) fun E val hn T ds w K H hk ho hK => ?_, ?_⟩; rotate_left)
                      iterate 10 (refine ⟨eff_no rfl (fun _ => by rfl) (fun _ => rfl), ?_⟩)
                      iterate 14 (refine ⟨eff_pl rfl (fun _ => by rfl) fun E val hn T ds w K H hk ho hK => ?_, ?_⟩; rotate_left)
                      exact trivial
                      · have o4 := ho 4 (by kernel_rfl); clear ho; simp [know, dstAt, Region.binds] at hk o4; go_simp; exact hK _ H
                      · clear ho; simp [know, dstAt, Region.binds] at hk
                        first | (refine op_loadT rfl hk ?_ H 0 rfl rfl ?_; (kernel_rfl); exact hK _ H) | (refine op_loadT rfl hk ?_ H 1 rfl rfl ?_; (kernel_rfl); exact hK _ H)
                      · clear ho; simp [know, dstAt, Region.binds] at hk
                        (go_simp; refine (name H xn).mono ?_; (try rw [enm]); rintro e w' ⟨rfl, H⟩; exact hK _ H)
                      · clear ho; simp [know, dstAt, Region.binds] at hk; go_simp; exact hK _ H
                      · clear ho; simp [know, dstAt, Region.binds] at hk; go_simp; exact hK _ H
                      · have o3 := ho 3 (by kernel_rfl); clear ho; simp [know, dstAt, Region.binds] at hk o3; go_simp; exact hK _ H
                      · clear ho; simp [know, dstAt, Region.binds] at hk; go_simp; exact hK _ H
                      · clear ho; simp [know, dstAt, Region.binds] at hk; go_simp; exact hK _ H
                      · clear ho; simp [know, dstAt, Region.binds] at hk; go_simp; exact hK _ H
                      · clear ho; simp [know, dstAt, Region.binds] at hk; go_simp; exact hK _ H
                      · clear ho; simp [know, dstAt, Region.binds] at hk; go_simp; exact hK _ H
                      · have o4 := ho 4 (by kernel_rfl); clear ho; simp [know, dstAt, Region.binds] at hk o4; go_simp; exact hK _ H
                      · clear ho; simp [know, dstAt, Region.binds] at hk
                        first | (refine op_loadsT (T := 27) (n := 2) rfl hk.1 a27 s27 H 0 rfl rfl rfl ?_; exact hK _ H) | (refine op_loadT rfl hk.1 ?_ H 0 rfl rfl ?_; (kernel_rfl); exact hK _ H) | (refine op_loadT rfl hk.1 ?_ H 1 rfl rfl ?_; (kernel_rfl); exact hK _ H)
                      · clear ho; simp [know, dstAt, Region.binds] at hk
                        (go_simp; refine (file H xf xo).mono ?_; (try rw [efi]); rintro e w' ⟨rfl, H⟩; exact hK _ H)
                      · clear ho; simp [know, dstAt, Region.binds] at hk; go_simp; exact hK _ H
                      · clear ho; simp [know, dstAt, Region.binds] at hk; go_simp; exact hK _ H
                      · clear ho; simp [know, dstAt, Region.binds] at hk; go_simp; exact hK _ H
                      · have o4 := ho 4 (by kernel_rfl); clear ho; simp [know, dstAt, Region.binds] at hk o4; go_simp; exact hK _ H
                      · clear ho; simp [know, dstAt, Region.binds] at hk
                        first | (refine op_loadT rfl hk.1 ?_ H 0 rfl rfl ?_; (kernel_rfl); exact hK _ H) | (refine op_loadT rfl hk.1 ?_ H 1 rfl rfl ?_; (kernel_rfl); exact hK _ H)
                      · clear ho; simp [know, dstAt, Region.binds] at hk
                        (go_simp; refine (within2 H xs 0 4294967296).mono ?_; (try rw [esz]); rintro e w' ⟨rfl, H⟩; exact hK _ H)
                      · clear ho; simp [know, dstAt, Region.binds] at hk; go_simp; exact hK _ H
                      · clear ho; simp [know, dstAt, Region.binds] at hk; go_simp; exact hK _ H
                    case ins =>
                      iterate 32 (refine ⟨ins_pl rfl (fun _ _ _ => rfl), ?_⟩)
                      exact trivial
                    case jns =>
                      iterate 32 (refine ⟨j_pl (fun _ _ _ => rfl), ?_⟩)
                      exact trivial
                    case fin =>
                      intro E val w5 hE H
                      clear HF hE
                      have HF := H
                      clear H
                      simp [putAll, Act.put]
                      go_wp2_with fail
                      go_ret
                      exact ⟨_, rfl, ⟨fun h => (by cases h), fun h => (by exfalso; have := (h.e.1 _ _ Hx.out hlt).sz; rw [esz] at this; cases this)⟩, (HF.sel 3 [2]).lift0 H0.out⟩
                  | true =>
                    skip
                    apply wp_region_eff [] (fun i => (#[[], [], [], [], [], [], [], [], [], [], [], [], [], [], [], [], [], [], [], [], [], [], [], [], [], [], [], [], [], [], [], []] : Array (List Nat)).getD i []) (fun val i => ((_ :: _ :: _ :: _ :: .bool false :: _ :: _ :: .bool false :: undef :: undef :: undef :: undef :: undef :: undef :: undef :: undef :: undef :: undef :: _ :: _ :: .bool false :: _ :: _ :: _ :: _ :: _ :: .bool false :: _ :: _ :: _ :: _ :: _ :: []) : List Value).toArray.getD i undef) (fun E val => At W (Blk g4 (.cells #[.string xn, .int .i64 xf, .int .i64 xo, .int .i64 xs] 39 (0, 0)) :: Blk g1 (.cells #[.int .i64 u, .slice (some b) es.length cape, .slice adl ls.length capl] 25 (0, 0)) :: Arg W :: [])) (by kernel_rfl) (by kernel_rfl) (by kernel_rfl) (by kernel_rfl) (HF)
                    case step =>
                      iterate 8 (refine ⟨eff_pl rfl (fun _ => by rfl) fun E val hn T ds w K H hk ho hK => ?_, ?_⟩; rotate_left)
                      iterate 10 (refine ⟨eff_no rfl (fun _ => by rfl) (fun _ => rfl), ?_⟩)
                      iterate 14 (refine ⟨eff_pl rfl (fun _ => by rfl) fun E val hn T ds w K H hk ho hK => ?_, ?_⟩; rotate_left)
                      exact trivial
                      · have o4 := ho 4 (by kernel_rfl); clear ho; simp [know, dstAt, Region.binds] at hk o4; go_simp; exact hK _ H
                      · clear ho; simp [know, dstAt, Region.binds] at hk
                        first | (refine op_loadT rfl hk ?_ H 0 rfl rfl ?_; (kernel_rfl); exact hK _ H) | (refine op_loadT rfl hk ?_ H 1 rfl rfl ?_; (kernel_rfl); exact hK _ H)
                      · clear ho; simp [know, dstAt, Region.binds] at hk
                        (go_simp; refine (name H xn).mono ?_; (try rw [enm]); rintro e w' ⟨rfl, H⟩; exact hK _ H)
                      · clear ho; simp [know, dstAt, Region.binds] at hk; go_simp; exact hK _ H
                      · clear ho; simp [know, dstAt, Region.binds] at hk; go_simp; exact hK _ H
                      · have o3 := ho 3 (by kernel_rfl); clear ho; simp [know, dstAt, Region.binds] at hk o3; go_simp; exact hK _ H
                      · clear ho; simp [know, dstAt, Region.binds] at hk; go_simp; exact hK _ H
                      · clear ho; simp [know, dstAt, Region.binds] at hk; go_simp; exact hK _ H
                      · clear ho; simp [know, dstAt, Region.binds] at hk; go_simp; exact hK _ H
                      · clear ho; simp [know, dstAt, Region.binds] at hk; go_simp; exact hK _ H
                      · clear ho; simp [know, dstAt, Region.binds] at hk; go_simp; exact hK _ H
                      · have o4 := ho 4 (by kernel_rfl); clear ho; simp [know, dstAt, Region.binds] at hk o4; go_simp; exact hK _ H
                      · clear ho; simp [know, dstAt, Region.binds] at hk
                        first | (refine op_loadsT (T := 27) (n := 2) rfl hk.1 a27 s27 H 0 rfl rfl rfl ?_; exact hK _ H) | (refine op_loadT rfl hk.1 ?_ H 0 rfl rfl ?_; (kernel_rfl); exact hK _ H) | (refine op_loadT rfl hk.1 ?_ H 1 rfl rfl ?_; (kernel_rfl); exact hK _ H)
                      · clear ho; simp [know, dstAt, Region.binds] at hk
                        (go_simp; refine (file H xf xo).mono ?_; (try rw [efi]); rintro e w' ⟨rfl, H⟩; exact hK _ H)
                      · clear ho; simp [know, dstAt, Region.binds] at hk; go_simp; exact hK _ H
                      · clear ho; simp [know, dstAt, Region.binds] at hk; go_simp; exact hK _ H
                      · clear ho; simp [know, dstAt, Region.binds] at hk; go_simp; exact hK _ H
                      · have o4 := ho 4 (by kernel_rfl); clear ho; simp [know, dstAt, Region.binds] at hk o4; go_simp; exact hK _ H
                      · clear ho; simp [know, dstAt, Region.binds] at hk
                        first | (refine op_loadT rfl hk.1 ?_ H 0 rfl rfl ?_; (kernel_rfl); exact hK _ H) | (refine op_loadT rfl hk.1 ?_ H 1 rfl rfl ?_; (kernel_rfl); exact hK _ H)
                      · clear ho; simp [know, dstAt, Region.binds] at hk
                        (go_simp; refine (within2 H xs 0 4294967296).mono ?_; (try rw [esz]); rintro e w' ⟨rfl, H⟩; exact hK _ H)
                      · clear ho; simp [know, dstAt, Region.binds] at hk; go_simp; exact hK _ H
                      · clear ho; simp [know, dstAt, Region.binds] at hk; go_simp; exact hK _ H
                    case ins =>
                      iterate 32 (refine ⟨ins_pl rfl (fun _ _ _ => rfl), ?_⟩)
                      exact trivial
                    case jns =>
                      iterate 32 (refine ⟨j_pl (fun _ _ _ => rfl), ?_⟩)
                      exact trivial
                    case fin =>
                      intro E val w5 hE H
                      clear HF hE
                      have HF := H
                      clear H
                      simp [putAll, Act.put]
                      go_wp2_with fail
                      go_roundw
                      case rel => exact ⟨_ + 1, by omega, rfl, Lib.hid (es_succ HI.out Hx.out ⟨enm, efi, esz⟩ (fun p hp => absurd hp (Nat.lt_irrefl 0))), HF.sel 3 [1, 2]⟩
                      case measure => simp [intOf]; omega
              · have gk : (0 : Int) < k := by omega
                have gkd : decide ((0 : Int) < (k : Int)) = true := decide_eq_true gk
                have gkn : decide (0 < k) = true := decide_eq_true (by omega)
                have hkm : (k : Int) - 1 = ((k - 1 : Nat) : Int) := by omega
                have hkl : ((k - 1 : Nat) : Int) < es.length := by omega
                have hwk : IntKind.i64.wrap ((k - 1 : Nat) : Int) = ((k - 1 : Nat) : Int) := IntWalk.i64_in _ (by omega)
                obtain ⟨pv, hpv⟩ : ∃ pv, es[k - 1]? = some pv := ⟨_, List.getElem?_eq_getElem (by omega)⟩
                have Hp := Lib.hid (recs_get R.out hpv 0 (.string pv.nm) rfl)
                have Hpv := Lib.hid hpv
                have hge := fun w => run_geq w pv.nm xn
                clear hpv
                cases eo : nLt pv.nm xn with
                | false =>
                  rw [eo] at hge
                  skip
                  apply wp_region_eff [] (fun i => (#[[], [], [], [], [], [], [], [], [], [], [], [], [], [], [], [], [], [], [], [], [], [], [], [], [], [], [], [], [], [], [], []] : Array (List Nat)).getD i []) (fun val i => ((_ :: _ :: _ :: _ :: .bool false :: _ :: _ :: .bool true :: _ :: _ :: _ :: _ :: _ :: _ :: _ :: _ :: _ :: _ :: _ :: _ :: .bool true :: undef :: undef :: undef :: undef :: _ :: .bool true :: undef :: undef :: undef :: undef :: _ :: []) : List Value).toArray.getD i undef) (fun E val => At W (Blk g4 (.cells #[.string xn, .int .i64 xf, .int .i64 xo, .int .i64 xs] 39 (0, 0)) :: Blk g1 (.cells #[.int .i64 u, .slice (some b) es.length cape, .slice adl ls.length capl] 25 (0, 0)) :: Arg W :: [])) (by kernel_rfl) (by kernel_rfl) (by kernel_rfl) (by kernel_rfl) (HF)
                  case step =>
                    iterate 21 (refine ⟨eff_pl rfl (fun _ => by rfl) fun E val hn T ds w K H hk ho hK => ?_, ?_⟩; rotate_left)
                    iterate 4 (refine ⟨eff_no rfl (fun _ => by rfl) (fun _ => rfl), ?_⟩)
                    iterate 2 (refine ⟨eff_pl rfl (fun _ => by rfl) fun E val hn T ds w K H hk ho hK => ?_, ?_⟩; rotate_left)
                    iterate 4 (refine ⟨eff_no rfl (fun _ => by rfl) (fun _ => rfl), ?_⟩)
                    refine ⟨eff_pl rfl (fun _ => by rfl) fun E val hn T ds w K H hk ho hK => ?_, ?_⟩; rotate_left
                    exact trivial
                    · have o4 := ho 4 (by kernel_rfl); clear ho; simp [know, dstAt, Region.binds] at hk o4; go_simp; exact hK _ H
                    · clear ho; simp [know, dstAt, Region.binds] at hk
                      first | (refine op_loadT rfl hk ?_ H 0 rfl rfl ?_; (kernel_rfl); exact hK _ H) | (refine op_loadT rfl hk ?_ H 1 rfl rfl ?_; (kernel_rfl); exact hK _ H) | (refine op_load1T rfl hk (by kernel_rfl) ((H.ext 2 rfl).cell Hp.out) ?_; exact hK _ H)
                    · clear ho; simp [know, dstAt, Region.binds] at hk
                      (go_simp; refine (name H xn).mono ?_; (try rw [enm]); rintro e w' ⟨rfl, H⟩; exact hK _ H)
                    · clear ho; simp [know, dstAt, Region.binds] at hk; go_simp; exact hK _ H
                    · clear ho; simp [know, dstAt, Region.binds] at hk; go_simp; exact hK _ H
                    · have o3 := ho 3 (by kernel_rfl); clear ho; simp [know, dstAt, Region.binds] at hk o3; go_simp; exact hK _ H
                    · clear ho; simp [know, dstAt, Region.binds] at hk; go_simp; exact hK _ H
                    · clear ho; simp [know, dstAt, Region.binds] at hk; go_simp; exact hK _ H
                    · have o1 := ho 1 (by kernel_rfl); clear ho; simp [know, dstAt, Region.binds] at hk o1; go_simp; exact hK _ H
                    · clear ho; simp [know, dstAt, Region.binds] at hk
                      first | (refine op_loadT rfl hk.1 ?_ H 0 rfl rfl ?_; (kernel_rfl); exact hK _ H) | (refine op_loadT rfl hk.1 ?_ H 1 rfl rfl ?_; (kernel_rfl); exact hK _ H) | (refine op_load1T rfl hk.1 (by kernel_rfl) ((H.ext 2 rfl).cell Hp.out) ?_; exact hK _ H)
                    · have o3 := ho 3 (by kernel_rfl); clear ho; simp [know, dstAt, Region.binds] at hk o3; go_simp; exact hK _ H
                    · clear ho; simp [know, dstAt, Region.binds] at hk; go_simp; exact hK _ H
                    · clear ho; simp [know, dstAt, Region.binds] at hk; go_simp; exact hK _ H
                    · clear ho; simp [know, dstAt, Region.binds] at hk; go_simp; exact hK _ H
                    · clear ho; simp [know, dstAt, Region.binds] at hk
                      first | (refine op_loadT rfl hk.1 ?_ H 0 rfl rfl ?_; (kernel_rfl); exact hK _ H) | (refine op_loadT rfl hk.1 ?_ H 1 rfl rfl ?_; (kernel_rfl); exact hK _ H) | (refine op_load1T rfl hk.1 (by kernel_rfl) ((H.ext 2 rfl).cell Hp.out) ?_; exact hK _ H)
                    · have o4 := ho 4 (by kernel_rfl); clear ho; simp [know, dstAt, Region.binds] at hk o4; go_simp; exact hK _ H
                    · clear ho; simp [know, dstAt, Region.binds] at hk
                      first | (refine op_loadT rfl hk.1 ?_ H 0 rfl rfl ?_; (kernel_rfl); exact hK _ H) | (refine op_loadT rfl hk.1 ?_ H 1 rfl rfl ?_; (kernel_rfl); exact hK _ H) | (refine op_load1T rfl hk.1 (by kernel_rfl) ((H.ext 2 rfl).cell Hp.out) ?_; exact hK _ H)
                    · clear ho; simp [know, dstAt, Region.binds] at hk; go_simp; exact hK _ H
                    · clear ho; simp [know, dstAt, Region.binds] at hk; go_simp; exact hK _ H
                    · clear ho; simp [know, dstAt, Region.binds] at hk; go_simp; exact hK _ H
                    · clear ho; simp [know, dstAt, Region.binds] at hk; go_simp; exact hK _ H
                    · clear ho; simp [know, dstAt, Region.binds] at hk; go_simp; exact hK _ H
                    · clear ho; simp [know, dstAt, Region.binds] at hk; go_simp; exact hK _ H
                    · clear ho; simp [know, dstAt, Region.binds] at hk; go_simp; exact hK _ H
                  case ins =>
                    iterate 32 (refine ⟨ins_pl rfl (fun _ _ _ => rfl), ?_⟩)
                    exact trivial
                  case jns =>
                    iterate 32 (refine ⟨j_pl (fun _ _ _ => rfl), ?_⟩)
                    exact trivial
                  case fin =>
                    intro E val w5 hE H
                    clear HF hE
                    have HF := H
                    clear H
                    simp [putAll, Act.put]
                    go_wp2_with fail
                    go_ret
                    exact ⟨_, rfl, ⟨fun h => (by cases h), fun h => (by exfalso; have := h.e.2 (k - 1) _ _ Hpv.out (by rw [show k - 1 + 1 = k by omega]; exact Hx.out) (by show k - 1 + 1 < es.length; omega); rw [eo] at this; cases this)⟩, (HF.sel 3 [2]).lift0 H0.out⟩
                | true =>
                  rw [eo] at hge
                  cases efi : fileB xf xo with
                  | false =>
                    skip
                    apply wp_region_eff [] (fun i => (#[[], [], [], [], [], [], [], [], [], [], [], [], [], [], [], [], [], [], [], [], [], [], [], [], [], [], [], [], [], [], [], []] : Array (List Nat)).getD i []) (fun val i => ((_ :: _ :: _ :: _ :: .bool false :: _ :: _ :: .bool true :: _ :: _ :: _ :: _ :: _ :: _ :: _ :: _ :: _ :: _ :: _ :: _ :: .bool false :: _ :: _ :: _ :: _ :: _ :: .bool true :: undef :: undef :: undef :: undef :: _ :: []) : List Value).toArray.getD i undef) (fun E val => At W (Blk g4 (.cells #[.string xn, .int .i64 xf, .int .i64 xo, .int .i64 xs] 39 (0, 0)) :: Blk g1 (.cells #[.int .i64 u, .slice (some b) es.length cape, .slice adl ls.length capl] 25 (0, 0)) :: Arg W :: [])) (by kernel_rfl) (by kernel_rfl) (by kernel_rfl) (by kernel_rfl) (HF)
                    case step =>
                      iterate 27 (refine ⟨eff_pl rfl (fun _ => by rfl) fun E val hn T ds w K H hk ho hK => ?_, ?_⟩; rotate_left)
                      iterate 4 (refine ⟨eff_no rfl (fun _ => by rfl) (fun _ => rfl), ?_⟩)
                      refine ⟨eff_pl rfl (fun _ => by rfl) fun E val hn T ds w K H hk ho hK => ?_, ?_⟩; rotate_left
                      exact trivial
                      · have o4 := ho 4 (by kernel_rfl); clear ho; simp [know, dstAt, Region.binds] at hk o4; go_simp; exact hK _ H
                      · clear ho; simp [know, dstAt, Region.binds] at hk
                        first | (refine op_loadT rfl hk ?_ H 0 rfl rfl ?_; (kernel_rfl); exact hK _ H) | (refine op_loadT rfl hk ?_ H 1 rfl rfl ?_; (kernel_rfl); exact hK _ H) | (refine op_load1T rfl hk (by kernel_rfl) ((H.ext 2 rfl).cell Hp.out) ?_; exact hK _ H)
                      · clear ho; simp [know, dstAt, Region.binds] at hk
                        (go_simp; refine (name H xn).mono ?_; (try rw [enm]); rintro e w' ⟨rfl, H⟩; exact hK _ H)
                      · clear ho; simp [know, dstAt, Region.binds] at hk; go_simp; exact hK _ H
                      · clear ho; simp [know, dstAt, Region.binds] at hk; go_simp; exact hK _ H
                      · have o3 := ho 3 (by kernel_rfl); clear ho; simp [know, dstAt, Region.binds] at hk o3; go_simp; exact hK _ H
                      · clear ho; simp [know, dstAt, Region.binds] at hk; go_simp; exact hK _ H
                      · clear ho; simp [know, dstAt, Region.binds] at hk; go_simp; exact hK _ H
                      · have o1 := ho 1 (by kernel_rfl); clear ho; simp [know, dstAt, Region.binds] at hk o1; go_simp; exact hK _ H
                      · clear ho; simp [know, dstAt, Region.binds] at hk
                        first | (refine op_loadT rfl hk.1 ?_ H 0 rfl rfl ?_; (kernel_rfl); exact hK _ H) | (refine op_loadT rfl hk.1 ?_ H 1 rfl rfl ?_; (kernel_rfl); exact hK _ H) | (refine op_load1T rfl hk.1 (by kernel_rfl) ((H.ext 2 rfl).cell Hp.out) ?_; exact hK _ H)
                      · have o3 := ho 3 (by kernel_rfl); clear ho; simp [know, dstAt, Region.binds] at hk o3; go_simp; exact hK _ H
                      · clear ho; simp [know, dstAt, Region.binds] at hk; go_simp; exact hK _ H
                      · clear ho; simp [know, dstAt, Region.binds] at hk; go_simp; exact hK _ H
                      · clear ho; simp [know, dstAt, Region.binds] at hk; go_simp; exact hK _ H
                      · clear ho; simp [know, dstAt, Region.binds] at hk
                        first | (refine op_loadT rfl hk.1 ?_ H 0 rfl rfl ?_; (kernel_rfl); exact hK _ H) | (refine op_loadT rfl hk.1 ?_ H 1 rfl rfl ?_; (kernel_rfl); exact hK _ H) | (refine op_load1T rfl hk.1 (by kernel_rfl) ((H.ext 2 rfl).cell Hp.out) ?_; exact hK _ H)
                      · have o4 := ho 4 (by kernel_rfl); clear ho; simp [know, dstAt, Region.binds] at hk o4; go_simp; exact hK _ H
                      · clear ho; simp [know, dstAt, Region.binds] at hk
                        first | (refine op_loadT rfl hk.1 ?_ H 0 rfl rfl ?_; (kernel_rfl); exact hK _ H) | (refine op_loadT rfl hk.1 ?_ H 1 rfl rfl ?_; (kernel_rfl); exact hK _ H) | (refine op_load1T rfl hk.1 (by kernel_rfl) ((H.ext 2 rfl).cell Hp.out) ?_; exact hK _ H)
                      · clear ho; simp [know, dstAt, Region.binds] at hk; go_simp; exact hK _ H
                      · clear ho; simp [know, dstAt, Region.binds] at hk; go_simp; exact hK _ H
                      · clear ho; simp [know, dstAt, Region.binds] at hk; go_simp; exact hK _ H
                      · clear ho; simp [know, dstAt, Region.binds] at hk; go_simp; exact hK _ H
                      · have o4 := ho 4 (by kernel_rfl); clear ho; simp [know, dstAt, Region.binds] at hk o4; go_simp; exact hK _ H
                      · clear ho; simp [know, dstAt, Region.binds] at hk
                        first | (refine op_loadsT (T := 27) (n := 2) rfl hk.1 a27 s27 H 0 rfl rfl rfl ?_; exact hK _ H) | (refine op_loadT rfl hk.1 ?_ H 0 rfl rfl ?_; (kernel_rfl); exact hK _ H) | (refine op_loadT rfl hk.1 ?_ H 1 rfl rfl ?_; (kernel_rfl); exact hK _ H) | (refine op_load1T rfl hk.1 (by kernel_rfl) ((H.ext 2 rfl).cell Hp.out) ?_; exact hK _ H)
                      · clear ho; simp [know, dstAt, Region.binds] at hk
                        (go_simp; refine (file H xf xo).mono ?_; (try rw [efi]); rintro e w' ⟨rfl, H⟩; exact hK _ H)
                      · clear ho; simp [know, dstAt, Region.binds] at hk; go_simp; exact hK _ H
                      · clear ho; simp [know, dstAt, Region.binds] at hk; go_simp; exact hK _ H
                      · clear ho; simp [know, dstAt, Region.binds] at hk; go_simp; exact hK _ H
                      · clear ho; simp [know, dstAt, Region.binds] at hk; go_simp; exact hK _ H
                    case ins =>
                      iterate 32 (refine ⟨ins_pl rfl (fun _ _ _ => rfl), ?_⟩)
                      exact trivial
                    case jns =>
                      iterate 32 (refine ⟨j_pl (fun _ _ _ => rfl), ?_⟩)
                      exact trivial
                    case fin =>
                      intro E val w5 hE H
                      clear HF hE
                      have HF := H
                      clear H
                      simp [putAll, Act.put]
                      go_wp2_with fail
                      go_ret
                      exact ⟨_, rfl, ⟨fun h => (by cases h), fun h => (by exfalso; have := (h.e.1 _ _ Hx.out hlt).fi; rw [efi] at this; cases this)⟩, (HF.sel 3 [2]).lift0 H0.out⟩
                  | true =>
                    cases esz : inB xs 0 4294967296 with
                    | false =>
                      skip
                      apply wp_region_eff [] (fun i => (#[[], [], [], [], [], [], [], [], [], [], [], [], [], [], [], [], [], [], [], [], [], [], [], [], [], [], [], [], [], [], [], []] : Array (List Nat)).getD i []) (fun val i => ((_ :: _ :: _ :: _ :: .bool false :: _ :: _ :: .bool true :: _ :: _ :: _ :: _ :: _ :: _ :: _ :: _ :: _ :: _ :: _ :: _ :: .bool false :: _ :: _ :: _ :: _ :: _ :: .bool false :: _ :: _ :: _ :: _ :: _ :: []) : List Value).toArray.getD i undef) (fun E val => At W (Blk g4 (.cells #[.string xn, .int .i64 xf, .int .i64 xo, .int .i64 xs] 39 (0, 0)) :: Blk g1 (.cells #[.int .i64 u, .slice (some b) es.length cape, .slice adl ls.length capl] 25 (0, 0)) :: Arg W :: [])) (by kernel_rfl) (by kernel_rfl) (by kernel_rfl) (by kernel_rfl) (HF)
                      case step =>
                        iterate 32 (refine ⟨eff_pl rfl (fun _ => by rfl) fun E val hn T ds w K H hk ho hK => ?_, ?_⟩; rotate_left)
                        exact trivial
                        · have o4 := ho 4 (by kernel_rfl); clear ho; simp [know, dstAt, Region.binds] at hk o4; go_simp; exact hK _ H
                        · clear ho; simp [know, dstAt, Region.binds] at hk
                          first | (refine op_loadT rfl hk ?_ H 0 rfl rfl ?_; (kernel_rfl); exact hK _ H) | (refine op_loadT rfl hk ?_ H 1 rfl rfl ?_; (kernel_rfl); exact hK _ H) | (refine op_load1T rfl hk (by kernel_rfl) ((H.ext 2 rfl).cell Hp.out) ?_; exact hK _ H)
                        · clear ho; simp [know, dstAt, Region.binds] at hk
                          (go_simp; refine (name H xn).mono ?_; (try rw [enm]); rintro e w' ⟨rfl, H⟩; exact hK _ H)
                        · clear ho; simp [know, dstAt, Region.binds] at hk; go_simp; exact hK _ H
                        · clear ho; simp [know, dstAt, Region.binds] at hk; go_simp; exact hK _ H
                        · have o3 := ho 3 (by kernel_rfl); clear ho; simp [know, dstAt, Region.binds] at hk o3; go_simp; exact hK _ H
                        · clear ho; simp [know, dstAt, Region.binds] at hk; go_simp; exact hK _ H
                        · clear ho; simp [know, dstAt, Region.binds] at hk; go_simp; exact hK _ H
                        · have o1 := ho 1 (by kernel_rfl); clear ho; simp [know, dstAt, Region.binds] at hk o1; go_simp; exact hK _ H
                        · clear ho; simp [know, dstAt, Region.binds] at hk
                          first | (refine op_loadT rfl hk.1 ?_ H 0 rfl rfl ?_; (kernel_rfl); exact hK _ H) | (refine op_loadT rfl hk.1 ?_ H 1 rfl rfl ?_; (kernel_rfl); exact hK _ H) | (refine op_load1T rfl hk.1 (by kernel_rfl) ((H.ext 2 rfl).cell Hp.out) ?_; exact hK _ H)
                        · have o3 := ho 3 (by kernel_rfl); clear ho; simp [know, dstAt, Region.binds] at hk o3; go_simp; exact hK _ H
                        · clear ho; simp [know, dstAt, Region.binds] at hk; go_simp; exact hK _ H
                        · clear ho; simp [know, dstAt, Region.binds] at hk; go_simp; exact hK _ H
                        · clear ho; simp [know, dstAt, Region.binds] at hk; go_simp; exact hK _ H
                        · clear ho; simp [know, dstAt, Region.binds] at hk
                          first | (refine op_loadT rfl hk.1 ?_ H 0 rfl rfl ?_; (kernel_rfl); exact hK _ H) | (refine op_loadT rfl hk.1 ?_ H 1 rfl rfl ?_; (kernel_rfl); exact hK _ H) | (refine op_load1T rfl hk.1 (by kernel_rfl) ((H.ext 2 rfl).cell Hp.out) ?_; exact hK _ H)
                        · have o4 := ho 4 (by kernel_rfl); clear ho; simp [know, dstAt, Region.binds] at hk o4; go_simp; exact hK _ H
                        · clear ho; simp [know, dstAt, Region.binds] at hk
                          first | (refine op_loadT rfl hk.1 ?_ H 0 rfl rfl ?_; (kernel_rfl); exact hK _ H) | (refine op_loadT rfl hk.1 ?_ H 1 rfl rfl ?_; (kernel_rfl); exact hK _ H) | (refine op_load1T rfl hk.1 (by kernel_rfl) ((H.ext 2 rfl).cell Hp.out) ?_; exact hK _ H)
                        · clear ho; simp [know, dstAt, Region.binds] at hk; go_simp; exact hK _ H
                        · clear ho; simp [know, dstAt, Region.binds] at hk; go_simp; exact hK _ H
                        · clear ho; simp [know, dstAt, Region.binds] at hk; go_simp; exact hK _ H
                        · clear ho; simp [know, dstAt, Region.binds] at hk; go_simp; exact hK _ H
                        · have o4 := ho 4 (by kernel_rfl); clear ho; simp [know, dstAt, Region.binds] at hk o4; go_simp; exact hK _ H
                        · clear ho; simp [know, dstAt, Region.binds] at hk
                          first | (refine op_loadsT (T := 27) (n := 2) rfl hk.1 a27 s27 H 0 rfl rfl rfl ?_; exact hK _ H) | (refine op_loadT rfl hk.1 ?_ H 0 rfl rfl ?_; (kernel_rfl); exact hK _ H) | (refine op_loadT rfl hk.1 ?_ H 1 rfl rfl ?_; (kernel_rfl); exact hK _ H) | (refine op_load1T rfl hk.1 (by kernel_rfl) ((H.ext 2 rfl).cell Hp.out) ?_; exact hK _ H)
                        · clear ho; simp [know, dstAt, Region.binds] at hk
                          (go_simp; refine (file H xf xo).mono ?_; (try rw [efi]); rintro e w' ⟨rfl, H⟩; exact hK _ H)
                        · clear ho; simp [know, dstAt, Region.binds] at hk; go_simp; exact hK _ H
                        · clear ho; simp [know, dstAt, Region.binds] at hk; go_simp; exact hK _ H
                        · clear ho; simp [know, dstAt, Region.binds] at hk; go_simp; exact hK _ H
                        · have o4 := ho 4 (by kernel_rfl); clear ho; simp [know, dstAt, Region.binds] at hk o4; go_simp; exact hK _ H
                        · clear ho; simp [know, dstAt, Region.binds] at hk
                          first | (refine op_loadT rfl hk.1 ?_ H 0 rfl rfl ?_; (kernel_rfl); exact hK _ H) | (refine op_loadT rfl hk.1 ?_ H 1 rfl rfl ?_; (kernel_rfl); exact hK _ H) | (refine op_load1T rfl hk.1 (by kernel_rfl) ((H.ext 2 rfl).cell Hp.out) ?_; exact hK _ H)
                        · clear ho; simp [know, dstAt, Region.binds] at hk
                          (go_simp; refine (within2 H xs 0 4294967296).mono ?_; (try rw [esz]); rintro e w' ⟨rfl, H⟩; exact hK _ H)
                        · clear ho; simp [know, dstAt, Region.binds] at hk; go_simp; exact hK _ H
                        · clear ho; simp [know, dstAt, Region.binds] at hk; go_simp; exact hK _ H
                      case ins =>
                        iterate 32 (refine ⟨ins_pl rfl (fun _ _ _ => rfl), ?_⟩)
                        exact trivial
                      case jns =>
                        iterate 32 (refine ⟨j_pl (fun _ _ _ => rfl), ?_⟩)
                        exact trivial
                      case fin =>
                        intro E val w5 hE H
                        clear HF hE
                        have HF := H
                        clear H
                        simp [putAll, Act.put]
                        go_wp2_with fail
                        go_ret
                        exact ⟨_, rfl, ⟨fun h => (by cases h), fun h => (by exfalso; have := (h.e.1 _ _ Hx.out hlt).sz; rw [esz] at this; cases this)⟩, (HF.sel 3 [2]).lift0 H0.out⟩
                    | true =>
                      skip
                      apply wp_region_eff [] (fun i => (#[[], [], [], [], [], [], [], [], [], [], [], [], [], [], [], [], [], [], [], [], [], [], [], [], [], [], [], [], [], [], [], []] : Array (List Nat)).getD i []) (fun val i => ((_ :: _ :: _ :: _ :: .bool false :: _ :: _ :: .bool true :: _ :: _ :: _ :: _ :: _ :: _ :: _ :: _ :: _ :: _ :: _ :: _ :: .bool false :: _ :: _ :: _ :: _ :: _ :: .bool false :: _ :: _ :: _ :: _ :: _ :: []) : List Value).toArray.getD i undef) (fun E val => At W (Blk g4 (.cells #[.string xn, .int .i64 xf, .int .i64 xo, .int .i64 xs] 39 (0, 0)) :: Blk g1 (.cells #[.int .i64 u, .slice (some b) es.length cape, .slice adl ls.length capl] 25 (0, 0)) :: Arg W :: [])) (by kernel_rfl) (by kernel_rfl) (by kernel_rfl) (by kernel_rfl) (HF)
                      case step =>
                        iterate 32 (refine ⟨eff_pl rfl (fun _ => by rfl) fun E val hn T ds w K H hk ho hK => ?_, ?_⟩; rotate_left)
                        exact trivial
                        · have o4 := ho 4 (by kernel_rfl); clear ho; simp [know, dstAt, Region.binds] at hk o4; go_simp; exact hK _ H
                        · clear ho; simp [know, dstAt, Region.binds] at hk
                          first | (refine op_loadT rfl hk ?_ H 0 rfl rfl ?_; (kernel_rfl); exact hK _ H) | (refine op_loadT rfl hk ?_ H 1 rfl rfl ?_; (kernel_rfl); exact hK _ H) | (refine op_load1T rfl hk (by kernel_rfl) ((H.ext 2 rfl).cell Hp.out) ?_; exact hK _ H)
                        · clear ho; simp [know, dstAt, Region.binds] at hk
                          (go_simp; refine (name H xn).mono ?_; (try rw [enm]); rintro e w' ⟨rfl, H⟩; exact hK _ H)
                        · clear ho; simp [know, dstAt, Region.binds] at hk; go_simp; exact hK _ H
                        · clear ho; simp [know, dstAt, Region.binds] at hk; go_simp; exact hK _ H
                        · have o3 := ho 3 (by kernel_rfl); clear ho; simp [know, dstAt, Region.binds] at hk o3; go_simp; exact hK _ H
                        · clear ho; simp [know, dstAt, Region.binds] at hk; go_simp; exact hK _ H
                        · clear ho; simp [know, dstAt, Region.binds] at hk; go_simp; exact hK _ H
                        · have o1 := ho 1 (by kernel_rfl); clear ho; simp [know, dstAt, Region.binds] at hk o1; go_simp; exact hK _ H
                        · clear ho; simp [know, dstAt, Region.binds] at hk
                          first | (refine op_loadT rfl hk.1 ?_ H 0 rfl rfl ?_; (kernel_rfl); exact hK _ H) | (refine op_loadT rfl hk.1 ?_ H 1 rfl rfl ?_; (kernel_rfl); exact hK _ H) | (refine op_load1T rfl hk.1 (by kernel_rfl) ((H.ext 2 rfl).cell Hp.out) ?_; exact hK _ H)
                        · have o3 := ho 3 (by kernel_rfl); clear ho; simp [know, dstAt, Region.binds] at hk o3; go_simp; exact hK _ H
                        · clear ho; simp [know, dstAt, Region.binds] at hk; go_simp; exact hK _ H
                        · clear ho; simp [know, dstAt, Region.binds] at hk; go_simp; exact hK _ H
                        · clear ho; simp [know, dstAt, Region.binds] at hk; go_simp; exact hK _ H
                        · clear ho; simp [know, dstAt, Region.binds] at hk
                          first | (refine op_loadT rfl hk.1 ?_ H 0 rfl rfl ?_; (kernel_rfl); exact hK _ H) | (refine op_loadT rfl hk.1 ?_ H 1 rfl rfl ?_; (kernel_rfl); exact hK _ H) | (refine op_load1T rfl hk.1 (by kernel_rfl) ((H.ext 2 rfl).cell Hp.out) ?_; exact hK _ H)
                        · have o4 := ho 4 (by kernel_rfl); clear ho; simp [know, dstAt, Region.binds] at hk o4; go_simp; exact hK _ H
                        · clear ho; simp [know, dstAt, Region.binds] at hk
                          first | (refine op_loadT rfl hk.1 ?_ H 0 rfl rfl ?_; (kernel_rfl); exact hK _ H) | (refine op_loadT rfl hk.1 ?_ H 1 rfl rfl ?_; (kernel_rfl); exact hK _ H) | (refine op_load1T rfl hk.1 (by kernel_rfl) ((H.ext 2 rfl).cell Hp.out) ?_; exact hK _ H)
                        · clear ho; simp [know, dstAt, Region.binds] at hk; go_simp; exact hK _ H
                        · clear ho; simp [know, dstAt, Region.binds] at hk; go_simp; exact hK _ H
                        · clear ho; simp [know, dstAt, Region.binds] at hk; go_simp; exact hK _ H
                        · clear ho; simp [know, dstAt, Region.binds] at hk; go_simp; exact hK _ H
                        · have o4 := ho 4 (by kernel_rfl); clear ho; simp [know, dstAt, Region.binds] at hk o4; go_simp; exact hK _ H
                        · clear ho; simp [know, dstAt, Region.binds] at hk
                          first | (refine op_loadsT (T := 27) (n := 2) rfl hk.1 a27 s27 H 0 rfl rfl rfl ?_; exact hK _ H) | (refine op_loadT rfl hk.1 ?_ H 0 rfl rfl ?_; (kernel_rfl); exact hK _ H) | (refine op_loadT rfl hk.1 ?_ H 1 rfl rfl ?_; (kernel_rfl); exact hK _ H) | (refine op_load1T rfl hk.1 (by kernel_rfl) ((H.ext 2 rfl).cell Hp.out) ?_; exact hK _ H)
                        · clear ho; simp [know, dstAt, Region.binds] at hk
                          (go_simp; refine (file H xf xo).mono ?_; (try rw [efi]); rintro e w' ⟨rfl, H⟩; exact hK _ H)
                        · clear ho; simp [know, dstAt, Region.binds] at hk; go_simp; exact hK _ H
                        · clear ho; simp [know, dstAt, Region.binds] at hk; go_simp; exact hK _ H
                        · clear ho; simp [know, dstAt, Region.binds] at hk; go_simp; exact hK _ H
                        · have o4 := ho 4 (by kernel_rfl); clear ho; simp [know, dstAt, Region.binds] at hk o4; go_simp; exact hK _ H
                        · clear ho; simp [know, dstAt, Region.binds] at hk
                          first | (refine op_loadT rfl hk.1 ?_ H 0 rfl rfl ?_; (kernel_rfl); exact hK _ H) | (refine op_loadT rfl hk.1 ?_ H 1 rfl rfl ?_; (kernel_rfl); exact hK _ H) | (refine op_load1T rfl hk.1 (by kernel_rfl) ((H.ext 2 rfl).cell Hp.out) ?_; exact hK _ H)
                        · clear ho; simp [know, dstAt, Region.binds] at hk
                          (go_simp; refine (within2 H xs 0 4294967296).mono ?_; (try rw [esz]); rintro e w' ⟨rfl, H⟩; exact hK _ H)
                        · clear ho; simp [know, dstAt, Region.binds] at hk; go_simp; exact hK _ H
                        · clear ho; simp [know, dstAt, Region.binds] at hk; go_simp; exact hK _ H
                      case ins =>
                        iterate 32 (refine ⟨ins_pl rfl (fun _ _ _ => rfl), ?_⟩)
                        exact trivial
                      case jns =>
                        iterate 32 (refine ⟨j_pl (fun _ _ _ => rfl), ?_⟩)
                        exact trivial
                      case fin =>
                        intro E val w5 hE H
                        clear HF hE
                        have HF := H
                        clear H
                        simp [putAll, Act.put]
                        go_wp2_with fail
                        go_roundw
                        case rel => exact ⟨_ + 1, by omega, rfl, Lib.hid (es_succ HI.out Hx.out ⟨enm, efi, esz⟩ (fun p _ hp => by rw [Hpv.out] at hp; cases hp; exact eo)), HF.sel 3 [1, 2]⟩
                        case measure => simp [intOf]; omega
          · have g1x : ¬ (k : Int) < es.length := by omega
            have hkk : k = es.length := by omega
            have HE := Lib.hid (show EsOk es es.length by have := HI.out; rw [hkk] at this; exact this)
            clear hkk HI
            go_wp2_with ((with_reducible refine k_load ?_); refine st_load rfl _ _ rfl _ _ rfl ?_ HF 0 rfl rfl ?_; (kernel_rfl); (intro K hK; go_simp))
            go_loopw [5] (fun i wr => ∃ k : Nat, k ≤ ls.length ∧ i = .int .i64 k ∧ Hid (LsOk u ls k) ∧ At W (Blk g1 (.cells #[.int .i64 u, .slice ade es.length cape, .slice adl ls.length capl] 25 (0, 0)) :: Arg W :: []) wr) (fun i _ => ls.length - (intOf i).toNat)
            case atStart => exact ⟨0, Nat.zero_le _, rfl, Lib.hid ⟨fun j e _ h => absurd h (Nat.not_lt_zero _), fun j p q _ _ h => absurd h (by omega)⟩, HF⟩
            case round =>
              clear HF
              obtain ⟨k, hk, rfl, HI, HF⟩ := hrel
              by_cases hlt : k < ls.length
              · have g1x : (k : Int) < ls.length := by omega
                obtain ⟨b, rfl⟩ := D3.out (by omega)
                obtain ⟨x, hx⟩ : ∃ x, ls[k]? = some x := ⟨_, List.getElem?_eq_getElem hlt⟩
                have Hc := Lib.hid (recs_get (Q.out.ext (HF.ext 1 rfl)) hx)
                have Hx := Lib.hid hx
                obtain ⟨xc, xo, xi, xe, xf, xg, xz⟩ := x
                clear hx
                go_wp2_with (first | ((with_reducible refine k_load (T := 53) ?_); refine st_loadCells rfl _ _ rfl _ rfl a53 [.int .i64 xc, .int .i64 xo, .int .i64 xi, .int .i64 xe, .int .i64 xf, .int .i64 xg, .int .i64 xz] s53 Hc.out ?_; (intro K hK; go_simp)) | ((with_reducible refine k_alloc (T := 53) ?_); refine st_alloc rfl _ rfl _ z53 _ rfl HF ?_; (clear HF; intro g6 w HF K hK; simp only [Value.cells] at HF; go_simp)) | ((with_reducible refine k_store (T := 53) ?_); refine st_put rfl _ _ _ rfl _ rfl _ rfl ?_ s53 HF 0 rfl rfl ?_; (simp [Value.oneCell']); (clear HF; intro w HF K hK; simp only [List.set_cons_zero, List.set_cons_succ, Act.eval, Value.cells, Array.getD_eq_getD_getElem?, List.getElem?_toArray, List.getElem?_cons_succ, List.getElem?_cons_zero, Option.getD_some] at HF; go_simp)) | ((with_reducible refine k_load ?_); refine st_load rfl _ _ rfl _ _ rfl ?_ HF 0 rfl rfl ?_; (kernel_rfl); (intro K hK; go_simp)))
                cases ecl : inB xc 1 255 with
                | false =>
                  skip
                  apply wp_region_eff [] (fun i => (#[[], [], [], [], [], [], [], [], [], [], [], [], [], [], [], [], [], [], [], [], [], [], [], [], [], [], [], [], [], [], [], [], [], [], [], [], [], [], []] : Array (List Nat)).getD i []) (fun val i => ((_ :: _ :: _ :: _ :: .bool true :: undef :: undef :: undef :: undef :: _ :: .bool true :: undef :: undef :: undef :: undef :: undef :: undef :: _ :: .bool true :: undef :: undef :: undef :: undef :: undef :: undef :: undef :: undef :: undef :: undef :: undef :: undef :: undef :: undef :: _ :: .bool true :: undef :: undef :: undef :: _ :: []) : List Value).toArray.getD i undef) (fun E val => At W (Blk g6 (.cells #[.int .i64 xc, .int .i64 xo, .int .i64 xi, .int .i64 xe, .int .i64 xf, .int .i64 xg, .int .i64 xz] 53 (0, 0)) :: Blk g1 (.cells #[.int .i64 u, .slice ade es.length cape, .slice (some b) ls.length capl] 25 (0, 0)) :: Arg W :: [])) (by kernel_rfl) (by kernel_rfl) (by kernel_rfl) (by kernel_rfl) (HF)
                  case step =>
                    iterate 5 (refine ⟨eff_pl rfl (fun _ => by rfl) fun E val hn T ds w K H hk ho hK => ?_, ?_⟩; rotate_left)
                    iterate 4 (refine ⟨eff_no rfl (fun _ => by rfl) (fun _ => rfl), ?_⟩)
                    iterate 2 (refine ⟨eff_pl rfl (fun _ => by rfl) fun E val hn T ds w K H hk ho hK => ?_, ?_⟩; rotate_left)
                    iterate 6 (refine ⟨eff_no rfl (fun _ => by rfl) (fun _ => rfl), ?_⟩)
                    iterate 2 (refine ⟨eff_pl rfl (fun _ => by rfl) fun E val hn T ds w K H hk ho hK => ?_, ?_⟩; rotate_left)
                    iterate 14 (refine ⟨eff_no rfl (fun _ => by rfl) (fun _ => rfl), ?_⟩)
                    iterate 2 (refine ⟨eff_pl rfl (fun _ => by rfl) fun E val hn T ds w K H hk ho hK => ?_, ?_⟩; rotate_left)
                    iterate 3 (refine ⟨eff_no rfl (fun _ => by rfl) (fun _ => rfl), ?_⟩)
                    refine ⟨eff_pl rfl (fun _ => by rfl) fun E val hn T ds w K H hk ho hK => ?_, ?_⟩; rotate_left
                    exact trivial
                    · have o6 := ho 6 (by kernel_rfl); clear ho; simp [know, dstAt, Region.binds] at hk o6; go_simp; exact hK _ H
                    · clear ho; simp [know, dstAt, Region.binds] at hk
                      first | (refine op_loadT rfl hk ?_ H 0 rfl rfl ?_; (kernel_rfl); exact hK _ H) | (refine op_loadT rfl hk ?_ H 1 rfl rfl ?_; (kernel_rfl); exact hK _ H)
                    · clear ho; simp [know, dstAt, Region.binds] at hk
                      (go_simp; refine (within2 H xc 1 255).mono ?_; (try rw [ecl]); rintro e w' ⟨rfl, H⟩; exact hK _ H)
                    · clear ho; simp [know, dstAt, Region.binds] at hk; go_simp; exact hK _ H
                    · clear ho; simp [know, dstAt, Region.binds] at hk; go_simp; exact hK _ H
                    · clear ho; simp [know, dstAt, Region.binds] at hk; go_simp; exact hK _ H
                    · clear ho; simp [know, dstAt, Region.binds] at hk; go_simp; exact hK _ H
                    · clear ho; simp [know, dstAt, Region.binds] at hk; go_simp; exact hK _ H
                    · clear ho; simp [know, dstAt, Region.binds] at hk; go_simp; exact hK _ H
                    · clear ho; simp [know, dstAt, Region.binds] at hk; go_simp; exact hK _ H
                    · clear ho; simp [know, dstAt, Region.binds] at hk; go_simp; exact hK _ H
                    · clear ho; simp [know, dstAt, Region.binds] at hk; go_simp; exact hK _ H
                  case ins =>
                    iterate 39 (refine ⟨ins_pl rfl (fun _ _ _ => rfl), ?_⟩)
                    exact trivial
                  case jns =>
                    iterate 39 (refine ⟨j_pl (fun _ _ _ => rfl), ?_⟩)
                    exact trivial
                  case fin =>
                    intro E val w5 hE H
                    clear HF hE
                    have HF := H
                    clear H
                    simp [putAll, Act.put]
                    go_wp2_with fail
                    go_ret
                    exact ⟨_, rfl, ⟨fun h => (by cases h), fun h => (by exfalso; have := (h.l.1 _ _ Hx.out hlt).cl; rw [ecl] at this; cases this)⟩, (HF.sel 3 [2]).lift0 H0.out⟩
                | true =>
                  cases eop : inB xo 1 1099511627776 with
                  | false =>
                    skip
                    apply wp_region_eff [] (fun i => (#[[], [], [], [], [], [], [], [], [], [], [], [], [], [], [], [], [], [], [], [], [], [], [], [], [], [], [], [], [], [], [], [], [], [], [], [], [], [], []] : Array (List Nat)).getD i []) (fun val i => ((_ :: _ :: _ :: _ :: .bool false :: _ :: _ :: _ :: _ :: _ :: .bool true :: undef :: undef :: undef :: undef :: undef :: undef :: _ :: .bool true :: undef :: undef :: undef :: undef :: undef :: undef :: undef :: undef :: undef :: undef :: undef :: undef :: undef :: undef :: _ :: .bool true :: undef :: undef :: undef :: _ :: []) : List Value).toArray.getD i undef) (fun E val => At W (Blk g6 (.cells #[.int .i64 xc, .int .i64 xo, .int .i64 xi, .int .i64 xe, .int .i64 xf, .int .i64 xg, .int .i64 xz] 53 (0, 0)) :: Blk g1 (.cells #[.int .i64 u, .slice ade es.length cape, .slice (some b) ls.length capl] 25 (0, 0)) :: Arg W :: [])) (by kernel_rfl) (by kernel_rfl) (by kernel_rfl) (by kernel_rfl) (HF)
                    case step =>
                      iterate 11 (refine ⟨eff_pl rfl (fun _ => by rfl) fun E val hn T ds w K H hk ho hK => ?_, ?_⟩; rotate_left)
                      iterate 6 (refine ⟨eff_no rfl (fun _ => by rfl) (fun _ => rfl), ?_⟩)
                      iterate 2 (refine ⟨eff_pl rfl (fun _ => by rfl) fun E val hn T ds w K H hk ho hK => ?_, ?_⟩; rotate_left)
                      iterate 14 (refine ⟨eff_no rfl (fun _ => by rfl) (fun _ => rfl), ?_⟩)
                      iterate 2 (refine ⟨eff_pl rfl (fun _ => by rfl) fun E val hn T ds w K H hk ho hK => ?_, ?_⟩; rotate_left)
                      iterate 3 (refine ⟨eff_no rfl (fun _ => by rfl) (fun _ => rfl), ?_⟩)
                      refine ⟨eff_pl rfl (fun _ => by rfl) fun E val hn T ds w K H hk ho hK => ?_, ?_⟩; rotate_left
                      exact trivial
                      · have o6 := ho 6 (by kernel_rfl); clear ho; simp [know, dstAt, Region.binds] at hk o6; go_simp; exact hK _ H
                      · clear ho; simp [know, dstAt, Region.binds] at hk
                        first | (refine op_loadT rfl hk ?_ H 0 rfl rfl ?_; (kernel_rfl); exact hK _ H) | (refine op_loadT rfl hk ?_ H 1 rfl rfl ?_; (kernel_rfl); exact hK _ H)
                      · clear ho; simp [know, dstAt, Region.binds] at hk
                        (go_simp; refine (within2 H xc 1 255).mono ?_; (try rw [ecl]); rintro e w' ⟨rfl, H⟩; exact hK _ H)
                      · clear ho; simp [know, dstAt, Region.binds] at hk; go_simp; exact hK _ H
                      · clear ho; simp [know, dstAt, Region.binds] at hk; go_simp; exact hK _ H
                      · have o6 := ho 6 (by kernel_rfl); clear ho; simp [know, dstAt, Region.binds] at hk o6; go_simp; exact hK _ H
                      · clear ho; simp [know, dstAt, Region.binds] at hk
                        first | (refine op_loadT rfl hk.1 ?_ H 0 rfl rfl ?_; (kernel_rfl); exact hK _ H) | (refine op_loadT rfl hk.1 ?_ H 1 rfl rfl ?_; (kernel_rfl); exact hK _ H)
                      · clear ho; simp [know, dstAt, Region.binds] at hk
                        (go_simp; refine (within2 H xo 1 1099511627776).mono ?_; (try rw [eop]); rintro e w' ⟨rfl, H⟩; exact hK _ H)
                      · clear ho; simp [know, dstAt, Region.binds] at hk; go_simp; exact hK _ H
                      · clear ho; simp [know, dstAt, Region.binds] at hk; go_simp; exact hK _ H
                      · clear ho; simp [know, dstAt, Region.binds] at hk; go_simp; exact hK _ H
                      · clear ho; simp [know, dstAt, Region.binds] at hk; go_simp; exact hK _ H
                      · clear ho; simp [know, dstAt, Region.binds] at hk; go_simp; exact hK _ H
                      · clear ho; simp [know, dstAt, Region.binds] at hk; go_simp; exact hK _ H
                      · clear ho; simp [know, dstAt, Region.binds] at hk; go_simp; exact hK _ H
                      · clear ho; simp [know, dstAt, Region.binds] at hk; go_simp; exact hK _ H
                    case ins =>
                      iterate 39 (refine ⟨ins_pl rfl (fun _ _ _ => rfl), ?_⟩)
                      exact trivial
                    case jns =>
                      iterate 39 (refine ⟨j_pl (fun _ _ _ => rfl), ?_⟩)
                      exact trivial
                    case fin =>
                      intro E val w5 hE H
                      clear HF hE
                      have HF := H
                      clear H
                      simp [putAll, Act.put]
                      go_wp2_with fail
                      go_ret
                      exact ⟨_, rfl, ⟨fun h => (by cases h), fun h => (by exfalso; have := (h.l.1 _ _ Hx.out hlt).op; rw [eop] at this; cases this)⟩, (HF.sel 3 [2]).lift0 H0.out⟩
                  | true =>
                    cases ein : inB xi 1 u with
                    | false =>
                      skip
                      apply wp_region_eff [] (fun i => (#[[], [], [], [], [], [], [], [], [], [], [], [], [], [], [], [], [], [], [], [], [], [], [], [], [], [], [], [], [], [], [], [], [], [], [], [], [], [], []] : Array (List Nat)).getD i []) (fun val i => ((_ :: _ :: _ :: _ :: .bool false :: _ :: _ :: _ :: _ :: _ :: .bool false :: _ :: _ :: _ :: _ :: _ :: _ :: _ :: .bool true :: undef :: undef :: undef :: undef :: undef :: undef :: undef :: undef :: undef :: undef :: undef :: undef :: undef :: undef :: _ :: .bool true :: undef :: undef :: undef :: _ :: []) : List Value).toArray.getD i undef) (fun E val => At W (Blk g6 (.cells #[.int .i64 xc, .int .i64 xo, .int .i64 xi, .int .i64 xe, .int .i64 xf, .int .i64 xg, .int .i64 xz] 53 (0, 0)) :: Blk g1 (.cells #[.int .i64 u, .slice ade es.length cape, .slice (some b) ls.length capl] 25 (0, 0)) :: Arg W :: [])) (by kernel_rfl) (by kernel_rfl) (by kernel_rfl) (by kernel_rfl) (HF)
                      case step =>
                        iterate 19 (refine ⟨eff_pl rfl (fun _ => by rfl) fun E val hn T ds w K H hk ho hK => ?_, ?_⟩; rotate_left)
                        iterate 14 (refine ⟨eff_no rfl (fun _ => by rfl) (fun _ => rfl), ?_⟩)
                        iterate 2 (refine ⟨eff_pl rfl (fun _ => by rfl) fun E val hn T ds w K H hk ho hK => ?_, ?_⟩; rotate_left)
                        iterate 3 (refine ⟨eff_no rfl (fun _ => by rfl) (fun _ => rfl), ?_⟩)
                        refine ⟨eff_pl rfl (fun _ => by rfl) fun E val hn T ds w K H hk ho hK => ?_, ?_⟩; rotate_left
                        exact trivial
                        · have o6 := ho 6 (by kernel_rfl); clear ho; simp [know, dstAt, Region.binds] at hk o6; go_simp; exact hK _ H
                        · clear ho; simp [know, dstAt, Region.binds] at hk
                          first | (refine op_loadT rfl hk ?_ H 0 rfl rfl ?_; (kernel_rfl); exact hK _ H) | (refine op_loadT rfl hk ?_ H 1 rfl rfl ?_; (kernel_rfl); exact hK _ H)
                        · clear ho; simp [know, dstAt, Region.binds] at hk
                          (go_simp; refine (within2 H xc 1 255).mono ?_; (try rw [ecl]); rintro e w' ⟨rfl, H⟩; exact hK _ H)
                        · clear ho; simp [know, dstAt, Region.binds] at hk; go_simp; exact hK _ H
                        · clear ho; simp [know, dstAt, Region.binds] at hk; go_simp; exact hK _ H
                        · have o6 := ho 6 (by kernel_rfl); clear ho; simp [know, dstAt, Region.binds] at hk o6; go_simp; exact hK _ H
                        · clear ho; simp [know, dstAt, Region.binds] at hk
                          first | (refine op_loadT rfl hk.1 ?_ H 0 rfl rfl ?_; (kernel_rfl); exact hK _ H) | (refine op_loadT rfl hk.1 ?_ H 1 rfl rfl ?_; (kernel_rfl); exact hK _ H)
                        · clear ho; simp [know, dstAt, Region.binds] at hk
                          (go_simp; refine (within2 H xo 1 1099511627776).mono ?_; (try rw [eop]); rintro e w' ⟨rfl, H⟩; exact hK _ H)
                        · clear ho; simp [know, dstAt, Region.binds] at hk; go_simp; exact hK _ H
                        · clear ho; simp [know, dstAt, Region.binds] at hk; go_simp; exact hK _ H
                        · clear ho; simp [know, dstAt, Region.binds] at hk; go_simp; exact hK _ H
                        · have o6 := ho 6 (by kernel_rfl); clear ho; simp [know, dstAt, Region.binds] at hk o6; go_simp; exact hK _ H
                        · clear ho; simp [know, dstAt, Region.binds] at hk
                          first | (refine op_loadT rfl hk.1 ?_ H 0 rfl rfl ?_; (kernel_rfl); exact hK _ H) | (refine op_loadT rfl hk.1 ?_ H 1 rfl rfl ?_; (kernel_rfl); exact hK _ H)
                        · have o1 := ho 1 (by kernel_rfl); clear ho; simp [know, dstAt, Region.binds] at hk o1; go_simp; exact hK _ H
                        · clear ho; simp [know, dstAt, Region.binds] at hk
                          first | (refine op_loadT rfl hk.1 ?_ H 0 rfl rfl ?_; (kernel_rfl); exact hK _ H) | (refine op_loadT rfl hk.1 ?_ H 1 rfl rfl ?_; (kernel_rfl); exact hK _ H)
                        · clear ho; simp [know, dstAt, Region.binds] at hk
                          (go_simp; refine (within2 H xi 1 u).mono ?_; (try rw [ein]); rintro e w' ⟨rfl, H⟩; exact hK _ H)
                        · clear ho; simp [know, dstAt, Region.binds] at hk; go_simp; exact hK _ H
                        · clear ho; simp [know, dstAt, Region.binds] at hk; go_simp; exact hK _ H
                        · clear ho; simp [know, dstAt, Region.binds] at hk; go_simp; exact hK _ H
                        · clear ho; simp [know, dstAt, Region.binds] at hk; go_simp; exact hK _ H
                        · clear ho; simp [know, dstAt, Region.binds] at hk; go_simp; exact hK _ H
                        · clear ho; simp [know, dstAt, Region.binds] at hk; go_simp; exact hK _ H
                      case ins =>
                        iterate 39 (refine ⟨ins_pl rfl (fun _ _ _ => rfl), ?_⟩)
                        exact trivial
                      case jns =>
                        iterate 39 (refine ⟨j_pl (fun _ _ _ => rfl), ?_⟩)
                        exact trivial
                      case fin =>
                        intro E val w5 hE H
                        clear HF hE
                        have HF := H
                        clear H
                        simp [putAll, Act.put]
                        go_wp2_with fail
                        go_ret
                        exact ⟨_, rfl, ⟨fun h => (by cases h), fun h => (by exfalso; have := (h.l.1 _ _ Hx.out hlt).ins; rw [ein] at this; cases this)⟩, (HF.sel 3 [2]).lift0 H0.out⟩
                    | true =>
                      by_cases hk0 : k = 0
                      · subst hk0
                        cases ela : lastB ⟨xc, xo, xi, xe, xf, xg, xz⟩ with
                        | false =>
                          skip
                          apply wp_region_eff [] (fun i => (#[[], [], [], [], [], [], [], [], [], [], [], [], [], [], [], [], [], [], [], [], [], [], [], [], [], [], [], [], [], [], [], [], [], [], [], [], [], [], []] : Array (List Nat)).getD i []) (fun val i => ((_ :: _ :: _ :: _ :: .bool false :: _ :: _ :: _ :: _ :: _ :: .bool false :: _ :: _ :: _ :: _ :: _ :: _ :: _ :: .bool false :: _ :: _ :: .bool false :: undef :: undef :: undef :: undef :: undef :: undef :: undef :: undef :: undef :: undef :: _ :: _ :: .bool false :: _ :: _ :: _ :: _ :: []) : List Value).toArray.getD i undef) (fun E val => At W (Blk g6 (.cells #[.int .i64 xc, .int .i64 xo, .int .i64 xi, .int .i64 xe, .int .i64 xf, .int .i64 xg, .int .i64 xz] 53 (0, 0)) :: Blk g1 (.cells #[.int .i64 u, .slice ade es.length cape, .slice (some b) ls.length capl] 25 (0, 0)) :: Arg W :: [])) (by kernel_rfl) (by kernel_rfl) (by kernel_rfl) (by kernel_rfl) (HF)
                          case step =>
                            iterate 22 (refine ⟨eff_pl rfl (fun _ => by rfl) fun E val hn T ds w K H hk ho hK => ?_, ?_⟩; rotate_left)
                            iterate 10 (refine ⟨eff_no rfl (fun _ => by rfl) (fun _ => rfl), ?_⟩)
                            iterate 7 (refine ⟨eff_pl rfl (fun _ => by rfl) fun E val hn T ds w K H hk ho hK => ?_, ?_⟩; rotate_left)
                            exact trivial
                            · have o6 := ho 6 (by kernel_rfl); clear ho; simp [know, dstAt, Region.binds] at hk o6; go_simp; exact hK _ H
                            · clear ho; simp [know, dstAt, Region.binds] at hk
                              first | (refine op_loadT rfl hk ?_ H 0 rfl rfl ?_; (kernel_rfl); exact hK _ H) | (refine op_loadT rfl hk ?_ H 1 rfl rfl ?_; (kernel_rfl); exact hK _ H)
                            · clear ho; simp [know, dstAt, Region.binds] at hk
                              (go_simp; refine (within2 H xc 1 255).mono ?_; (try rw [ecl]); rintro e w' ⟨rfl, H⟩; exact hK _ H)
                            · clear ho; simp [know, dstAt, Region.binds] at hk; go_simp; exact hK _ H
                            · clear ho; simp [know, dstAt, Region.binds] at hk; go_simp; exact hK _ H
                            · have o6 := ho 6 (by kernel_rfl); clear ho; simp [know, dstAt, Region.binds] at hk o6; go_simp; exact hK _ H
                            · clear ho; simp [know, dstAt, Region.binds] at hk
                              first | (refine op_loadT rfl hk.1 ?_ H 0 rfl rfl ?_; (kernel_rfl); exact hK _ H) | (refine op_loadT rfl hk.1 ?_ H 1 rfl rfl ?_; (kernel_rfl); exact hK _ H)
                            · clear ho; simp [know, dstAt, Region.binds] at hk
                              (go_simp; refine (within2 H xo 1 1099511627776).mono ?_; (try rw [eop]); rintro e w' ⟨rfl, H⟩; exact hK _ H)
                            · clear ho; simp [know, dstAt, Region.binds] at hk; go_simp; exact hK _ H
                            · clear ho; simp [know, dstAt, Region.binds] at hk; go_simp; exact hK _ H
                            · clear ho; simp [know, dstAt, Region.binds] at hk; go_simp; exact hK _ H
                            · have o6 := ho 6 (by kernel_rfl); clear ho; simp [know, dstAt, Region.binds] at hk o6; go_simp; exact hK _ H
                            · clear ho; simp [know, dstAt, Region.binds] at hk
                              first | (refine op_loadT rfl hk.1 ?_ H 0 rfl rfl ?_; (kernel_rfl); exact hK _ H) | (refine op_loadT rfl hk.1 ?_ H 1 rfl rfl ?_; (kernel_rfl); exact hK _ H)
                            · have o1 := ho 1 (by kernel_rfl); clear ho; simp [know, dstAt, Region.binds] at hk o1; go_simp; exact hK _ H
                            · clear ho; simp [know, dstAt, Region.binds] at hk
                              first | (refine op_loadT rfl hk.1 ?_ H 0 rfl rfl ?_; (kernel_rfl); exact hK _ H) | (refine op_loadT rfl hk.1 ?_ H 1 rfl rfl ?_; (kernel_rfl); exact hK _ H)
                            · clear ho; simp [know, dstAt, Region.binds] at hk
                              (go_simp; refine (within2 H xi 1 u).mono ?_; (try rw [ein]); rintro e w' ⟨rfl, H⟩; exact hK _ H)
                            · clear ho; simp [know, dstAt, Region.binds] at hk; go_simp; exact hK _ H
                            · clear ho; simp [know, dstAt, Region.binds] at hk; go_simp; exact hK _ H
                            · clear ho; simp [know, dstAt, Region.binds] at hk; go_simp; exact hK _ H
                            · have o5 := ho 5 (by kernel_rfl); clear ho; simp [know, dstAt, Region.binds] at hk o5; go_simp; exact hK _ H
                            · clear ho; simp [know, dstAt, Region.binds] at hk; go_simp; exact hK _ H
                            · clear ho; simp [know, dstAt, Region.binds] at hk; go_simp; exact hK _ H
                            · clear ho; simp [know, dstAt, Region.binds] at hk; go_simp; exact hK _ H
                            · clear ho; simp [know, dstAt, Region.binds] at hk; go_simp; exact hK _ H
                            · clear ho; simp [know, dstAt, Region.binds] at hk; go_simp; exact hK _ H
                            · have o6 := ho 6 (by kernel_rfl); clear ho; simp [know, dstAt, Region.binds] at hk o6
                              (refine op_rowT (T := 53) rfl o6 a53 s53 H 0 rfl rfl ?_; exact hK _ H)
                            · clear ho; simp [know, dstAt, Region.binds] at hk
                              (go_simp; refine (last H ⟨xc, xo, xi, xe, xf, xg, xz⟩).mono ?_; (try rw [ela]); rintro e w' ⟨rfl, H⟩; exact hK _ H)
                            · clear ho; simp [know, dstAt, Region.binds] at hk; go_simp; exact hK _ H
                            · clear ho; simp [know, dstAt, Region.binds] at hk; go_simp; exact hK _ H
                          case ins =>
                            iterate 39 (refine ⟨ins_pl rfl (fun _ _ _ => rfl), ?_⟩)
                            exact trivial
                          case jns =>
                            iterate 39 (refine ⟨j_pl (fun _ _ _ => rfl), ?_⟩)
                            exact trivial
                          case fin =>
                            intro E val w5 hE H
                            clear HF hE
                            have HF := H
                            clear H
                            simp [putAll, Act.put]
                            go_wp2_with fail
                            go_ret
                            exact ⟨_, rfl, ⟨fun h => (by cases h), fun h => (by exfalso; have := (h.l.1 _ _ Hx.out hlt).la; rw [ela] at this; cases this)⟩, (HF.sel 3 [2]).lift0 H0.out⟩
                        | true =>
                          skip
                          apply wp_region_eff [] (fun i => (#[[], [], [], [], [], [], [], [], [], [], [], [], [], [], [], [], [], [], [], [], [], [], [], [], [], [], [], [], [], [], [], [], [], [], [], [], [], [], []] : Array (List Nat)).getD i []) (fun val i => ((_ :: _ :: _ :: _ :: .bool false :: _ :: _ :: _ :: _ :: _ :: .bool false :: _ :: _ :: _ :: _ :: _ :: _ :: _ :: .bool false :: _ :: _ :: .bool false :: undef :: undef :: undef :: undef :: undef :: undef :: undef :: undef :: undef :: undef :: _ :: _ :: .bool false :: _ :: _ :: _ :: _ :: []) : List Value).toArray.getD i undef) (fun E val => At W (Blk g6 (.cells #[.int .i64 xc, .int .i64 xo, .int .i64 xi, .int .i64 xe, .int .i64 xf, .int .i64 xg, .int .i64 xz] 53 (0, 0)) :: Blk g1 (.cells #[.int .i64 u, .slice ade es.length cape, .slice (some b) ls.length capl] 25 (0, 0)) :: Arg W :: [])) (by kernel_rfl) (by kernel_rfl) (by kernel_rfl) (by kernel_rfl) (HF)
                          case step =>
                            iterate 22 (refine ⟨eff_pl rfl (fun _ => by rfl) fun E val hn T ds w K H hk ho hK => ?_, ?_⟩; rotate_left)
                            iterate 10 (refine ⟨eff_no rfl (fun _ => by rfl) (fun _ => rfl), ?_⟩)
                            iterate 7 (refine ⟨eff_pl rfl (fun _ => by rfl) fun E val hn T ds w K H hk ho hK => ?_, ?_⟩; rotate_left)
                            exact trivial
                            · have o6 := ho 6 (by kernel_rfl); clear ho; simp [know, dstAt, Region.binds] at hk o6; go_simp; exact hK _ H
                            · clear ho; simp [know, dstAt, Region.binds] at hk
                              first | (refine op_loadT rfl hk ?_ H 0 rfl rfl ?_; (kernel_rfl); exact hK _ H) | (refine op_loadT rfl hk ?_ H 1 rfl rfl ?_; (kernel_rfl); exact hK _ H)
                            · clear ho; simp [know, dstAt, Region.binds] at hk
                              (go_simp; refine (within2 H xc 1 255).mono ?_; (try rw [ecl]); rintro e w' ⟨rfl, H⟩; exact hK _ H)
                            · clear ho; simp [know, dstAt, Region.binds] at hk; go_simp; exact hK _ H
                            · clear ho; simp [know, dstAt, Region.binds] at hk; go_simp; exact hK _ H
                            · have o6 := ho 6 (by kernel_rfl); clear ho; simp [know, dstAt, Region.binds] at hk o6; go_simp; exact hK _ H
                            · clear ho; simp [know, dstAt, Region.binds] at hk
                              first | (refine op_loadT rfl hk.1 ?_ H 0 rfl rfl ?_; (kernel_rfl); exact hK _ H) | (refine op_loadT rfl hk.1 ?_ H 1 rfl rfl ?_; (kernel_rfl); exact hK _ H)
                            · clear ho; simp [know, dstAt, Region.binds] at hk
                              (go_simp; refine (within2 H xo 1 1099511627776).mono ?_; (try rw [eop]); rintro e w' ⟨rfl, H⟩; exact hK _ H)
                            · clear ho; simp [know, dstAt, Region.binds] at hk; go_simp; exact hK _ H
                            · clear ho; simp [know, dstAt, Region.binds] at hk; go_simp; exact hK _ H
                            · clear ho; simp [know, dstAt, Region.binds] at hk; go_simp; exact hK _ H
                            · have o6 := ho 6 (by kernel_rfl); clear ho; simp [know, dstAt, Region.binds] at hk o6; go_simp; exact hK _ H
                            · clear ho; simp [know, dstAt, Region.binds] at hk
                              first | (refine op_loadT rfl hk.1 ?_ H 0 rfl rfl ?_; (kernel_rfl); exact hK _ H) | (refine op_loadT rfl hk.1 ?_ H 1 rfl rfl ?_; (kernel_rfl); exact hK _ H)
                            · have o1 := ho 1 (by kernel_rfl); clear ho; simp [know, dstAt, Region.binds] at hk o1; go_simp; exact hK _ H
                            · clear ho; simp [know, dstAt, Region.binds] at hk
                              first | (refine op_loadT rfl hk.1 ?_ H 0 rfl rfl ?_; (kernel_rfl); exact hK _ H) | (refine op_loadT rfl hk.1 ?_ H 1 rfl rfl ?_; (kernel_rfl); exact hK _ H)
                            · clear ho; simp [know, dstAt, Region.binds] at hk
                              (go_simp; refine (within2 H xi 1 u).mono ?_; (try rw [ein]); rintro e w' ⟨rfl, H⟩; exact hK _ H)
                            · clear ho; simp [know, dstAt, Region.binds] at hk; go_simp; exact hK _ H
                            · clear ho; simp [know, dstAt, Region.binds] at hk; go_simp; exact hK _ H
                            · clear ho; simp [know, dstAt, Region.binds] at hk; go_simp; exact hK _ H
                            · have o5 := ho 5 (by kernel_rfl); clear ho; simp [know, dstAt, Region.binds] at hk o5; go_simp; exact hK _ H
                            · clear ho; simp [know, dstAt, Region.binds] at hk; go_simp; exact hK _ H
                            · clear ho; simp [know, dstAt, Region.binds] at hk; go_simp; exact hK _ H
                            · clear ho; simp [know, dstAt, Region.binds] at hk; go_simp; exact hK _ H
                            · clear ho; simp [know, dstAt, Region.binds] at hk; go_simp; exact hK _ H
                            · clear ho; simp [know, dstAt, Region.binds] at hk; go_simp; exact hK _ H
                            · have o6 := ho 6 (by kernel_rfl); clear ho; simp [know, dstAt, Region.binds] at hk o6
                              (refine op_rowT (T := 53) rfl o6 a53 s53 H 0 rfl rfl ?_; exact hK _ H)
                            · clear ho; simp [know, dstAt, Region.binds] at hk
                              (go_simp; refine (last H ⟨xc, xo, xi, xe, xf, xg, xz⟩).mono ?_; (try rw [ela]); rintro e w' ⟨rfl, H⟩; exact hK _ H)
                            · clear ho; simp [know, dstAt, Region.binds] at hk; go_simp; exact hK _ H
                            · clear ho; simp [know, dstAt, Region.binds] at hk; go_simp; exact hK _ H
                          case ins =>
                            iterate 39 (refine ⟨ins_pl rfl (fun _ _ _ => rfl), ?_⟩)
                            exact trivial
                          case jns =>
                            iterate 39 (refine ⟨j_pl (fun _ _ _ => rfl), ?_⟩)
                            exact trivial
                          case fin =>
                            intro E val w5 hE H
                            clear HF hE
                            have HF := H
                            clear H
                            simp [putAll, Act.put]
                            go_wp2_with fail
                            go_roundw
                            case rel => exact ⟨_ + 1, by omega, rfl, Lib.hid (ls_succ HI.out Hx.out ⟨ecl, eop, ein, ela⟩ (fun p hp => absurd hp (Nat.lt_irrefl 0))), HF.sel 3 [1, 2]⟩
                            case measure => simp [intOf]; omega
                      · have gk : (0 : Int) < k := by omega
                        have gkd : decide ((0 : Int) < (k : Int)) = true := decide_eq_true gk
                        have gkn : decide (0 < k) = true := decide_eq_true (by omega)
                        have hkm : (k : Int) - 1 = ((k - 1 : Nat) : Int) := by omega
                        have hkl : ((k - 1 : Nat) : Int) < ls.length := by omega
                        have hwk : IntKind.i64.wrap ((k - 1 : Nat) : Int) = ((k - 1 : Nat) : Int) := IntWalk.i64_in _ (by omega)
                        obtain ⟨pv, hpv⟩ : ∃ pv, ls[k - 1]? = some pv := ⟨_, List.getElem?_eq_getElem (by omega)⟩
                        have Hp := Lib.hid (recs_get Q.out hpv 0 (.int .i64 pv.cl) rfl)
                        have Hpv := Lib.hid hpv
                        clear hpv
                        by_cases eo : xc ≤ pv.cl
                        · skip
                          apply wp_region_eff [] (fun i => (#[[], [], [], [], [], [], [], [], [], [], [], [], [], [], [], [], [], [], [], [], [], [], [], [], [], [], [], [], [], [], [], [], [], [], [], [], [], [], []] : Array (List Nat)).getD i []) (fun val i => ((_ :: _ :: _ :: _ :: .bool false :: _ :: _ :: _ :: _ :: _ :: .bool false :: _ :: _ :: _ :: _ :: _ :: _ :: _ :: .bool false :: _ :: _ :: .bool true :: _ :: _ :: _ :: _ :: _ :: _ :: _ :: _ :: _ :: _ :: _ :: _ :: .bool true :: undef :: undef :: undef :: _ :: []) : List Value).toArray.getD i undef) (fun E val => At W (Blk g6 (.cells #[.int .i64 xc, .int .i64 xo, .int .i64 xi, .int .i64 xe, .int .i64 xf, .int .i64 xg, .int .i64 xz] 53 (0, 0)) :: Blk g1 (.cells #[.int .i64 u, .slice ade es.length cape, .slice (some b) ls.length capl] 25 (0, 0)) :: Arg W :: [])) (by kernel_rfl) (by kernel_rfl) (by kernel_rfl) (by kernel_rfl) (HF)
                          case step =>
                            iterate 35 (refine ⟨eff_pl rfl (fun _ => by rfl) fun E val hn T ds w K H hk ho hK => ?_, ?_⟩; rotate_left)
                            iterate 3 (refine ⟨eff_no rfl (fun _ => by rfl) (fun _ => rfl), ?_⟩)
                            refine ⟨eff_pl rfl (fun _ => by rfl) fun E val hn T ds w K H hk ho hK => ?_, ?_⟩; rotate_left
                            exact trivial
                            · have o6 := ho 6 (by kernel_rfl); clear ho; simp [know, dstAt, Region.binds] at hk o6; go_simp; exact hK _ H
                            · clear ho; simp [know, dstAt, Region.binds] at hk
                              first | (refine op_loadT rfl hk ?_ H 0 rfl rfl ?_; (kernel_rfl); exact hK _ H) | (refine op_loadT rfl hk ?_ H 1 rfl rfl ?_; (kernel_rfl); exact hK _ H) | (refine op_load1T rfl hk (by kernel_rfl) ((H.ext 2 rfl).cell Hp.out) ?_; exact hK _ H)
                            · clear ho; simp [know, dstAt, Region.binds] at hk
                              (go_simp; refine (within2 H xc 1 255).mono ?_; (try rw [ecl]); rintro e w' ⟨rfl, H⟩; exact hK _ H)
                            · clear ho; simp [know, dstAt, Region.binds] at hk; go_simp; exact hK _ H
                            · clear ho; simp [know, dstAt, Region.binds] at hk; go_simp; exact hK _ H
                            · have o6 := ho 6 (by kernel_rfl); clear ho; simp [know, dstAt, Region.binds] at hk o6; go_simp; exact hK _ H
                            · clear ho; simp [know, dstAt, Region.binds] at hk
                              first | (refine op_loadT rfl hk.1 ?_ H 0 rfl rfl ?_; (kernel_rfl); exact hK _ H) | (refine op_loadT rfl hk.1 ?_ H 1 rfl rfl ?_; (kernel_rfl); exact hK _ H) | (refine op_load1T rfl hk.1 (by kernel_rfl) ((H.ext 2 rfl).cell Hp.out) ?_; exact hK _ H)
                            · clear ho; simp [know, dstAt, Region.binds] at hk
                              (go_simp; refine (within2 H xo 1 1099511627776).mono ?_; (try rw [eop]); rintro e w' ⟨rfl, H⟩; exact hK _ H)
                            · clear ho; simp [know, dstAt, Region.binds] at hk; go_simp; exact hK _ H
                            · clear ho; simp [know, dstAt, Region.binds] at hk; go_simp; exact hK _ H
                            · clear ho; simp [know, dstAt, Region.binds] at hk; go_simp; exact hK _ H
                            · have o6 := ho 6 (by kernel_rfl); clear ho; simp [know, dstAt, Region.binds] at hk o6; go_simp; exact hK _ H
                            · clear ho; simp [know, dstAt, Region.binds] at hk
                              first | (refine op_loadT rfl hk.1 ?_ H 0 rfl rfl ?_; (kernel_rfl); exact hK _ H) | (refine op_loadT rfl hk.1 ?_ H 1 rfl rfl ?_; (kernel_rfl); exact hK _ H) | (refine op_load1T rfl hk.1 (by kernel_rfl) ((H.ext 2 rfl).cell Hp.out) ?_; exact hK _ H)
                            · have o1 := ho 1 (by kernel_rfl); clear ho; simp [know, dstAt, Region.binds] at hk o1; go_simp; exact hK _ H
                            · clear ho; simp [know, dstAt, Region.binds] at hk
                              first | (refine op_loadT rfl hk.1 ?_ H 0 rfl rfl ?_; (kernel_rfl); exact hK _ H) | (refine op_loadT rfl hk.1 ?_ H 1 rfl rfl ?_; (kernel_rfl); exact hK _ H) | (refine op_load1T rfl hk.1 (by kernel_rfl) ((H.ext 2 rfl).cell Hp.out) ?_; exact hK _ H)
                            · clear ho; simp [know, dstAt, Region.binds] at hk
                              (go_simp; refine (within2 H xi 1 u).mono ?_; (try rw [ein]); rintro e w' ⟨rfl, H⟩; exact hK _ H)
                            · clear ho; simp [know, dstAt, Region.binds] at hk; go_simp; exact hK _ H
                            · clear ho; simp [know, dstAt, Region.binds] at hk; go_simp; exact hK _ H
                            · clear ho; simp [know, dstAt, Region.binds] at hk; go_simp; exact hK _ H
                            · have o5 := ho 5 (by kernel_rfl); clear ho; simp [know, dstAt, Region.binds] at hk o5; go_simp; exact hK _ H
                            · clear ho; simp [know, dstAt, Region.binds] at hk; go_simp; exact hK _ H
                            · clear ho; simp [know, dstAt, Region.binds] at hk; go_simp; exact hK _ H
                            · have o1 := ho 1 (by kernel_rfl); clear ho; simp [know, dstAt, Region.binds] at hk o1; go_simp; exact hK _ H
                            · clear ho; simp [know, dstAt, Region.binds] at hk
                              first | (refine op_loadT rfl hk.1 ?_ H 0 rfl rfl ?_; (kernel_rfl); exact hK _ H) | (refine op_loadT rfl hk.1 ?_ H 1 rfl rfl ?_; (kernel_rfl); exact hK _ H) | (refine op_load1T rfl hk.1 (by kernel_rfl) ((H.ext 2 rfl).cell Hp.out) ?_; exact hK _ H)
                            · have o5 := ho 5 (by kernel_rfl); clear ho; simp [know, dstAt, Region.binds] at hk o5; go_simp; exact hK _ H
                            · clear ho; simp [know, dstAt, Region.binds] at hk; go_simp; exact hK _ H
                            · clear ho; simp [know, dstAt, Region.binds] at hk; go_simp; exact hK _ H
                            · clear ho; simp [know, dstAt, Region.binds] at hk; go_simp; exact hK _ H
                            · clear ho; simp [know, dstAt, Region.binds] at hk
                              first | (refine op_loadT rfl hk.1 ?_ H 0 rfl rfl ?_; (kernel_rfl); exact hK _ H) | (refine op_loadT rfl hk.1 ?_ H 1 rfl rfl ?_; (kernel_rfl); exact hK _ H) | (refine op_load1T rfl hk.1 (by kernel_rfl) ((H.ext 2 rfl).cell Hp.out) ?_; exact hK _ H)
                            · have o6 := ho 6 (by kernel_rfl); clear ho; simp [know, dstAt, Region.binds] at hk o6; go_simp; exact hK _ H
                            · clear ho; simp [know, dstAt, Region.binds] at hk
                              first | (refine op_loadT rfl hk.1 ?_ H 0 rfl rfl ?_; (kernel_rfl); exact hK _ H) | (refine op_loadT rfl hk.1 ?_ H 1 rfl rfl ?_; (kernel_rfl); exact hK _ H) | (refine op_load1T rfl hk.1 (by kernel_rfl) ((H.ext 2 rfl).cell Hp.out) ?_; exact hK _ H)
                            · clear ho; simp [know, dstAt, Region.binds] at hk; go_simp; exact hK _ H
                            · clear ho; simp [know, dstAt, Region.binds] at hk; go_simp; exact hK _ H
                            · clear ho; simp [know, dstAt, Region.binds] at hk; go_simp; exact hK _ H
                            · clear ho; simp [know, dstAt, Region.binds] at hk; go_simp; exact hK _ H
                            · clear ho; simp [know, dstAt, Region.binds] at hk; go_simp; exact hK _ H
                          case ins =>
                            iterate 39 (refine ⟨ins_pl rfl (fun _ _ _ => rfl), ?_⟩)
                            exact trivial
                          case jns =>
                            iterate 39 (refine ⟨j_pl (fun _ _ _ => rfl), ?_⟩)
                            exact trivial
                          case fin =>
                            intro E val w5 hE H
                            clear HF hE
                            have HF := H
                            clear H
                            simp [putAll, Act.put]
                            go_wp2_with fail
                            go_ret
                            exact ⟨_, rfl, ⟨fun h => (by cases h), fun h => (by exfalso; have := h.l.2 (k - 1) _ _ Hpv.out (by rw [show k - 1 + 1 = k by omega]; exact Hx.out) (by show k - 1 + 1 < ls.length; omega); dsimp only at this; omega)⟩, (HF.sel 3 [2]).lift0 H0.out⟩
                        · cases ela : lastB ⟨xc, xo, xi, xe, xf, xg, xz⟩ with
                          | false =>
                            skip
                            apply wp_region_eff [] (fun i => (#[[], [], [], [], [], [], [], [], [], [], [], [], [], [], [], [], [], [], [], [], [], [], [], [], [], [], [], [], [], [], [], [], [], [], [], [], [], [], []] : Array (List Nat)).getD i []) (fun val i => ((_ :: _ :: _ :: _ :: .bool false :: _ :: _ :: _ :: _ :: _ :: .bool false :: _ :: _ :: _ :: _ :: _ :: _ :: _ :: .bool false :: _ :: _ :: .bool true :: _ :: _ :: _ :: _ :: _ :: _ :: _ :: _ :: _ :: _ :: _ :: _ :: .bool false :: _ :: _ :: _ :: _ :: []) : List Value).toArray.getD i undef) (fun E val => At W (Blk g6 (.cells #[.int .i64 xc, .int .i64 xo, .int .i64 xi, .int .i64 xe, .int .i64 xf, .int .i64 xg, .int .i64 xz] 53 (0, 0)) :: Blk g1 (.cells #[.int .i64 u, .slice ade es.length cape, .slice (some b) ls.length capl] 25 (0, 0)) :: Arg W :: [])) (by kernel_rfl) (by kernel_rfl) (by kernel_rfl) (by kernel_rfl) (HF)
                            case step =>
                              iterate 39 (refine ⟨eff_pl rfl (fun _ => by rfl) fun E val hn T ds w K H hk ho hK => ?_, ?_⟩; rotate_left)
                              exact trivial
                              · have o6 := ho 6 (by kernel_rfl); clear ho; simp [know, dstAt, Region.binds] at hk o6; go_simp; exact hK _ H
                              · clear ho; simp [know, dstAt, Region.binds] at hk
                                first | (refine op_loadT rfl hk ?_ H 0 rfl rfl ?_; (kernel_rfl); exact hK _ H) | (refine op_loadT rfl hk ?_ H 1 rfl rfl ?_; (kernel_rfl); exact hK _ H) | (refine op_load1T rfl hk (by kernel_rfl) ((H.ext 2 rfl).cell Hp.out) ?_; exact hK _ H)
                              · clear ho; simp [know, dstAt, Region.binds] at hk
                                (go_simp; refine (within2 H xc 1 255).mono ?_; (try rw [ecl]); rintro e w' ⟨rfl, H⟩; exact hK _ H)
                              · clear ho; simp [know, dstAt, Region.binds] at hk; go_simp; exact hK _ H
                              · clear ho; simp [know, dstAt, Region.binds] at hk; go_simp; exact hK _ H
                              · have o6 := ho 6 (by kernel_rfl); clear ho; simp [know, dstAt, Region.binds] at hk o6; go_simp; exact hK _ H
                              · clear ho; simp [know, dstAt, Region.binds] at hk
                                first | (refine op_loadT rfl hk.1 ?_ H 0 rfl rfl ?_; (kernel_rfl); exact hK _ H) | (refine op_loadT rfl hk.1 ?_ H 1 rfl rfl ?_; (kernel_rfl); exact hK _ H) | (refine op_load1T rfl hk.1 (by kernel_rfl) ((H.ext 2 rfl).cell Hp.out) ?_; exact hK _ H)
                              · clear ho; simp [know, dstAt, Region.binds] at hk
                                (go_simp; refine (within2 H xo 1 1099511627776).mono ?_; (try rw [eop]); rintro e w' ⟨rfl, H⟩; exact hK _ H)
                              · clear ho; simp [know, dstAt, Region.binds] at hk; go_simp; exact hK _ H
                              · clear ho; simp [know, dstAt, Region.binds] at hk; go_simp; exact hK _ H
                              · clear ho; simp [know, dstAt, Region.binds] at hk; go_simp; exact hK _ H
                              · have o6 := ho 6 (by kernel_rfl); clear ho; simp [know, dstAt, Region.binds] at hk o6; go_simp; exact hK _ H
                              · clear ho; simp [know, dstAt, Region.binds] at hk
                                first | (refine op_loadT rfl hk.1 ?_ H 0 rfl rfl ?_; (kernel_rfl); exact hK _ H) | (refine op_loadT rfl hk.1 ?_ H 1 rfl rfl ?_; (kernel_rfl); exact hK _ H) | (refine op_load1T rfl hk.1 (by kernel_rfl) ((H.ext 2 rfl).cell Hp.out) ?_; exact hK _ H)
                              · have o1 := ho 1 (by kernel_rfl); clear ho; simp [know, dstAt, Region.binds] at hk o1; go_simp; exact hK _ H
                              · clear ho; simp [know, dstAt, Region.binds] at hk
                                first | (refine op_loadT rfl hk.1 ?_ H 0 rfl rfl ?_; (kernel_rfl); exact hK _ H) | (refine op_loadT rfl hk.1 ?_ H 1 rfl rfl ?_; (kernel_rfl); exact hK _ H) | (refine op_load1T rfl hk.1 (by kernel_rfl) ((H.ext 2 rfl).cell Hp.out) ?_; exact hK _ H)
                              · clear ho; simp [know, dstAt, Region.binds] at hk
                                (go_simp; refine (within2 H xi 1 u).mono ?_; (try rw [ein]); rintro e w' ⟨rfl, H⟩; exact hK _ H)
                              · clear ho; simp [know, dstAt, Region.binds] at hk; go_simp; exact hK _ H
                              · clear ho; simp [know, dstAt, Region.binds] at hk; go_simp; exact hK _ H
                              · clear ho; simp [know, dstAt, Region.binds] at hk; go_simp; exact hK _ H
                              · have o5 := ho 5 (by kernel_rfl); clear ho; simp [know, dstAt, Region.binds] at hk o5; go_simp; exact hK _ H
                              · clear ho; simp [know, dstAt, Region.binds] at hk; go_simp; exact hK _ H
                              · clear ho; simp [know, dstAt, Region.binds] at hk; go_simp; exact hK _ H
                              · have o1 := ho 1 (by kernel_rfl); clear ho; simp [know, dstAt, Region.binds] at hk o1; go_simp; exact hK _ H
                              · clear ho; simp [know, dstAt, Region.binds] at hk
                                first | (refine op_loadT rfl hk.1 ?_ H 0 rfl rfl ?_; (kernel_rfl); exact hK _ H) | (refine op_loadT rfl hk.1 ?_ H 1 rfl rfl ?_; (kernel_rfl); exact hK _ H) | (refine op_load1T rfl hk.1 (by kernel_rfl) ((H.ext 2 rfl).cell Hp.out) ?_; exact hK _ H)
                              · have o5 := ho 5 (by kernel_rfl); clear ho; simp [know, dstAt, Region.binds] at hk o5; go_simp; exact hK _ H
                              · clear ho; simp [know, dstAt, Region.binds] at hk; go_simp; exact hK _ H
                              · clear ho; simp [know, dstAt, Region.binds] at hk; go_simp; exact hK _ H
                              · clear ho; simp [know, dstAt, Region.binds] at hk; go_simp; exact hK _ H
                              · clear ho; simp [know, dstAt, Region.binds] at hk
                                first | (refine op_loadT rfl hk.1 ?_ H 0 rfl rfl ?_; (kernel_rfl); exact hK _ H) | (refine op_loadT rfl hk.1 ?_ H 1 rfl rfl ?_; (kernel_rfl); exact hK _ H) | (refine op_load1T rfl hk.1 (by kernel_rfl) ((H.ext 2 rfl).cell Hp.out) ?_; exact hK _ H)
                              · have o6 := ho 6 (by kernel_rfl); clear ho; simp [know, dstAt, Region.binds] at hk o6; go_simp; exact hK _ H
                              · clear ho; simp [know, dstAt, Region.binds] at hk
                                first | (refine op_loadT rfl hk.1 ?_ H 0 rfl rfl ?_; (kernel_rfl); exact hK _ H) | (refine op_loadT rfl hk.1 ?_ H 1 rfl rfl ?_; (kernel_rfl); exact hK _ H) | (refine op_load1T rfl hk.1 (by kernel_rfl) ((H.ext 2 rfl).cell Hp.out) ?_; exact hK _ H)
                              · clear ho; simp [know, dstAt, Region.binds] at hk; go_simp; exact hK _ H
                              · clear ho; simp [know, dstAt, Region.binds] at hk; go_simp; exact hK _ H
                              · clear ho; simp [know, dstAt, Region.binds] at hk; go_simp; exact hK _ H
                              · clear ho; simp [know, dstAt, Region.binds] at hk; go_simp; exact hK _ H
                              · have o6 := ho 6 (by kernel_rfl); clear ho; simp [know, dstAt, Region.binds] at hk o6
                                (refine op_rowT (T := 53) rfl o6 a53 s53 H 0 rfl rfl ?_; exact hK _ H)
                              · clear ho; simp [know, dstAt, Region.binds] at hk
                                (go_simp; refine (last H ⟨xc, xo, xi, xe, xf, xg, xz⟩).mono ?_; (try rw [ela]); rintro e w' ⟨rfl, H⟩; exact hK _ H)
                              · clear ho; simp [know, dstAt, Region.binds] at hk; go_simp; exact hK _ H
                              · clear ho; simp [know, dstAt, Region.binds] at hk; go_simp; exact hK _ H
                            case ins =>
                              iterate 39 (refine ⟨ins_pl rfl (fun _ _ _ => rfl), ?_⟩)
                              exact trivial
                            case jns =>
                              iterate 39 (refine ⟨j_pl (fun _ _ _ => rfl), ?_⟩)
                              exact trivial
                            case fin =>
                              intro E val w5 hE H
                              clear HF hE
                              have HF := H
                              clear H
                              simp [putAll, Act.put]
                              go_wp2_with fail
                              go_ret
                              exact ⟨_, rfl, ⟨fun h => (by cases h), fun h => (by exfalso; have := (h.l.1 _ _ Hx.out hlt).la; rw [ela] at this; cases this)⟩, (HF.sel 3 [2]).lift0 H0.out⟩
                          | true =>
                            skip
                            apply wp_region_eff [] (fun i => (#[[], [], [], [], [], [], [], [], [], [], [], [], [], [], [], [], [], [], [], [], [], [], [], [], [], [], [], [], [], [], [], [], [], [], [], [], [], [], []] : Array (List Nat)).getD i []) (fun val i => ((_ :: _ :: _ :: _ :: .bool false :: _ :: _ :: _ :: _ :: _ :: .bool false :: _ :: _ :: _ :: _ :: _ :: _ :: _ :: .bool false :: _ :: _ :: .bool true :: _ :: _ :: _ :: _ :: _ :: _ :: _ :: _ :: _ :: _ :: _ :: _ :: .bool false :: _ :: _ :: _ :: _ :: []) : List Value).toArray.getD i undef) (fun E val => At W (Blk g6 (.cells #[.int .i64 xc, .int .i64 xo, .int .i64 xi, .int .i64 xe, .int .i64 xf, .int .i64 xg, .int .i64 xz] 53 (0, 0)) :: Blk g1 (.cells #[.int .i64 u, .slice ade es.length cape, .slice (some b) ls.length capl] 25 (0, 0)) :: Arg W :: [])) (by kernel_rfl) (by kernel_rfl) (by kernel_rfl) (by kernel_rfl) (HF)
                            case step =>
                              iterate 39 (refine ⟨eff_pl rfl (fun _ => by rfl) fun E val hn T ds w K H hk ho hK => ?_, ?_⟩; rotate_left)
                              exact trivial
                              · have o6 := ho 6 (by kernel_rfl); clear ho; simp [know, dstAt, Region.binds] at hk o6; go_simp; exact hK _ H
                              · clear ho; simp [know, dstAt, Region.binds] at hk
                                first | (refine op_loadT rfl hk ?_ H 0 rfl rfl ?_; (kernel_rfl); exact hK _ H) | (refine op_loadT rfl hk ?_ H 1 rfl rfl ?_; (kernel_rfl); exact hK _ H) | (refine op_load1T rfl hk (by kernel_rfl) ((H.ext 2 rfl).cell Hp.out) ?_; exact hK _ H)
                              · clear ho; simp [know, dstAt, Region.binds] at hk
                                (go_simp; refine (within2 H xc 1 255).mono ?_; (try rw [ecl]); rintro e w' ⟨rfl, H⟩; exact hK _ H)
                              · clear ho; simp [know, dstAt, Region.binds] at hk; go_simp; exact hK _ H
                              · clear ho; simp [know, dstAt, Region.binds] at hk; go_simp; exact hK _ H
                              · have o6 := ho 6 (by kernel_rfl); clear ho; simp [know, dstAt, Region.binds] at hk o6; go_simp; exact hK _ H
                              · clear ho; simp [know, dstAt, Region.binds] at hk
                                first | (refine op_loadT rfl hk.1 ?_ H 0 rfl rfl ?_; (kernel_rfl); exact hK _ H) | (refine op_loadT rfl hk.1 ?_ H 1 rfl rfl ?_; (kernel_rfl); exact hK _ H) | (refine op_load1T rfl hk.1 (by kernel_rfl) ((H.ext 2 rfl).cell Hp.out) ?_; exact hK _ H)
                              · clear ho; simp [know, dstAt, Region.binds] at hk
                                (go_simp; refine (within2 H xo 1 1099511627776).mono ?_; (try rw [eop]); rintro e w' ⟨rfl, H⟩; exact hK _ H)
                              · clear ho; simp [know, dstAt, Region.binds] at hk; go_simp; exact hK _ H
                              · clear ho; simp [know, dstAt, Region.binds] at hk; go_simp; exact hK _ H
                              · clear ho; simp [know, dstAt, Region.binds] at hk; go_simp; exact hK _ H
                              · have o6 := ho 6 (by kernel_rfl); clear ho; simp [know, dstAt, Region.binds] at hk o6; go_simp; exact hK _ H
                              · clear ho; simp [know, dstAt, Region.binds] at hk
                                first | (refine op_loadT rfl hk.1 ?_ H 0 rfl rfl ?_; (kernel_rfl); exact hK _ H) | (refine op_loadT rfl hk.1 ?_ H 1 rfl rfl ?_; (kernel_rfl); exact hK _ H) | (refine op_load1T rfl hk.1 (by kernel_rfl) ((H.ext 2 rfl).cell Hp.out) ?_; exact hK _ H)
                              · have o1 := ho 1 (by kernel_rfl); clear ho; simp [know, dstAt, Region.binds] at hk o1; go_simp; exact hK _ H
                              · clear ho; simp [know, dstAt, Region.binds] at hk
                                first | (refine op_loadT rfl hk.1 ?_ H 0 rfl rfl ?_; (kernel_rfl); exact hK _ H) | (refine op_loadT rfl hk.1 ?_ H 1 rfl rfl ?_; (kernel_rfl); exact hK _ H) | (refine op_load1T rfl hk.1 (by kernel_rfl) ((H.ext 2 rfl).cell Hp.out) ?_; exact hK _ H)
                              · clear ho; simp [know, dstAt, Region.binds] at hk
                                (go_simp; refine (within2 H xi 1 u).mono ?_; (try rw [ein]); rintro e w' ⟨rfl, H⟩; exact hK _ H)
                              · clear ho; simp [know, dstAt, Region.binds] at hk; go_simp; exact hK _ H
                              · clear ho; simp [know, dstAt, Region.binds] at hk; go_simp; exact hK _ H
                              · clear ho; simp [know, dstAt, Region.binds] at hk; go_simp; exact hK _ H
                              · have o5 := ho 5 (by kernel_rfl); clear ho; simp [know, dstAt, Region.binds] at hk o5; go_simp; exact hK _ H
                              · clear ho; simp [know, dstAt, Region.binds] at hk; go_simp; exact hK _ H
                              · clear ho; simp [know, dstAt, Region.binds] at hk; go_simp; exact hK _ H
                              · have o1 := ho 1 (by kernel_rfl); clear ho; simp [know, dstAt, Region.binds] at hk o1; go_simp; exact hK _ H
                              · clear ho; simp [know, dstAt, Region.binds] at hk
                                first | (refine op_loadT rfl hk.1 ?_ H 0 rfl rfl ?_; (kernel_rfl); exact hK _ H) | (refine op_loadT rfl hk.1 ?_ H 1 rfl rfl ?_; (kernel_rfl); exact hK _ H) | (refine op_load1T rfl hk.1 (by kernel_rfl) ((H.ext 2 rfl).cell Hp.out) ?_; exact hK _ H)
                              · have o5 := ho 5 (by kernel_rfl); clear ho; simp [know, dstAt, Region.binds] at hk o5; go_simp; exact hK _ H
                              · clear ho; simp [know, dstAt, Region.binds] at hk; go_simp; exact hK _ H
                              · clear ho; simp [know, dstAt, Region.binds] at hk; go_simp; exact hK _ H
                              · clear ho; simp [know, dstAt, Region.binds] at hk; go_simp; exact hK _ H
                              · clear ho; simp [know, dstAt, Region.binds] at hk
                                first | (refine op_loadT rfl hk.1 ?_ H 0 rfl rfl ?_; (kernel_rfl); exact hK _ H) | (refine op_loadT rfl hk.1 ?_ H 1 rfl rfl ?_; (kernel_rfl); exact hK _ H) | (refine op_load1T rfl hk.1 (by kernel_rfl) ((H.ext 2 rfl).cell Hp.out) ?_; exact hK _ H)
                              · have o6 := ho 6 (by kernel_rfl); clear ho; simp [know, dstAt, Region.binds] at hk o6; go_simp; exact hK _ H
                              · clear ho; simp [know, dstAt, Region.binds] at hk
                                first | (refine op_loadT rfl hk.1 ?_ H 0 rfl rfl ?_; (kernel_rfl); exact hK _ H) | (refine op_loadT rfl hk.1 ?_ H 1 rfl rfl ?_; (kernel_rfl); exact hK _ H) | (refine op_load1T rfl hk.1 (by kernel_rfl) ((H.ext 2 rfl).cell Hp.out) ?_; exact hK _ H)
                              · clear ho; simp [know, dstAt, Region.binds] at hk; go_simp; exact hK _ H
                              · clear ho; simp [know, dstAt, Region.binds] at hk; go_simp; exact hK _ H
                              · clear ho; simp [know, dstAt, Region.binds] at hk; go_simp; exact hK _ H
                              · clear ho; simp [know, dstAt, Region.binds] at hk; go_simp; exact hK _ H
                              · have o6 := ho 6 (by kernel_rfl); clear ho; simp [know, dstAt, Region.binds] at hk o6
                                (refine op_rowT (T := 53) rfl o6 a53 s53 H 0 rfl rfl ?_; exact hK _ H)
                              · clear ho; simp [know, dstAt, Region.binds] at hk
                                (go_simp; refine (last H ⟨xc, xo, xi, xe, xf, xg, xz⟩).mono ?_; (try rw [ela]); rintro e w' ⟨rfl, H⟩; exact hK _ H)
                              · clear ho; simp [know, dstAt, Region.binds] at hk; go_simp; exact hK _ H
                              · clear ho; simp [know, dstAt, Region.binds] at hk; go_simp; exact hK _ H
                            case ins =>
                              iterate 39 (refine ⟨ins_pl rfl (fun _ _ _ => rfl), ?_⟩)
                              exact trivial
                            case jns =>
                              iterate 39 (refine ⟨j_pl (fun _ _ _ => rfl), ?_⟩)
                              exact trivial
                            case fin =>
                              intro E val w5 hE H
                              clear HF hE
                              have HF := H
                              clear H
                              simp [putAll, Act.put]
                              go_wp2_with fail
                              go_roundw
                              case rel => exact ⟨_ + 1, by omega, rfl, Lib.hid (ls_succ HI.out Hx.out ⟨ecl, eop, ein, ela⟩ (fun p _ hp => by rw [Hpv.out] at hp; cases hp; dsimp only; omega)), HF.sel 3 [1, 2]⟩
                              case measure => simp [intOf]; omega
              · have g1x : ¬ (k : Int) < ls.length := by omega
                have hkk : k = ls.length := by omega
                have HV := Lib.hid (show VB ⟨u, es, ls⟩ from ⟨eu, hn256, fun h => HZ0.out (by first | exact h | trivial), HE.out, by have := HI.out; rw [hkk] at this; exact this⟩)
                clear hkk
                go_wp2_with ((with_reducible refine k_load ?_); refine st_load rfl _ _ rfl _ _ rfl ?_ HF 0 rfl rfl ?_; (kernel_rfl); (intro K hK; go_simp))
                go_ret
                exact ⟨_, rfl, ⟨fun _ => HV.out, fun _ => rfl⟩, (HF.sel 2 [1]).lift0 H0.out⟩
    · have gn : decide ((256 : Int) < es.length) = true := decide_eq_true (by omega)
      go_wp2_with (first | ((with_reducible refine k_box ?_); refine st_box rfl _ _ rfl _ rfl HF ?_; (clear HF; intro g1 w HF K hK; simp only [Value.cells, Act.eval, Value.cells, Array.getD_eq_getD_getElem?, List.getElem?_toArray, List.getElem?_cons_succ, List.getElem?_cons_zero, Option.getD_some] at HF; go_simp)) | ((with_reducible refine k_load ?_); refine st_load rfl _ _ rfl _ _ rfl ?_ HF 0 rfl rfl ?_; (kernel_rfl); (intro K hK; go_simp)))
      go_ret
      exact ⟨_, rfl, ⟨fun h => (by cases h), fun h => (by exfalso; exact hn256 h.n)⟩, (HF.sel 2 [1]).lift0 H0.out⟩
end
end Bk
end Go.Proofs.Ytcofcikdknmggaa
