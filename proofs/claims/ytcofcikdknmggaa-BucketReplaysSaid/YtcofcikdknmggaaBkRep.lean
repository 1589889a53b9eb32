/-
  The program's Replay: a row of commands from a bucket on.
-/
import Derived.Test.YtcofcikdknmggaaBkAns
import Derived.Test.YtcofcikdknmggaaBkArgs2
namespace Go.Proofs.Ytcofcikdknmggaa
open Go.Hp Go.RowKit
set_option linter.unusedVariables false
set_option linter.unusedSimpArgs false
set_option maxRecDepth 100000
set_option maxHeartbeats 2000000
namespace Bk

def addA (aa : List An) (q : (Int × List An) × Bu) : (Int × List An) × Bu := if q.1.1 = 0 then ((0, aa ++ q.1.2), q.2) else q
/-- What comes of a row of commands: an error, the answers; the bucket behind them. -/
def replS (room : Int) : List Cm → Bu → (Int × List An) × Bu
  | [], b => ((0, []), b)
  | c :: l, b => if (applyS b c room).1.1 = 0 then addA [(applyS b c room).1.2] (replS room l (applyS b c room).2) else (((applyS b c room).1.1, []), ⟨0, [], []⟩)

theorem addA_add (a b : List An) (q : (Int × List An) × Bu) : addA a (addA b q) = addA (a ++ b) q := by
  unfold addA
  by_cases h : q.1.1 = 0
  · simp [h]
  · simp [h]
theorem addA_nil (q : (Int × List An) × Bu) : addA [] q = q := by
  unfold addA
  by_cases h : q.1.1 = 0
  · rw [if_pos h, List.nil_append, ← h]
  · rw [if_neg h]
theorem addA_err {a : List An} {q : (Int × List An) × Bu} (h : q.1.1 ≠ 0) : addA a q = q := by unfold addA; rw [if_neg h]
theorem repl_step {room : Int} {l : List Cm} {k : Nat} {c : Cm} {b bb : Bu} {aa : List An} (hc : l[k]? = some c) (h : replS room l b = addA aa (replS room (l.drop k) bb)) (h0 : (applyS bb c room).1.1 = 0) :
    replS room l b = addA (aa ++ [(applyS bb c room).1.2]) (replS room (l.drop (k + 1)) (applyS bb c room).2) := by
  obtain ⟨hlt, he⟩ := List.getElem?_eq_some_iff.1 hc
  rw [h, List.drop_eq_getElem_cons hlt, he]
  conv => lhs; unfold replS
  rw [if_pos h0, addA_add]
theorem repl_err {room : Int} {l : List Cm} {k : Nat} {c : Cm} {b bb : Bu} {aa : List An} (hc : l[k]? = some c) (h : replS room l b = addA aa (replS room (l.drop k) bb)) (h0 : (applyS bb c room).1.1 ≠ 0) :
    replS room l b = (((applyS bb c room).1.1, []), ⟨0, [], []⟩) := by
  obtain ⟨hlt, he⟩ := List.getElem?_eq_some_iff.1 hc
  rw [h, List.drop_eq_getElem_cons hlt, he]
  conv => lhs; unfold replS
  rw [if_neg h0, addA_err h0]
theorem repl_end {room : Int} {l : List Cm} {k : Nat} {b bb : Bu} {aa : List An} (hk : l.length ≤ k) (h : replS room l b = addA aa (replS room (l.drop k) bb)) : replS room l b = ((0, aa), bb) := by
  rw [h, List.drop_of_length_le hk]
  unfold replS addA
  simp

theorem seatS_len (l : List La) (x : La) : (seatS l x).length ≤ l.length + 1 := by
  unfold seatS
  split
  · rw [List.length_set]; omega
  · rw [insAt_len (seI_le l _)]; omega
theorem applyS_len (b : Bu) (c : Cm) (room : Int) : (applyS b c room).2.es.length ≤ b.es.length + 1 ∧ (applyS b c room).2.ls.length ≤ b.ls.length + 1 ∧ (b.u ≤ (applyS b c room).2.u ∧ (applyS b c room).2.u ≤ b.u + 1) := by
  have h1 := changeS_len b.es c room
  have h2 := seatS_len b.ls (lastS c (b.u + 1) (changeS b.es c room).1.1 (changeS b.es c room).1.2)
  unfold applyS
  (repeat' split) <;> dsimp only <;> refine ⟨?_, ?_, ?_, ?_⟩ <;> omega

theorem results_ctt {P : Program} {fn : Func} {p q s : Tmp} {ty : TypeId} (h : fn.results = #[.cell p ty, .tmp q, .tmp s]) {tmps : Array Value} {w : World} {g : Nat} {t : TypeId} {cs : Array Value} {fr : Nat × Nat} {n : Nat}
    (hp : tmps.getD p undef = .pointer (some ⟨g, 0, none⟩)) (hT : aggT P ty = true) (hn : sizeT P ty = some n) (hg : w.heap[g]? = some (.cells cs t fr)) (hc : cs.size = n) :
    (results fn tmps).run P w = .ok (.tuple #[.agg cs, tmps.getD q undef, tmps.getD s undef]) w := by
  have hr := run_loadVar_agg (P := P) (off := 0) hT hn hg (by omega)
  have e : cs.extract 0 (0 + n) = cs := by rw [Nat.zero_add, ← hc, Array.extract_size]
  rw [e] at hr
  have hp' : tmps[p]?.getD undef = .pointer (some ⟨g, 0, none⟩) := by simpa using hp
  simp [results, h, hp', asAddr, hr]

def RepPost (w0 : World) (L : List HProp) (r : (Int × List An) × Bu) (e : Ending) (w' : World) : Prop :=
  ∃ ve vl va, e = .returned (.tuple #[.agg #[.int .i64 r.2.u, ve, vl], va, .int .i64 r.1.1]) ∧ At w0 (OE ve r.2.es :: OL vl r.2.ls :: AnsRow va r.1.2 :: L) w'

theorem an_one (x : An) (a : Option Addr) (n c : Nat) : ∀ u ∈ [Value.int .i64 x.err, .string x.e.nm, .int .i64 x.e.fc, .int .i64 x.e.fo, .int .i64 x.e.sz, .slice a n c], u.oneCell' = true := by
  intro u hu
  simp only [List.mem_cons, List.not_mem_nil, or_false] at hu
  rcases hu with rfl | rfl | rfl | rfl | rfl | rfl <;> rfl

section
variable {w0 w : World} {L : List HProp}
theorem ansrow_snoc {v u : Value} {xs : List (An × Value)} {x : An} (H : At w0 (OwnRow 41 6 v (xs.length + 1) (ansC xs ++ anC (x, u)) :: Pool xs :: OE u x.l :: L) w) : At w0 (AnsRow v (xs.map Prod.fst ++ [x]) :: L) w := by
  have H1 := pool_one (H.pick 2 rfl)
  have H2 : At w0 (Pool xs :: Pool [(x, u)] :: OwnRow 41 6 v (xs.length + 1) (ansC xs ++ anC (x, u)) :: L) w := H1.perm (by
    refine List.Perm.trans ?_ (List.Perm.swap _ _ _)
    refine List.Perm.cons _ ?_
    exact List.Perm.swap _ _ _)
  have H3 := pool_app H2
  have e : xs.map Prod.fst ++ [x] = (xs ++ [(x, u)]).map Prod.fst := by simp
  rw [e]
  refine ansrow_mk (H := ?_)
  rw [ansC_app, List.length_append]
  have e2 : ansC [(x, u)] = anC (x, u) := by unfold ansC; simp
  rw [e2]
  exact H3.perm (List.Perm.swap _ _ _)

theorem replay {room : Int} {ve vl vc : Value} {b : Bu} {l : List Cm} (he : RecsAt w ve 4 (b.es.map En.cells)) (hl : RecsAt w vl 7 (b.ls.map La.cells)) (hc : RecsAt w vc 9 (l.map Cm.cells)) (hu0 : -9223372036854775808 ≤ b.u)
    (be : b.es.length ≤ 100000000000) (bl : b.ls.length ≤ 100000000000) (bc : l.length ≤ 1000) (H : At w0 L w) :
    Calls Try.prog 19 #[.agg #[.int .i64 b.u, ve, vl], .int .i64 room, vc] w (RepPost w0 L (replS room l b)) := by
  obtain ⟨W, rfl⟩ : ∃ W : World, W = w := ⟨_, rfl⟩
  have HF := At.of W
  have H0 := Lib.hid H
  have He := Lib.hid he
  have Hl := Lib.hid hl
  obtain ⟨adc, capc, rfl, c1, c2, c3⟩ := hc.value
  rw [List.length_map] at c1 c3 hc ⊢
  have HC := Lib.hid hc
  have C3 := Lib.hid c3
  obtain ⟨RS, hRS⟩ : ∃ RS, replS room l b = RS := ⟨_, rfl⟩
  rw [hRS]
  have HRS := Lib.hid hRS
  have HU := Lib.hid hu0
  have hbe : b.es.length * 40 ≤ 140737488355328 := by omega
  have hbl : b.ls.length * 56 ≤ 140737488355328 := by omega
  clear H he hl hc c1 c2 c3 hRS hu0
  go_enter Try.func19, Try.ntmps19
  go_wp2_with (first | ((with_reducible refine k_box (T := 25) ?_); refine st_box rfl _ _ rfl _ rfl HF ?_; (clear HF; intro g3 w HF K hK; simp only [Value.cells, Act.eval, Value.cells, Array.getD_eq_getD_getElem?, List.getElem?_toArray, List.getElem?_cons_succ, List.getElem?_cons_zero, Option.getD_some] at HF; go_simp)) | ((with_reducible refine k_alloc (T := 25) ?_); refine st_alloc rfl _ rfl _ z25 _ rfl HF ?_; (clear HF; intro g6 w HF K hK; simp only [Value.cells] at HF; go_simp)) | ((with_reducible refine k_load (T := 25) ?_); refine st_row rfl _ _ rfl _ rfl a25 3 s25 HF 1 rfl rfl ?_; (intro K hK; go_simp)) | ((with_reducible refine k_load (T := 25) ?_); refine st_loads rfl _ _ rfl _ _ rfl a25 3 s25 HF 1 rfl ?_ ?_; (simp); (intro K hK; go_simp)))
  refine (twin (He.out.ext (HF.ext 2 rfl)) (Hl.out.ext (HF.ext 2 rfl)) hbe hbl HF).mono ?_
  rintro e w2 ⟨v1, v2, rfl, HX⟩
  clear HF hbe hbl
  obtain ⟨s1, t1, u1, rfl⟩ := own_form HX
  obtain ⟨s2, t2, u2, rfl⟩ := own_form (HX.pick 1 rfl)
  have HF := HX
  clear HX
  go_wp2_with (first | ((with_reducible refine k_alloc (T := 25) ?_); refine st_alloc rfl _ rfl _ z25 _ rfl HF ?_; (clear HF; intro g9 w HF K hK; simp only [Value.cells] at HF; go_simp)) | ((with_reducible refine k_store (T := 25) ?_); refine st_put rfl _ _ _ rfl _ rfl _ rfl ?_ s25 HF 0 rfl rfl ?_; (simp [Value.oneCell']); (clear HF; intro w HF K hK; simp only [List.set_cons_zero, List.set_cons_succ, Act.eval, Value.cells, Array.getD_eq_getD_getElem?, List.getElem?_toArray, List.getElem?_cons_succ, List.getElem?_cons_zero, Option.getD_some] at HF; go_simp)))
  replace HF : At W (AnsRow (.slice none 0 0) [] :: _) _ := ansrow_nil HF
  go_loopw [10, 19] (fun a i wr => ∃ (k : Nat) (bb : Bu) (aa : List An) (b1 : Option Addr) (m1 p1 : Nat) (b2 : Option Addr) (m2 p2 : Nat) (b3 : Option Addr) (m3 p3 : Nat), k ≤ l.length ∧ a = .slice b3 m3 p3 ∧ i = .int .i64 k ∧ Hid (replS room l b = addA aa (replS room (l.drop k) bb) ∧ bb.es.length ≤ b.es.length + k ∧ bb.ls.length ≤ b.ls.length + k ∧ b.u ≤ bb.u ∧ aa.length = k) ∧
    At W (AnsRow (.slice b3 m3 p3) aa :: Blk g9 (.cells #[.int .i64 bb.u, .slice b1 m1 p1, .slice b2 m2 p2] 25 (0, 0)) :: OE (.slice b1 m1 p1) bb.es :: OL (.slice b2 m2 p2) bb.ls :: Blk g6 (.cells #[.int .i64 0, .slice none 0 0, .slice none 0 0] 25 (0, 0)) :: Blk g3 (.cells #[.int .i64 b.u, ve, vl] 25 (0, 0)) :: Arg W :: []) wr) (fun _ i _ => l.length - (intOf i).toNat)
  case atStart => exact ⟨0, b, [], _, _, _, _, _, _, _, _, _, Nat.zero_le _, rfl, rfl, Lib.hid ⟨(addA_nil _).symm, by omega, by omega, Int.le_refl _, rfl⟩, HF⟩
  case round =>
    clear HF
    obtain ⟨k, bb, aa, b1, m1, p1, b2, m2, p2, b3, m3, p3, hk, rfl, rfl, HI, HF⟩ := hrel
    by_cases hlt : k < l.length
    · have g1 : (k : Int) < l.length := by omega
      obtain ⟨c, hcc⟩ : ∃ c, l[k]? = some c := ⟨_, List.getElem?_eq_getElem hlt⟩
      obtain ⟨bc2, rfl⟩ := C3.out (by omega)
      have Hc := Lib.hid (fun j u hj => (HF.ext 6 rfl).cell (recs_get HC.out hcc j u hj))
      have HCC := Lib.hid hcc
      obtain ⟨i1, i2, i3, i4, i5⟩ := HI.out
      have HU2 := Lib.hid (show -9223372036854775808 ≤ bb.u by have := HU.out; omega)
      have HA := Lib.hid (fun (w2 : World) (M : List HProp) (v1 v2 : Value) (HM : At W (Blk g9 (.cells #[.int .i64 bb.u, v1, v2] 25 (0, 0)) :: OE v1 bb.es :: OL v2 bb.ls :: M) w2) => apply (room := room) (b := bb) (c := c) HU2.out (by omega) (by omega) HM)
      have HS := Lib.hid (fun h0 => repl_step (c := c) hcc i1 h0)
      have HE := Lib.hid (fun h0 => repl_err (c := c) hcc i1 h0)
      have HLn := Lib.hid (applyS_len bb c room)
      obtain ⟨R, hR⟩ : ∃ R, applyS bb c room = R := ⟨_, rfl⟩
      rw [hR] at HA HS HE HLn
      obtain ⟨⟨er0, ⟨aerr, ⟨an, af, ao, az⟩, aL⟩⟩, ⟨nu, nes, nls⟩⟩ := R
      obtain ⟨kd, cl, op, nm, fc, fo, nc, no, sz⟩ := c
      dsimp only at HS HE HLn
      have HI2 := Lib.hid (show bb.es.length ≤ b.es.length + k ∧ bb.ls.length ≤ b.ls.length + k ∧ b.u ≤ bb.u from ⟨i2, i3, i4⟩)
      clear hcc hR i1 i2 i3 i4 HI HU2
      go_wp2_with (first | ((with_reducible refine k_load (T := 29) ?_); refine st_loadCells rfl _ _ rfl _ rfl a29 [.int .i64 kd, .int .i64 cl, .int .i64 op, .string nm, .int .i64 fc, .int .i64 fo, .int .i64 nc, .int .i64 no, .int .i64 sz] s29 Hc.out ?_; (intro K hK; go_simp)) | ((with_reducible refine k_alloc (T := 29) ?_); refine st_alloc rfl _ rfl _ z29 _ rfl HF ?_; (clear HF; intro g12 w HF K hK; simp only [Value.cells] at HF; go_simp)) | ((with_reducible refine k_store (T := 29) ?_); refine st_put rfl _ _ _ rfl _ rfl _ rfl ?_ s29 HF 0 rfl rfl ?_; (simp [Value.oneCell']); (clear HF; intro w HF K hK; simp only [List.set_cons_zero, List.set_cons_succ, Act.eval, Value.cells, Array.getD_eq_getD_getElem?, List.getElem?_toArray, List.getElem?_cons_succ, List.getElem?_cons_zero, Option.getD_some] at HF; go_simp)) | ((with_reducible refine k_load (T := 29) ?_); refine st_row rfl _ _ rfl _ rfl a29 9 s29 HF 0 rfl rfl ?_; (intro K hK; go_simp)) | ((with_reducible refine k_load (T := 29) ?_); refine st_loads rfl _ _ rfl _ _ rfl a29 9 s29 HF 0 rfl ?_ ?_; (simp); (intro K hK; go_simp)))
      refine (HA.out _ _ _ _ (HF.sel 8 [2, 3, 4, 0, 1, 5, 6, 7])).mono ?_
      rintro e w4 ⟨v1, v2, v3, rfl, HX⟩
      clear HF HA Hc
      obtain ⟨s1, t1, u1, rfl⟩ := own_form (HX.pick 1 rfl)
      obtain ⟨s2, t2, u2, rfl⟩ := own_form (HX.pick 2 rfl)
      obtain ⟨s3, t3, u3, rfl⟩ := own_form (HX.pick 3 rfl)
      obtain ⟨xs, hxs, HY⟩ := ansrow_open (HX.pick 5 rfl)
      clear HX
      have hxl : xs.length = k := by rw [← i5, ← hxs, List.length_map]
      have HF : At W (OwnRow 41 6 (.slice b3 m3 p3) xs.length (ansC xs) :: Pool xs :: Blk g9 (.cells #[.int .i64 nu, .slice s1 t1 u1, .slice s2 t2 u2] 25 (0, 0)) :: OE (.slice s1 t1 u1) nes :: OL (.slice s2 t2 u2) nls :: OE (.slice s3 t3 u3) aL :: Blk g12 (.cells #[.int .i64 kd, .int .i64 cl, .int .i64 op, .string nm, .int .i64 fc, .int .i64 fo, .int .i64 nc, .int .i64 no, .int .i64 sz] 29 (0, 0)) :: Blk g6 (.cells #[.int .i64 0, .slice none 0 0, .slice none 0 0] 25 (0, 0)) :: Blk g3 (.cells #[.int .i64 b.u, ve, vl] 25 (0, 0)) :: Arg W :: []) w4 := HY
      clear HY
      dsimp only [anV]
      by_cases h0 : er0 = 0
      · subst h0
        have HS2 := Lib.hid (HS.out rfl)
        have hxk : xs.length + 1 ≤ 1000 := by omega
        have HXS := Lib.hid hxs
        have HXL := Lib.hid hxl
        clear HS HE hxs hxl i5
        go_wp2_with (first | ((with_reducible refine k_alloc (T := 41) ?_); refine st_alloc rfl _ rfl _ z41 _ rfl HF ?_; (clear HF; intro g13 w HF K hK; simp only [Value.cells] at HF; go_simp)) | ((with_reducible refine k_store (T := 41) ?_); refine st_put rfl _ _ _ rfl _ rfl _ rfl ?_ s41 HF 0 rfl rfl ?_; (simp [Value.oneCell']); (clear HF; intro w HF K hK; simp only [List.set_cons_zero, List.set_cons_succ, Act.eval, Value.cells, Array.getD_eq_getD_getElem?, List.getElem?_toArray, List.getElem?_cons_succ, List.getElem?_cons_zero, Option.getD_some] at HF; go_simp)) | ((with_reducible refine k_load (T := 41) ?_); refine st_row rfl _ _ rfl _ rfl a41 6 s41 HF 0 rfl rfl ?_; (intro K hK; go_simp)) | ((with_reducible refine k_load (T := 41) ?_); refine st_loads rfl _ _ rfl _ _ rfl a41 6 s41 HF 0 rfl ?_ ?_; (simp); (intro K hK; go_simp))            | ((with_reducible refine k_lit ?_); refine st_lit1 rfl _ _ rfl #[.int .i64 aerr, .string an, .int .i64 af, .int .i64 ao, .int .i64 az, .slice s3 t3 u3] rfl 41 Try.underlying58 6 s41 _ z41 rfl rfl (by decide) (by decide) HF ?_; (clear HF; intro gl w HF K hK; go_simp))            | ((with_reducible refine k_builtin ?_); refine st_append rfl _ _ _ rfl 41 Try.underlying58 6 s41 72 bytes41 _ z41 rfl (.slice b3 m3 p3) xs.length (ansC xs) rfl (HF.sel 12 [2, 0, 3, 4, 5, 6, 7, 8, 9, 10, 11]) (some ⟨gl, 0, none⟩) 1 1 [.int .i64 aerr, .string an, .int .i64 af, .int .i64 ao, .int .i64 az, .slice s3 t3 u3] rfl rfl (fun _ => ⟨_, rfl, cells_of (HF.get 0 rfl)⟩) (an_one ⟨aerr, ⟨an, af, ao, az⟩, aL⟩ s3 t3 u3) ?_ ?_ ?_; ((try simp only [maxLen]); omega); (omega); (clear HF; intro v7 w HF K hK; obtain ⟨s4, t4, u4, rfl⟩ := own_form HF; go_simp)))
        go_roundw
        case rel =>
          have HG := ansrow_snoc (x := ⟨aerr, ⟨an, af, ao, az⟩, aL⟩) (u := .slice s3 t3 u3) (HF.sel 11 [0, 2, 6, 3, 4, 5, 8, 9, 10])
          rw [HXS.out] at HG
          have q := HLn.out
          have r := HI2.out
          exact ⟨k + 1, ⟨nu, nes, nls⟩, aa ++ [⟨aerr, ⟨an, af, ao, az⟩, aL⟩], s1, t1, u1, s2, t2, u2, s4, t4, u4, by omega, rfl, rfl, Lib.hid ⟨HS2.out, by dsimp only; omega, by dsimp only; omega, by dsimp only; omega, by rw [List.length_append, ← HXS.out, List.length_map, HXL.out]; rfl⟩, HG⟩
        case measure => simp [intOf]; omega
      · have HE2 := Lib.hid (HE.out h0)
        have h0b : (er0 == 0) = false := by simpa using h0
        clear HS HE hxs hxl i5
        go_wp2_with (first | ((with_reducible refine k_alloc (T := 41) ?_); refine st_alloc rfl _ rfl _ z41 _ rfl HF ?_; (clear HF; intro g13 w HF K hK; simp only [Value.cells] at HF; go_simp)) | ((with_reducible refine k_store (T := 41) ?_); refine st_put rfl _ _ _ rfl _ rfl _ rfl ?_ s41 HF 0 rfl rfl ?_; (simp [Value.oneCell']); (clear HF; intro w HF K hK; simp only [List.set_cons_zero, List.set_cons_succ, Act.eval, Value.cells, Array.getD_eq_getD_getElem?, List.getElem?_toArray, List.getElem?_cons_succ, List.getElem?_cons_zero, Option.getD_some] at HF; go_simp)) | ((with_reducible refine k_store (T := 25) ?_); refine st_put rfl _ _ _ rfl _ rfl _ rfl ?_ s25 HF 8 rfl rfl ?_; (simp [Value.oneCell']); (clear HF; intro w HF K hK; simp only [List.set_cons_zero, List.set_cons_succ, Act.eval, Value.cells, Array.getD_eq_getD_getElem?, List.getElem?_toArray, List.getElem?_cons_succ, List.getElem?_cons_zero, Option.getD_some] at HF; go_simp)))
        refine bodyPost_ret (results_ctt rfl rfl a25 s25 (HF.get 8 rfl) rfl) rfl ?_
        rw [← HRS.out, HE2.out]
        exact ⟨_, _, _, rfl, (show At W ([OE (.slice none 0 0) [], OL (.slice none 0 0) [], AnsRow (.slice none 0 0) []] ++ [Arg W]) _ from own_nil (own_nil (ansrow_nil (HF.sel 11 [10])) 53 7) 39 4).lift H0.out⟩
    · have g1 : ¬ (k : Int) < l.length := by omega
      have HE2 := Lib.hid (repl_end (by omega) HI.out.1)
      clear HI
      go_wp2_with (first | ((with_reducible refine k_load (T := 25) ?_); refine st_row rfl _ _ rfl _ rfl a25 3 s25 HF 1 rfl rfl ?_; (intro K hK; go_simp)) | ((with_reducible refine k_load (T := 25) ?_); refine st_loads rfl _ _ rfl _ _ rfl a25 3 s25 HF 1 rfl ?_ ?_; (simp); (intro K hK; go_simp)) | ((with_reducible refine k_store (T := 25) ?_); refine st_put rfl _ _ _ rfl _ rfl _ rfl ?_ s25 HF 4 rfl rfl ?_; (simp [Value.oneCell']); (clear HF; intro w HF K hK; simp only [List.set_cons_zero, List.set_cons_succ, Act.eval, Value.cells, Array.getD_eq_getD_getElem?, List.getElem?_toArray, List.getElem?_cons_succ, List.getElem?_cons_zero, Option.getD_some] at HF; go_simp)))
      refine bodyPost_ret (results_ctt rfl rfl a25 s25 (HF.get 4 rfl) rfl) rfl ?_
      rw [← HRS.out, HE2.out]
      exact ⟨_, _, _, rfl, (show At W ([OE (.slice b1 m1 p1) bb.es, OL (.slice b2 m2 p2) bb.ls, AnsRow (.slice b3 m3 p3) aa] ++ [Arg W]) _ from HF.sel 7 [2, 3, 0, 6]).lift H0.out⟩
end
end Bk
end Go.Proofs.Ytcofcikdknmggaa
