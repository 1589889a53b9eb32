/-
  For any bucket, any room, any row of commands and any cut the law BucketReplays answers true: a row of commands makes what the document says and leaves what was lent, and cut in two it makes the same.
-/
import Derived.Test.YtcofcikdknmggaaBkArgs
import Derived.Test.YtcofcikdknmggaaBkCut
import Derived.Deep.Cut
import Derived.ProofKit
namespace Go.Proofs.Ytcofcikdknmggaa
open Go.Hp Go.RowKit Go.ChangeShapes Go.WideShapes
set_option linter.unusedVariables false
set_option linter.unusedSimpArgs false
set_option maxRecDepth 100000
namespace bucketReplays
open Bk
namespace Lw
abbrev arg_Bucket := @Bk.arg_Bucket
abbrev arg_int := @Bk.arg_int
abbrev arg_cmds := @Bk.arg_cmds
end Lw
section
variable {W : World}

set_option maxHeartbeats 4000000 in
theorem walk {va vn vc vk : Value} {x : Bu0} (ha : BuArg W va x) {room : Int} (hn : IntArg vn room) {l : List Cm} (hc : CmsArg W vc l) {cut : Int} (hk : IntArg vk cut) :
    Calls Try.prog 7 #[va, vn, vc, vk] W fun e w => e = .returned (.bool true) ∧ Below W.heap.size W w := by
  obtain ⟨hv, he, hl, hu, be, bl⟩ := ha
  obtain ⟨u, es, ls, ve, vl⟩ := x
  dsimp only at *
  obtain ⟨rfl, _⟩ := hn
  obtain ⟨rfl, _⟩ := hk
  obtain ⟨hc1, hc2⟩ := hc
  subst hv
  have HF := At.of W
  obtain ⟨adc, capc, rfl, c1, c2, c3⟩ := hc1.value
  rw [List.length_map] at c1 c3 hc1
  have He := Lib.hid he
  have Hl := Lib.hid hl
  have HC := Lib.hid hc1
  have C3 := Lib.hid c3
  obtain ⟨ade, cape, rfl, e1, e2, e3⟩ := he.value
  obtain ⟨adl, capl, rfl, l1, l2, l3⟩ := hl.value
  simp only [List.length_map] at *
  have be2 : es.length ≤ 140737488355328 := by omega
  have bl2 : ls.length ≤ 140737488355328 := by omega
  have ble : l.length ≤ 140737488355328 := by omega
  have CC := Lib.hid c1
  clear he hl hc1 hc2 c3 e1 e2 e3 l1 l2 l3 c1 c2
  go_enter Try.func7, Try.ntmps7
  go_wp2_with (first | ((with_reducible refine k_box ?_); refine st_box rfl _ _ rfl _ rfl HF ?_; (clear HF; intro g4 w HF K hK; simp only [Value.cells, Act.eval, Value.cells, Array.getD_eq_getD_getElem?, List.getElem?_toArray, List.getElem?_cons_succ, List.getElem?_cons_zero, Option.getD_some] at HF; go_simp)) | ((with_reducible refine k_load (T := 25) ?_); refine st_row rfl _ _ rfl _ rfl a25 3 s25 HF 0 rfl rfl ?_; (intro K hK; go_simp)) | ((with_reducible refine k_load (T := 25) ?_); refine st_loads rfl _ _ rfl _ _ rfl a25 3 s25 HF 0 rfl ?_ ?_; (simp); (intro K hK; go_simp)))
  refine (bucket (b := ⟨u, es, ls⟩) (He.out.ext (HF.ext 1 rfl)) (Hl.out.ext (HF.ext 1 rfl)) be2 bl2 HF).mono ?_
  rintro e w2 ⟨r, rfl, hr, HX⟩
  clear HF
  have HF := HX
  clear HX
  have Hr := Lib.hid hr
  clear hr
  cases r with
  | false =>
    go_wp2_with (first | ((with_reducible refine k_load (T := 25) ?_); refine st_row rfl _ _ rfl _ rfl a25 3 s25 HF 0 rfl rfl ?_; (intro K hK; go_simp)) | ((with_reducible refine k_load (T := 25) ?_); refine st_loads rfl _ _ rfl _ _ rfl a25 3 s25 HF 0 rfl ?_ ?_; (simp); (intro K hK; go_simp)))
    refine (head HF).mono ?_
    rintro e w3 ⟨rfl, HX⟩
    clear HF
    have HF := HX
    clear HX
    go_wp2_with fail
    go_ret
    exact ⟨rfl, HF.below 1 rfl⟩
  | true =>
    have HV := Lib.hid (Hr.out.1 rfl)
    clear Hr
    by_cases h4 : l.length ≤ 400
    · have d4 : ¬ (400 : Int) < l.length := by omega
      have hes : es.length ≤ 256 := HV.out.n
      have hls : ls.length ≤ 255 := vb_ls HV.out
      have hu0 := inB_le HV.out.u0
      have HRI := Lib.hid (ri_of HV.out)
      clear be bl be2 bl2 ble hu
      go_wp2_with (first | ((with_reducible refine k_load (T := 25) ?_); refine st_row rfl _ _ rfl _ rfl a25 3 s25 HF 0 rfl rfl ?_; (intro K hK; go_simp)) | ((with_reducible refine k_load (T := 25) ?_); refine st_loads rfl _ _ rfl _ _ rfl a25 3 s25 HF 0 rfl ?_ ?_; (simp); (intro K hK; go_simp)))
      go_loopw [9] (fun i wr => ∃ k : Nat, k ≤ l.length ∧ i = .int .i64 k ∧ Hid (∀ c ∈ l.take k, wrongS c = true ∨ COk c) ∧ At W (Blk g4 (.cells #[.int .i64 u, .slice ade es.length cape, .slice adl ls.length capl] 25 (0, 0)) :: Arg W :: []) wr) (fun i _ => l.length - (intOf i).toNat)
      case atStart => exact ⟨0, Nat.zero_le _, rfl, Lib.hid (fun c hc => absurd hc (by simp)), HF⟩
      case round =>
        clear HF
        obtain ⟨k, hk, rfl, HB, HF⟩ := hrel
        by_cases hlt : k < l.length
        · have g1 : (k : Int) < l.length := by omega
          obtain ⟨c, hcc⟩ : ∃ c, l[k]? = some c := ⟨_, List.getElem?_eq_getElem hlt⟩
          obtain ⟨bc, rfl⟩ := C3.out (by omega)
          have Hc := Lib.hid (fun (w2 : World) (hx : Ext W w2) j u hj => hx.cell (recs_get HC.out hcc j u hj))
          have Hs := Lib.hid (show sizeT Try.prog 29 = some c.cells.length from s29)
          have HN := Lib.hid (show wrongS c = true ∨ COk c → ∀ c2 ∈ l.take (k + 1), wrongS c2 = true ∨ COk c2 from fun hx c2 hc2 => by
            rw [List.take_add_one, hcc] at hc2
            rcases List.mem_append.1 hc2 with h | h
            · exact HB.out c2 h
            · simp at h; subst h; exact hx)
          clear hcc HB
          go_wp2_with ((with_reducible refine k_load (T := 29) ?_); refine st_loadCells rfl _ _ rfl _ rfl a29 c.cells Hs.out (Hc.out _ (HF.ext 1 rfl)) ?_; (intro K hK; go_simp))
          have hwr := wrong HF c
          obtain ⟨wb, hwb⟩ : ∃ wb, wrongS c = wb := ⟨_, rfl⟩
          rw [hwb] at hwr
          refine hwr.mono ?_
          rintro e w4 ⟨rfl, HX⟩
          clear HF hwr
          have HF := HX
          clear HX
          have HW := Lib.hid hwb
          clear hwb
          cases wb with
          | true =>
            go_wp2_with fail
            go_roundw
            case rel => exact ⟨k + 1, by omega, rfl, Lib.hid (HN.out (.inl HW.out)), HF⟩
            case measure => simp [intOf]; omega
          | false =>
            go_wp2_with ((with_reducible refine k_load (T := 29) ?_); refine st_loadCells rfl _ _ rfl _ rfl a29 c.cells Hs.out (Hc.out _ (HF.ext 1 rfl)) ?_; (intro K hK; go_simp))
            refine (command HF c).mono ?_
            rintro e w4 ⟨r2, rfl, hr2, HX⟩
            clear HF
            have HF := HX
            clear HX
            have Hr2 := Lib.hid hr2
            clear hr2
            cases r2 with
            | false =>
              go_wp2_with fail
              refine (head HF).mono ?_
              rintro e w3 ⟨rfl, HX⟩
              clear HF
              have HF := HX
              clear HX
              go_wp2_with fail
              go_ret
              exact ⟨rfl, HF.below 1 rfl⟩
            | true =>
              go_wp2_with fail
              go_roundw
              case rel => exact ⟨k + 1, by omega, rfl, Lib.hid (HN.out (.inr (Hr2.out trivial))), HF⟩
              case measure => simp [intOf]; omega
        · have g1 : ¬ (k : Int) < l.length := by omega
          have HOK := Lib.hid (show ∀ c ∈ l, wrongS c = true ∨ COk c from fun c hc => HB.out c (by rw [List.take_of_length_le (by omega)]; exact hc))
          clear HB
          go_wp2_with (first | ((with_reducible refine k_load (T := 25) ?_); refine st_row rfl _ _ rfl _ rfl a25 3 s25 HF 0 rfl rfl ?_; (intro K hK; go_simp)) | ((with_reducible refine k_load (T := 25) ?_); refine st_loads rfl _ _ rfl _ _ rfl a25 3 s25 HF 0 rfl ?_ ?_; (simp); (intro K hK; go_simp)))
          refine (Lend (b := ⟨u, es, ls⟩) (He.out.ext (HF.ext 1 rfl)) (Hl.out.ext (HF.ext 1 rfl)) (by dsimp only; omega) (by dsimp only; omega) HF).mono ?_
          rintro e w4 ⟨ge, gl, rfl, HX⟩
          clear HF
          have HF := HX
          clear HX
          have Hcl := Lib.hid (cC_len l)
          have Hco := Lib.hid (cC_one l)
          have C4 := Lib.hid (show ∀ b, adc = some b → ∀ j u, (cC l)[j]? = some u → W.cell? (b.add j) = some u from by
            intro b hb j u hj
            obtain ⟨⟨ad1, cap1, hv, h2, h3, h4, h5⟩, h6⟩ := HC.out
            injection hv with q1 q2 q3
            exact h5 b (q1 ▸ hb) j u hj)
          go_wp2_with (first | ((with_reducible refine k_alloc (T := 25) ?_); refine st_alloc rfl _ rfl _ z25 _ rfl HF ?_; (clear HF; intro g10 w HF K hK; simp only [Value.cells] at HF; go_simp)) | ((with_reducible refine k_store (T := 25) ?_); refine st_put rfl _ _ _ rfl _ rfl _ rfl ?_ s25 HF 0 rfl rfl ?_; (simp [Value.oneCell']); (clear HF; intro w HF K hK; simp only [List.set_cons_zero, List.set_cons_succ, Act.eval, Value.cells, Array.getD_eq_getD_getElem?, List.getElem?_toArray, List.getElem?_cons_succ, List.getElem?_cons_zero, Option.getD_some] at HF; go_simp)) | ((with_reducible refine k_load (T := 25) ?_); refine st_row rfl _ _ rfl _ rfl a25 3 s25 HF 1 rfl rfl ?_; (intro K hK; go_simp)) | ((with_reducible refine k_load (T := 25) ?_); refine st_loads rfl _ _ rfl _ _ rfl a25 3 s25 HF 1 rfl ?_ ?_; (simp); (intro K hK; go_simp))              | ((with_reducible refine k_lit ?_); refine st_lit rfl _ _ _ rfl #[] 29 0 HF ?_ ?_; (go_simp); (clear HF; intro g1 w1 HF K hK; replace HF := own_mk (n := 0) (xs := []) (size := 9) HF (Nat.le_refl _) (Nat.zero_le _) (by simp) (by simp) (by simp); go_simp))              | ((with_reducible refine k_builtin ?_); refine st_append rfl _ _ _ rfl 29 Try.underlying34 9 s29 80 bytes29 _ z29 rfl _ _ _ rfl HF adc l.length capc (cC l) rfl Hcl.out ?_ Hco.out ?_ ?_ ?_; (intro hp; obtain ⟨b, hb⟩ := C3.out hp; exact ⟨b, hb, fun j u hj => (HF.ext 5 rfl).cell (C4.out b hb j u hj)⟩); ((try simp only [maxLen]); omega); (omega); (clear HF; intro v1 w HF K hK; rw [Nat.zero_add, List.nil_append] at HF; obtain ⟨adL, capL, rfl, _, _, _, hL5, _⟩ := own_value HF; have HL5 := Lib.hid hL5; clear hL5; go_simp)))
          have HRp := Lib.hid (fun (w2 : World) (M : List HProp) (v1 v2 v3 : Value) (h1 : RecsAt w2 v1 4 (es.map En.cells)) (h2 : RecsAt w2 v2 7 (ls.map La.cells)) (h3 : RecsAt w2 v3 9 (l.map Cm.cells)) (HM : At W M w2) => replay (room := room) (b := ⟨u, es, ls⟩) (l := l) h1 h2 h3 (by dsimp only; omega) (by dsimp only; omega) (by dsimp only; omega) (by omega) HM)
          have HRr := Lib.hid (fun (w2 : World) (M : List HProp) (q : Nat) (hM : M[q]? = some (Arg W)) (v1 v2 : Value) (HM : At W (RE W v1 es :: RL W v2 ls :: M) w2) => rReplay (room := room) (b := ⟨u, es, ls⟩) (l := l) hM HC.out HRI.out HOK.out (by dsimp only; omega) (by dsimp only; omega) (by omega) HM)
          have HLen := Lib.hid (repl_len (room := room) l ⟨u, es, ls⟩ hu0.1)
          have HNm := Lib.hid (repl_names (room := room) l ⟨u, es, ls⟩)
          have HBad := Lib.hid (fun h => repl_bad (room := room) (l := l) (b := ⟨u, es, ls⟩) h)
          have HOk := Lib.hid (fun k h => repl_cut_ok (room := room) (l1 := l.take k) (l2 := l.drop k) (b := ⟨u, es, ls⟩) h)
          have HNo := Lib.hid (fun k h => repl_cut_bad (room := room) (l1 := l.take k) (l2 := l.drop k) (b := ⟨u, es, ls⟩) h)
          simp only [List.take_append_drop] at HOk HNo
          obtain ⟨R, hR⟩ : ∃ R, replS room l ⟨u, es, ls⟩ = R := ⟨_, rfl⟩
          rw [hR] at HRp HRr HLen HNm HBad
          simp only [hR] at HOk HNo
          obtain ⟨⟨er, AA⟩, ⟨xu, xes, xls⟩⟩ := R
          dsimp only at HLen HNm HBad HOk HNo
          clear hR
          refine (HRp.out _ _ _ _ _ (lent_e (by omega) (HF.pick 2 rfl)) (lent_l (by omega) (HF.pick 3 rfl)) (oc_recs rfl HF) HF).mono ?_
          rintro e w4 ⟨v1, v2, v3, rfl, HX⟩
          clear HF
          obtain ⟨x1, m1, p1, rfl⟩ := own_form HX
          obtain ⟨x2, m2, p2, rfl⟩ := own_form (HX.pick 1 rfl)
          obtain ⟨x3, m3, p3, rfl, hm3⟩ := ansrow_form (HX.pick 2 rfl)
          have HF := HX
          have HM3 := Lib.hid hm3
          clear HX hm3 HRp
          dsimp only
          go_wp2_with (first | ((with_reducible refine k_alloc (T := 25) ?_); refine st_alloc rfl _ rfl _ z25 _ rfl HF ?_; (clear HF; intro g12 w HF K hK; simp only [Value.cells] at HF; go_simp)) | ((with_reducible refine k_store (T := 25) ?_); refine st_put rfl _ _ _ rfl _ rfl _ rfl ?_ s25 HF 0 rfl rfl ?_; (simp [Value.oneCell']); (clear HF; intro w HF K hK; simp only [List.set_cons_zero, List.set_cons_succ, Act.eval, Value.cells, Array.getD_eq_getD_getElem?, List.getElem?_toArray, List.getElem?_cons_succ, List.getElem?_cons_zero, Option.getD_some] at HF; go_simp)) | ((with_reducible refine k_load (T := 25) ?_); (first | refine st_row rfl _ _ rfl _ rfl a25 3 s25 HF 5 rfl rfl ?_ | refine st_row rfl _ _ rfl _ rfl a25 3 s25 HF 8 rfl rfl ?_); (intro K hK; go_simp)) | ((with_reducible refine k_load (T := 25) ?_); (first | refine st_loads rfl _ _ rfl _ _ rfl a25 3 s25 HF 5 rfl ?_ ?_ | refine st_loads rfl _ _ rfl _ _ rfl a25 3 s25 HF 8 rfl ?_ ?_); (simp); (intro K hK; go_simp)))
          refine (Back (b := ⟨u, es, ls⟩) (i := 7) rfl He.out Hl.out (by dsimp only; omega) (by dsimp only; omega) (HF.sel 10 [6, 7, 0, 1, 2, 3, 4, 5, 8, 9])).mono ?_
          rintro e w5 ⟨rfl, HX⟩
          clear HF
          have HF := HX.sel 8 [4, 0, 1, 2, 3, 6, 7]
          clear HX
          go_wp2_with fail
          go_loopw [15] (fun i wr => ∃ (k : Nat) (m : List Cm), k ≤ l.length ∧ i = .int .i64 k ∧ Hid (m.length = l.length ∧ m.drop k = l.drop k) ∧ At W (OwnRow 29 9 (.slice adL l.length capL) l.length (cC m) :: Blk g12 (.cells #[.int .i64 xu, .slice x1 m1 p1, .slice x2 m2 p2] 25 (0, 0)) :: OE (.slice x1 m1 p1) xes :: OL (.slice x2 m2 p2) xls :: AnsRow (.slice x3 m3 p3) AA :: Blk g4 (.cells #[.int .i64 u, .slice ade es.length cape, .slice adl ls.length capl] 25 (0, 0)) :: Arg W :: []) wr) (fun i _ => l.length - (intOf i).toNat)
          case atStart => exact ⟨0, l, Nat.zero_le _, rfl, Lib.hid ⟨rfl, rfl⟩, HF⟩
          case round =>
            clear HF
            obtain ⟨k, m, hk, rfl, HB, HF⟩ := hrel
            by_cases hlt : k < l.length
            · have g1 : (k : Int) < l.length := by omega
              obtain ⟨c, hcc⟩ : ∃ c, l[k]? = some c := ⟨_, List.getElem?_eq_getElem hlt⟩
              obtain ⟨hml, hmd⟩ := HB.out
              have hmc : m[k]? = some c := by
                have := congrArg (fun t => t[0]?) hmd
                simp only [List.getElem?_drop, Nat.add_zero] at this
                rw [this, hcc]
              obtain ⟨bc, rfl⟩ := C3.out (by omega)
              obtain ⟨bL, rfl⟩ := HL5.out (by omega)
              have Hc := Lib.hid (fun (w2 : World) (hx : Ext W w2) j u hj => hx.cell (recs_get HC.out hcc j u hj))
              have Hm := Lib.hid (fun (w2 : World) (M : List HProp) (HM : At W (OwnRow 29 9 (.slice (some bL) l.length capL) l.length (cC m) :: M) w2) => recs_get (row := m) (b := bL) (cap := capL) (by rw [hml]; exact oc_recs hml.symm HM) hmc)
              have Hs := Lib.hid (show sizeT Try.prog 29 = some c.cells.length from s29)
              have hz2 : ∀ w, (Op.equalIn 10000 29 (.agg c.cells.toArray) (.agg c.cells.toArray)).run Try.prog w = .ok true w := fun w => run_eq_self 9 (by decide) fCmd a29 c.fits
              have HB2 := Lib.hid (show (m.set k cm0).length = l.length ∧ (m.set k cm0).drop (k + 1) = l.drop (k + 1) from ⟨by rw [List.length_set]; exact hml, by
                rw [List.drop_set_of_lt (by omega)]
                have := congrArg (List.drop 1) hmd
                simpa [List.drop_drop, Nat.add_comm] using this⟩)
              have HCs := Lib.hid (cC_set (m := m) (k := k) (by omega) cm0)
              have HCl := Lib.hid (show (cC m).length = l.length * 9 from by rw [cC_len, hml])
              clear hcc hmc hmd hml HB
              go_wp2_with fail
              apply wp_region_eff [] (fun i => (#[[], [], [], [], [], [], [], [], []] : Array (List Nat)).getD i []) (fun val i => ((_ :: _ :: _ :: .agg c.cells.toArray :: _ :: _ :: _ :: .agg c.cells.toArray :: .bool false :: []) : List Value).toArray.getD i undef) (fun E val => At W (OwnRow 29 9 (.slice (some bL) l.length capL) l.length (cC m) :: Blk g12 (.cells #[.int .i64 xu, .slice x1 m1 p1, .slice x2 m2 p2] 25 (0, 0)) :: OE (.slice x1 m1 p1) xes :: OL (.slice x2 m2 p2) xls :: AnsRow (.slice x3 m3 p3) AA :: Blk g4 (.cells #[.int .i64 u, .slice ade es.length cape, .slice adl ls.length capl] 25 (0, 0)) :: Arg W :: [])) (by kernel_rfl) (by kernel_rfl) (by kernel_rfl) (by kernel_rfl) (HF)
              case step =>
                iterate 9 (refine ⟨eff_pl rfl (fun _ => by rfl) fun E val hn T ds w K H hk ho hK => ?_, ?_⟩; rotate_left)
                exact trivial
                · have o11 := ho 11 (by kernel_rfl); clear ho; simp [know, dstAt, Region.binds] at hk o11; go_simp; exact hK _ H
                · have o15 := ho 15 (by kernel_rfl); clear ho; simp [know, dstAt, Region.binds] at hk o15; go_simp; exact hK _ H
                · clear ho; simp [know, dstAt, Region.binds] at hk; go_simp; exact hK _ H
                · clear ho; simp [know, dstAt, Region.binds] at hk
                  (refine op_cellsT (vs := c.cells) rfl hk a29 Hs.out (Hm.out _ _ H) ?_; exact hK _ H)
                · have o2 := ho 2 (by kernel_rfl); clear ho; simp [know, dstAt, Region.binds] at hk o2; go_simp; exact hK _ H
                · have o15 := ho 15 (by kernel_rfl); clear ho; simp [know, dstAt, Region.binds] at hk o15; go_simp; exact hK _ H
                · clear ho; simp [know, dstAt, Region.binds] at hk; go_simp; exact hK _ H
                · clear ho; simp [know, dstAt, Region.binds] at hk
                  (refine op_cellsT (vs := c.cells) rfl hk a29 Hs.out (Hc.out _ (H.ext 6 rfl)) ?_; exact hK _ H)
                · clear ho; simp [know, dstAt, Region.binds] at hk; go_simp; exact hK _ H
              case ins =>
                iterate 9 (refine ⟨ins_pl rfl (fun _ _ _ => rfl), ?_⟩)
                exact trivial
              case jns =>
                iterate 9 (refine ⟨j_pl (fun _ _ _ => rfl), ?_⟩)
                exact trivial
              case fin =>
                intro E val w5 hE H
                clear HF hE
                have HF := H
                clear H
                simp [putAll, Act.put]
                go_wp2_with (first | ((with_reducible refine k_store (T := 29) ?_); refine st_ownPut rfl _ _ _ rfl (k * 9) rfl #[.int .i64 0, .int .i64 0, .int .i64 0, .string ⟨#[]⟩, .int .i64 0, .int .i64 0, .int .i64 0, .int .i64 0, .int .i64 0] rfl ?_ s29 HF ?_ ?_; (simp [Value.oneCell']); (rw [HCl.out]; simp; omega); (clear HF; intro w HF K hK; go_simp)))
                go_roundw
                case rel => exact ⟨k + 1, m.set k cm0, by omega, rfl, Lib.hid HB2.out, by rw [← HCs.out]; exact HF⟩
                case measure => simp [intOf]; omega
            · have g1 : ¬ (k : Int) < l.length := by omega
              clear HB
              replace HF := re_arg He.out (rl_arg Hl.out (HF.sel 7 [1, 2, 3, 4, 5, 6]))
              go_wp2_with (first | ((with_reducible refine k_load (T := 25) ?_); refine st_row rfl _ _ rfl _ rfl a25 3 s25 HF 6 rfl rfl ?_; (intro K hK; go_simp)) | ((with_reducible refine k_load (T := 25) ?_); refine st_loads rfl _ _ rfl _ _ rfl a25 3 s25 HF 6 rfl ?_ ?_; (simp); (intro K hK; go_simp)))
              refine (HRr.out _ _ 5 rfl _ _ HF).mono ?_
              rintro e w6 ⟨v1, v2, v3, rfl, HX⟩
              clear HF
              obtain ⟨y1, n1, q1, rfl⟩ := re_form HX
              obtain ⟨y2, n2, q2, rfl⟩ := rl_form (HX.pick 1 rfl)
              obtain ⟨y3, n3, q3, rfl, hn3⟩ := ansrow_form (HX.pick 2 rfl)
              have HF := HX
              clear HX HRr hn3
              dsimp only
              obtain ⟨z1, z2, z3, z4⟩ := HLen.out
              have zb1 : xes.length ≤ 140737488355328 := by omega
              have zb2 : xls.length ≤ 140737488355328 := by omega
              have zb3 : AA.length ≤ 140737488355328 := by omega
              have HNm2 := Lib.hid (show ∀ a ∈ AA, a.l.length ≤ 140737488355328 from fun a ha => by have := HNm.out a ha; omega)
              clear z1 z2 z4 HNm
              go_wp2_with (first | ((with_reducible refine k_alloc (T := 25) ?_); refine st_alloc rfl _ rfl _ z25 _ rfl HF ?_; (clear HF; intro g16 w HF K hK; simp only [Value.cells] at HF; go_simp)) | ((with_reducible refine k_store (T := 25) ?_); refine st_put rfl _ _ _ rfl _ rfl _ rfl ?_ s25 HF 0 rfl rfl ?_; (simp [Value.oneCell']); (clear HF; intro w HF K hK; simp only [List.set_cons_zero, List.set_cons_succ, Act.eval, Value.cells, Array.getD_eq_getD_getElem?, List.getElem?_toArray, List.getElem?_cons_succ, List.getElem?_cons_zero, Option.getD_some] at HF; go_simp)) | ((with_reducible refine k_load (T := 25) ?_); (first | refine st_row rfl _ _ rfl _ rfl a25 3 s25 HF 0 rfl rfl ?_ | refine st_row rfl _ _ rfl _ rfl a25 3 s25 HF 4 rfl rfl ?_); (intro K hK; go_simp)) | ((with_reducible refine k_load (T := 25) ?_); (first | refine st_loads rfl _ _ rfl _ _ rfl a25 3 s25 HF 0 rfl ?_ ?_ | refine st_loads rfl _ _ rfl _ _ rfl a25 3 s25 HF 4 rfl ?_ ?_); (simp); (intro K hK; go_simp)))
              refine (sameBu (b := ⟨xu, xes, xls⟩) (oe_recs (HF.pick 5 rfl)) (ol_recs (HF.pick 6 rfl)) (re_recs (i := 8) rfl (HF.pick 1 rfl)) (rl_recs (i := 8) rfl (HF.pick 2 rfl)) zb1 zb2 HF).mono ?_
              rintro e w7 ⟨rfl, HX⟩
              clear HF
              have HF := HX
              clear HX
              go_wp2_with fail
              refine (sameAs HNm2.out zb3 (HF.sel 10 [7, 3, 4, 5, 6, 8, 9])).mono ?_
              rintro e w8 ⟨rfl, HX⟩
              clear HF
              have HF := HX.sel 7 [5, 2, 3, 4, 0, 6]
              clear HX
              go_upto_if 117 with fail
              -- (printed by gen/mkreplays.py from here on)
              go_cut [19] from 115 (fun s19 wx => (∃ k0 : Int, s19 = .int .i64 k0 ∧ (-(l.length : Int) < k0 ∧ k0 < l.length ∨ l.length = 0 ∧ k0 = 0)) ∧ At W (Blk g4 (.cells #[.int .i64 u, .slice ade es.length cape, .slice adl ls.length capl] 25 (0, 0)) :: Blk g12 (.cells #[.int .i64 xu, .slice x1 m1 p1, .slice x2 m2 p2] 25 (0, 0)) :: OE (.slice x1 m1 p1) xes :: OL (.slice x2 m2 p2) xls :: AnsRow (.slice x3 m3 p3) AA :: Arg W :: []) wx)
              case first =>
                by_cases h0 : 0 < l.length
                · have d0 : (0 : Int) < l.length := by omega
                  have d1 : ((l.length : Int) == 0) = false := by rw [beq_eq_false_iff_ne]; omega
                  have hmi := mod_in (cut := cut) h0
                  have HMI := Lib.hid hmi
                  clear hmi
                  go_wp2_with fail
                  go_meet
                  case rel => exact ⟨⟨_, rfl, .inl HMI.out⟩, HF⟩
                · have d0 : ¬ (0 : Int) < l.length := by omega
                  go_wp2_with fail
                  go_meet
                  case rel => exact ⟨⟨0, rfl, .inr ⟨by omega, rfl⟩⟩, HF⟩
              case rest =>
                obtain ⟨⟨k0, rfl, hk0⟩, HX⟩ := hcut
                clear HF
                have HF := HX
                clear HX
                go_upto_if 123 with fail
                go_cut [19] from 115 (fun s19 wx => (∃ k1 : Nat, s19 = .int .i64 k1 ∧ k1 ≤ l.length) ∧ At W (Blk g4 (.cells #[.int .i64 u, .slice ade es.length cape, .slice adl ls.length capl] 25 (0, 0)) :: Blk g12 (.cells #[.int .i64 xu, .slice x1 m1 p1, .slice x2 m2 p2] 25 (0, 0)) :: OE (.slice x1 m1 p1) xes :: OL (.slice x2 m2 p2) xls :: AnsRow (.slice x3 m3 p3) AA :: Arg W :: []) wx)
                case first =>
                  by_cases h0 : k0 < 0
                  · have hwr : IntKind.i64.wrap (k0 + l.length) = k0 + l.length := IntWalk.i64_in _ (by omega)
                    go_wp2_with fail
                    go_meet
                    case rel => exact ⟨⟨(k0 + l.length).toNat, by congr 1; omega, by omega⟩, HF⟩
                  · have h1 : ¬ k0 < 0 := h0
                    go_wp2_with fail
                    go_meet
                    case rel => exact ⟨⟨k0.toNat, by congr 1; omega, by omega⟩, HF⟩
                case rest =>
                  obtain ⟨⟨k1, rfl, hk1⟩, HX⟩ := hcut
                  clear HF hk0
                  have HF := HX
                  clear HX
                  obtain ⟨Y, hY⟩ : ∃ Y, replS room (l.take k1) ⟨u, es, ls⟩ = Y := ⟨_, rfl⟩
                  obtain ⟨Z, hZ⟩ : ∃ Z, replS room (l.drop k1) Y.2 = Z := ⟨_, rfl⟩
                  have hOk := HOk.out k1
                  have hNo := HNo.out k1
                  have hLy := repl_len (room := room) (l.take k1) ⟨u, es, ls⟩ hu0.1
                  rw [hY] at hOk hNo hLy
                  rw [hZ] at hOk hNo
                  have htk : (l.take k1).length ≤ l.length := by rw [List.length_take]; omega
                  have hdr : (l.drop k1).length ≤ l.length := by rw [List.length_drop]; omega
                  obtain ⟨⟨yr, yA⟩, ⟨yu, yes, yls⟩⟩ := Y
                  dsimp only at hZ hOk hNo hLy
                  have HRy := Lib.hid (fun (w2 : World) (M : List HProp) (v1 v2 v3 : Value) (h1 : RecsAt w2 v1 4 (es.map En.cells)) (h2 : RecsAt w2 v2 7 (ls.map La.cells)) (h3 : RecsAt w2 v3 9 ((l.map Cm.cells).take k1)) (HM : At W M w2) => replay (room := room) (b := ⟨u, es, ls⟩) (l := l.take k1) h1 h2 (by rw [List.map_take]; exact h3) (by dsimp only; omega) (by dsimp only; omega) (by dsimp only; omega) (by omega) HM)
                  have HRz := Lib.hid (fun (w2 : World) (M : List HProp) (v1 v2 v3 : Value) (h1 : RecsAt w2 v1 4 (yes.map En.cells)) (h2 : RecsAt w2 v2 7 (yls.map La.cells)) (h3 : RecsAt w2 v3 9 ((l.map Cm.cells).drop k1)) (HM : At W M w2) => replay (room := room) (b := ⟨yu, yes, yls⟩) (l := l.drop k1) h1 h2 (by rw [List.map_drop]; exact h3) (by dsimp only; omega) (by dsimp only; omega) (by dsimp only; omega) (by omega) HM)
                  rw [hY] at HRy
                  rw [hZ] at HRz
                  obtain ⟨⟨zr, zA⟩, ⟨zu, zes, zls⟩⟩ := Z
                  dsimp only at hOk hNo
                  have HTo := Lib.hid (fun (w2 : World) (hx : Ext W w2) => (recs_to HC.out (by rw [List.length_map]) hk1).ext hx)
                  have HFr := Lib.hid (fun (w2 : World) (hx : Ext W w2) => (recs_from HC.out (by rw [List.length_map]) hk1).ext hx)
                  have HOK2 := Lib.hid hOk
                  have HNO2 := Lib.hid hNo
                  have KC := Lib.hid (show k1 ≤ capc from Nat.le_trans hk1 CC.out)
                  clear hY hZ hOk hNo hLy htk hdr HOk HNo
                  go_wp2_with fail
                  apply wp_region_eff [5, 10, 11] (fun i => (#[[], [], [], [], [], [], [5], [5], [5], [5], [], [5, 10], [5], [5]] : Array (List Nat)).getD i []) (fun val i => ((_ :: _ :: _ :: _ :: .slice (cutA capc 0 9 adc) k1 capc :: val 5 :: val 5 :: tupAt (val 5) 0 :: tupAt (val 5) 1 :: tupAt (val 5) 2 :: val 10 :: val 11 :: tupAt (val 5) 1 :: tupAt (val 5) 2 :: []) : List Value).toArray.getD i undef) (fun E val => At W (Blk g4 (.cells #[.int .i64 u, .slice ade es.length cape, .slice adl ls.length capl] 25 (0, 0)) :: Blk g12 (.cells #[.int .i64 xu, .slice x1 m1 p1, .slice x2 m2 p2] 25 (0, 0)) :: OE (.slice x1 m1 p1) xes :: OL (.slice x2 m2 p2) xls :: AnsRow (.slice x3 m3 p3) AA :: (if E 5 = true then RqH ((yr, yA), (⟨yu, yes, yls⟩ : Bu)) (val 5) else emp) :: (if E 10 = true then PtrBlk (val 10) (.cells (if E 11 = true then agO (tupAt (val 5) 0) else #[.int .i64 0, .slice none 0 0, .slice none 0 0]) 25 (0, 0)) else emp) :: Arg W :: [])) (by kernel_rfl) (by kernel_rfl) (by kernel_rfl) (by kernel_rfl) ((HF.addEmp.addEmp).sel 8 [2, 3, 4, 5, 6, 0, 1, 7])
                  case step =>
                    iterate 5 (refine ⟨eff_pl rfl (fun _ => by rfl) fun E val hn T ds w K H hk ho hK => ?_, ?_⟩; rotate_left)
                    refine ⟨eff_mk rfl (fun _ => by rfl) fun E val hE0 hcl hn T ds w K H hk ho hK => ?_, ?_⟩; rotate_left
                    iterate 4 (refine ⟨eff_pl rfl (fun _ => by rfl) fun E val hn T ds w K H hk ho hK => ?_, ?_⟩; rotate_left)
                    iterate 2 (refine ⟨eff_mk rfl (fun _ => by rfl) fun E val hE0 hcl hn T ds w K H hk ho hK => ?_, ?_⟩; rotate_left)
                    iterate 2 (refine ⟨eff_pl rfl (fun _ => by rfl) fun E val hn T ds w K H hk ho hK => ?_, ?_⟩; rotate_left)
                    exact trivial
                    · have o4 := ho 4 (by kernel_rfl); clear ho; simp [know, dstAt, Region.binds] at hk o4
                      (refine op_rowT (T := 25) rfl o4 a25 s25 H 0 rfl rfl ?_; exact hK _ H)
                    · have o1 := ho 1 (by kernel_rfl); clear ho; simp [know, dstAt, Region.binds] at hk o1; go_simp; exact hK _ H
                    · have o2 := ho 2 (by kernel_rfl); clear ho; simp [know, dstAt, Region.binds] at hk o2; go_simp; exact hK _ H
                    · have o19 := ho 19 (by kernel_rfl); clear ho; simp [know, dstAt, Region.binds] at hk o19; go_simp; exact hK _ H
                    · clear ho; simp [know, dstAt, Region.binds] at hk
                      first | (refine op_sliceTo rfl hk.1 hk.2 Try.underlying34 s29 KC.out ?_; exact hK _ H) | (go_simp; exact hK _ H)
                    · clear ho; simp [know, dstAt, Region.binds] at hk
                      (have q11 : E 11 = false := (by cases h : E 11 with | false => rfl | true => (have h2 := hcl 11 (by decide) h 5 (by decide); rw [hE0] at h2; cases h2))); (simp only [hE0, q11, Bool.false_eq_true, if_false] at H); go_simp; refine (HRy.out _ _ _ _ _ (He.out.ext (H.ext 7 rfl)) (Hl.out.ext (H.ext 7 rfl)) (HTo.out _ (H.ext 7 rfl)) H).mono ?_; rintro e w' ⟨r1, r2, r3, rfl, H⟩; refine hK _ _ ?_; have t5 : updE E 5 5 = true := rfl; have t10 : updE E 5 10 = E 10 := rfl; have t11 : updE E 5 11 = false := q11; simp only [t5, t10, t11, Bool.false_eq_true, if_true, if_false]; exact (rqh_mk (R := ((yr, yA), (⟨yu, yes, yls⟩ : Bu))) H).sel 9 [1, 2, 3, 4, 5, 0, 7, 8]
                    · clear ho; simp [know, dstAt, Region.binds] at hk; go_simp; exact hK _ H
                    · clear ho; simp [know, dstAt, Region.binds] at hk
                      first | (have e5 := hn 5 (by decide); simp only [e5, if_true] at H; obtain ⟨_, _, _, _, _, _, _, _, _, hv, _⟩ := rqh_open (H.pick 5 rfl); rw [hv] at hk; go_simp; rw [hv] at hK; exact hK _ (by simp only [e5, if_true, ← hv]; exact H)) | (go_simp; exact hK _ H)
                    · clear ho; simp [know, dstAt, Region.binds] at hk
                      first | (have e5 := hn 5 (by decide); simp only [e5, if_true] at H; obtain ⟨_, _, _, _, _, _, _, _, _, hv, _⟩ := rqh_open (H.pick 5 rfl); rw [hv] at hk; go_simp; rw [hv] at hK; exact hK _ (by simp only [e5, if_true, ← hv]; exact H)) | (go_simp; exact hK _ H)
                    · clear ho; simp [know, dstAt, Region.binds] at hk
                      first | (have e5 := hn 5 (by decide); simp only [e5, if_true] at H; obtain ⟨_, _, _, _, _, _, _, _, _, hv, _⟩ := rqh_open (H.pick 5 rfl); rw [hv] at hk; go_simp; rw [hv] at hK; exact hK _ (by simp only [e5, if_true, ← hv]; exact H)) | (go_simp; exact hK _ H)
                    · clear ho; simp [know, dstAt, Region.binds] at hk
                      (have q11 : E 11 = false := (by cases h : E 11 with | false => rfl | true => (have h2 := hcl 11 (by decide) h 10 (by decide); rw [hE0] at h2; cases h2))); (simp only [hE0, Bool.false_eq_true, if_false] at H); refine op_allocT rfl z25 rfl (H.sel 8 [0, 1, 2, 3, 4, 5, 7]) ?_; (intro x w' H; refine hK _ _ ?_; have t5 : updE E 10 5 = E 5 := rfl; have t10 : updE E 10 10 = true := rfl; have t11 : updE E 10 11 = false := q11; simp only [t5, t10, t11, Bool.false_eq_true, if_true, if_false]; exact H.sel 8 [1, 2, 3, 4, 5, 6, 0, 7])
                    · clear ho; simp [know, dstAt, Region.binds] at hk
                      (have e5 := hn 5 (by decide)); (have e10 := hn 10 (by decide)); (simp only [hE0, e5, e10, Bool.false_eq_true, if_true, if_false] at H); (obtain ⟨_, _, _, _, _, _, _, _, _, hv, _⟩ := rqh_open (H.pick 5 rfl)); (obtain ⟨g, hv10, HS⟩ := ptr_ex (H.pick 6 rfl)); (have hk2 := hk.2.1); (rw [hv] at hk2); refine op_putT rfl (hk.1.trans hv10) hk2 ?_ s25 HS 0 rfl rfl rfl ?_; (simp [Value.oneCell']); (intro w' H; refine hK _ _ ?_; have t5 : updE E 11 5 = true := e5; have t10 : updE E 11 10 = true := e10; have t11 : updE E 11 11 = true := rfl; simp only [t5, t10, t11, if_true]; exact ((At.imp H fun _ hh => (⟨g, hv10, (by rw [hv]; exact hh)⟩ : PtrBlk (val 10) (.cells (agO (tupAt (val 5) 0)) 25 (0, 0)) _)).sel 8 [1, 2, 3, 4, 5, 6, 0, 7]))
                    · clear ho; simp [know, dstAt, Region.binds] at hk; go_simp; exact hK _ H
                    · clear ho; simp [know, dstAt, Region.binds] at hk; go_simp; exact hK _ H
                  case ins =>
                    iterate 5 (refine ⟨ins_pl rfl (fun _ _ _ => rfl), ?_⟩)
                    refine ⟨ins_mk rfl (fun _ => rfl), ?_⟩
                    iterate 4 (refine ⟨ins_pl rfl (fun val val' h => by first | rfl | ((have h5 := h 5 (by decide)); first | (simp only [h5]; done) | (simp only [h5]; rfl))), ?_⟩)
                    iterate 2 (refine ⟨ins_mk rfl (fun _ => rfl), ?_⟩)
                    iterate 2 (refine ⟨ins_pl rfl (fun val val' h => by first | rfl | ((have h5 := h 5 (by decide)); first | (simp only [h5]; done) | (simp only [h5]; rfl))), ?_⟩)
                    exact trivial
                  case jns =>
                    iterate 5 (refine ⟨j_pl (fun _ _ _ => rfl), ?_⟩)
                    refine ⟨j_mk rfl, ?_⟩
                    iterate 4 (refine ⟨j_pl (fun _ _ _ => rfl), ?_⟩)
                    iterate 2 (refine ⟨j_mk rfl, ?_⟩)
                    iterate 2 (refine ⟨j_pl (fun _ _ _ => rfl), ?_⟩)
                    exact trivial
                  case fin =>
                    intro E val w9 hE H
                    have e5 := hE 5 (by decide)
                    have e10 := hE 10 (by decide)
                    have e11 := hE 11 (by decide)
                    simp only [e5, e10, e11, if_true] at H
                    clear hE e5 e10 e11 HF
                    obtain ⟨s1, t1, r1, s2, t2, r2, s3, t3, r3, hv, HX⟩ := rqh_open (H.pick 5 rfl)
                    obtain ⟨g20, hv10, HY⟩ := ptr_ex (HX.pick 8 rfl)
                    rw [hv] at HY
                    have HF : At W (Blk g20 (.cells #[.int .i64 yu, .slice s1 t1 r1, .slice s2 t2 r2] 25 (0, 0)) :: OE (.slice s1 t1 r1) yes :: OL (.slice s2 t2 r2) yls :: AnsRow (.slice s3 t3 r3) yA :: Blk g12 (.cells #[.int .i64 xu, .slice x1 m1 p1, .slice x2 m2 p2] 25 (0, 0)) :: OE (.slice x1 m1 p1) xes :: OL (.slice x2 m2 p2) xls :: AnsRow (.slice x3 m3 p3) AA :: Arg W :: []) w9 := HY.sel 10 [0, 1, 2, 3, 5, 6, 7, 8, 9]
                    clear H HX HY
                    simp [putAll, Act.put]
                    simp only [hv10, hv, tupAt]
                    clear hv10 hv
                    have KC := Lib.hid (show k1 ≤ l.length from hk1)
                    go_wp2_with fail
                    apply wp_region_eff [5, 10, 11] (fun i => (#[[], [], [], [], [], [], [5], [5], [5], [5], [], [5, 10], [5], [5]] : Array (List Nat)).getD i []) (fun val i => ((_ :: _ :: _ :: _ :: .slice (cutA capc k1 9 adc) (l.length - k1) (capc - k1) :: val 5 :: val 5 :: tupAt (val 5) 0 :: tupAt (val 5) 1 :: tupAt (val 5) 2 :: val 10 :: val 11 :: tupAt (val 5) 1 :: tupAt (val 5) 2 :: []) : List Value).toArray.getD i undef) (fun E val => At W (Blk g20 (.cells #[.int .i64 yu, .slice s1 t1 r1, .slice s2 t2 r2] 25 (0, 0)) :: OE (.slice s1 t1 r1) yes :: OL (.slice s2 t2 r2) yls :: AnsRow (.slice s3 t3 r3) yA :: Blk g12 (.cells #[.int .i64 xu, .slice x1 m1 p1, .slice x2 m2 p2] 25 (0, 0)) :: OE (.slice x1 m1 p1) xes :: OL (.slice x2 m2 p2) xls :: AnsRow (.slice x3 m3 p3) AA :: (if E 5 = true then RqH ((zr, zA), (⟨zu, zes, zls⟩ : Bu)) (val 5) else emp) :: (if E 10 = true then PtrBlk (val 10) (.cells (if E 11 = true then agO (tupAt (val 5) 0) else #[.int .i64 0, .slice none 0 0, .slice none 0 0]) 25 (0, 0)) else emp) :: Arg W :: [])) (by kernel_rfl) (by kernel_rfl) (by kernel_rfl) (by kernel_rfl) ((HF.addEmp.addEmp).sel 11 [2, 3, 4, 5, 6, 7, 8, 9, 0, 1, 10])
                    case step =>
                      iterate 5 (refine ⟨eff_pl rfl (fun _ => by rfl) fun E val hn T ds w K H hk ho hK => ?_, ?_⟩; rotate_left)
                      refine ⟨eff_mk rfl (fun _ => by rfl) fun E val hE0 hcl hn T ds w K H hk ho hK => ?_, ?_⟩; rotate_left
                      iterate 4 (refine ⟨eff_pl rfl (fun _ => by rfl) fun E val hn T ds w K H hk ho hK => ?_, ?_⟩; rotate_left)
                      iterate 2 (refine ⟨eff_mk rfl (fun _ => by rfl) fun E val hE0 hcl hn T ds w K H hk ho hK => ?_, ?_⟩; rotate_left)
                      iterate 2 (refine ⟨eff_pl rfl (fun _ => by rfl) fun E val hn T ds w K H hk ho hK => ?_, ?_⟩; rotate_left)
                      exact trivial
                      · have o20 := ho 20 (by kernel_rfl); clear ho; simp [know, dstAt, Region.binds] at hk o20
                        (refine op_rowT (T := 25) rfl o20 a25 s25 H 0 rfl rfl ?_; exact hK _ H)
                      · have o1 := ho 1 (by kernel_rfl); clear ho; simp [know, dstAt, Region.binds] at hk o1; go_simp; exact hK _ H
                      · have o2 := ho 2 (by kernel_rfl); clear ho; simp [know, dstAt, Region.binds] at hk o2; go_simp; exact hK _ H
                      · have o19 := ho 19 (by kernel_rfl); clear ho; simp [know, dstAt, Region.binds] at hk o19; go_simp; exact hK _ H
                      · clear ho; simp [know, dstAt, Region.binds] at hk
                        first | (refine op_sliceFrom rfl hk.1 hk.2 Try.underlying34 s29 KC.out ?_; exact hK _ H) | (go_simp; exact hK _ H)
                      · clear ho; simp [know, dstAt, Region.binds] at hk
                        (have q11 : E 11 = false := (by cases h : E 11 with | false => rfl | true => (have h2 := hcl 11 (by decide) h 5 (by decide); rw [hE0] at h2; cases h2))); (simp only [hE0, q11, Bool.false_eq_true, if_false] at H); go_simp; refine (HRz.out _ _ _ _ _ (oe_recs (H.pick 1 rfl)) (ol_recs (H.pick 2 rfl)) (HFr.out _ (H.ext 10 rfl)) H).mono ?_; rintro e w' ⟨r1, r2, r3, rfl, H⟩; refine hK _ _ ?_; have t5 : updE E 5 5 = true := rfl; have t10 : updE E 5 10 = E 10 := rfl; have t11 : updE E 5 11 = false := q11; simp only [t5, t10, t11, Bool.false_eq_true, if_true, if_false]; exact (rqh_mk (R := ((zr, zA), (⟨zu, zes, zls⟩ : Bu))) H).sel 12 [1, 2, 3, 4, 5, 6, 7, 8, 0, 10, 11]
                      · clear ho; simp [know, dstAt, Region.binds] at hk; go_simp; exact hK _ H
                      · clear ho; simp [know, dstAt, Region.binds] at hk
                        first | (have e5 := hn 5 (by decide); simp only [e5, if_true] at H; obtain ⟨_, _, _, _, _, _, _, _, _, hv, _⟩ := rqh_open (H.pick 8 rfl); rw [hv] at hk; go_simp; rw [hv] at hK; exact hK _ (by simp only [e5, if_true, ← hv]; exact H)) | (go_simp; exact hK _ H)
                      · clear ho; simp [know, dstAt, Region.binds] at hk
                        first | (have e5 := hn 5 (by decide); simp only [e5, if_true] at H; obtain ⟨_, _, _, _, _, _, _, _, _, hv, _⟩ := rqh_open (H.pick 8 rfl); rw [hv] at hk; go_simp; rw [hv] at hK; exact hK _ (by simp only [e5, if_true, ← hv]; exact H)) | (go_simp; exact hK _ H)
                      · clear ho; simp [know, dstAt, Region.binds] at hk
                        first | (have e5 := hn 5 (by decide); simp only [e5, if_true] at H; obtain ⟨_, _, _, _, _, _, _, _, _, hv, _⟩ := rqh_open (H.pick 8 rfl); rw [hv] at hk; go_simp; rw [hv] at hK; exact hK _ (by simp only [e5, if_true, ← hv]; exact H)) | (go_simp; exact hK _ H)
                      · clear ho; simp [know, dstAt, Region.binds] at hk
                        (have q11 : E 11 = false := (by cases h : E 11 with | false => rfl | true => (have h2 := hcl 11 (by decide) h 10 (by decide); rw [hE0] at h2; cases h2))); (simp only [hE0, Bool.false_eq_true, if_false] at H); refine op_allocT rfl z25 rfl (H.sel 11 [0, 1, 2, 3, 4, 5, 6, 7, 8, 10]) ?_; (intro x w' H; refine hK _ _ ?_; have t5 : updE E 10 5 = E 5 := rfl; have t10 : updE E 10 10 = true := rfl; have t11 : updE E 10 11 = false := q11; simp only [t5, t10, t11, Bool.false_eq_true, if_true, if_false]; exact H.sel 11 [1, 2, 3, 4, 5, 6, 7, 8, 9, 0, 10])
                      · clear ho; simp [know, dstAt, Region.binds] at hk
                        (have e5 := hn 5 (by decide)); (have e10 := hn 10 (by decide)); (simp only [hE0, e5, e10, Bool.false_eq_true, if_true, if_false] at H); (obtain ⟨_, _, _, _, _, _, _, _, _, hv, _⟩ := rqh_open (H.pick 8 rfl)); (obtain ⟨g, hv10, HS⟩ := ptr_ex (H.pick 9 rfl)); (have hk2 := hk.2.1); (rw [hv] at hk2); refine op_putT rfl (hk.1.trans hv10) hk2 ?_ s25 HS 0 rfl rfl rfl ?_; (simp [Value.oneCell']); (intro w' H; refine hK _ _ ?_; have t5 : updE E 11 5 = true := e5; have t10 : updE E 11 10 = true := e10; have t11 : updE E 11 11 = true := rfl; simp only [t5, t10, t11, if_true]; exact ((At.imp H fun _ hh => (⟨g, hv10, (by rw [hv]; exact hh)⟩ : PtrBlk (val 10) (.cells (agO (tupAt (val 5) 0)) 25 (0, 0)) _)).sel 11 [1, 2, 3, 4, 5, 6, 7, 8, 9, 0, 10]))
                      · clear ho; simp [know, dstAt, Region.binds] at hk; go_simp; exact hK _ H
                      · clear ho; simp [know, dstAt, Region.binds] at hk; go_simp; exact hK _ H
                    case ins =>
                      iterate 5 (refine ⟨ins_pl rfl (fun _ _ _ => rfl), ?_⟩)
                      refine ⟨ins_mk rfl (fun _ => rfl), ?_⟩
                      iterate 4 (refine ⟨ins_pl rfl (fun val val' h => by first | rfl | ((have h5 := h 5 (by decide)); first | (simp only [h5]; done) | (simp only [h5]; rfl))), ?_⟩)
                      iterate 2 (refine ⟨ins_mk rfl (fun _ => rfl), ?_⟩)
                      iterate 2 (refine ⟨ins_pl rfl (fun val val' h => by first | rfl | ((have h5 := h 5 (by decide)); first | (simp only [h5]; done) | (simp only [h5]; rfl))), ?_⟩)
                      exact trivial
                    case jns =>
                      iterate 5 (refine ⟨j_pl (fun _ _ _ => rfl), ?_⟩)
                      refine ⟨j_mk rfl, ?_⟩
                      iterate 4 (refine ⟨j_pl (fun _ _ _ => rfl), ?_⟩)
                      iterate 2 (refine ⟨j_mk rfl, ?_⟩)
                      iterate 2 (refine ⟨j_pl (fun _ _ _ => rfl), ?_⟩)
                      exact trivial
                    case fin =>
                      intro E val w9 hE H
                      have e5 := hE 5 (by decide)
                      have e10 := hE 10 (by decide)
                      have e11 := hE 11 (by decide)
                      simp only [e5, e10, e11, if_true] at H
                      clear hE e5 e10 e11 HF
                      obtain ⟨o1, i1, j1, o2, i2, j2, o3, i3, j3, hv, HX⟩ := rqh_open (H.pick 8 rfl)
                      obtain ⟨g23, hv10, HY⟩ := ptr_ex (HX.pick 11 rfl)
                      rw [hv] at HY
                      have HF : At W (Blk g23 (.cells #[.int .i64 zu, .slice o1 i1 j1, .slice o2 i2 j2] 25 (0, 0)) :: OE (.slice o1 i1 j1) zes :: OL (.slice o2 i2 j2) zls :: AnsRow (.slice o3 i3 j3) zA :: Blk g20 (.cells #[.int .i64 yu, .slice s1 t1 r1, .slice s2 t2 r2] 25 (0, 0)) :: OE (.slice s1 t1 r1) yes :: OL (.slice s2 t2 r2) yls :: AnsRow (.slice s3 t3 r3) yA :: Blk g12 (.cells #[.int .i64 xu, .slice x1 m1 p1, .slice x2 m2 p2] 25 (0, 0)) :: OE (.slice x1 m1 p1) xes :: OL (.slice x2 m2 p2) xls :: AnsRow (.slice x3 m3 p3) AA :: Arg W :: []) w9 := HY
                      clear H HX HY
                      simp [putAll, Act.put]
                      simp only [hv10, hv, tupAt]
                      clear hv10 hv
                      by_cases her : er = 0
                      · subst her
                        obtain ⟨rfl, rfl, hzb, hzA⟩ := HOK2.out rfl
                        injection hzb with q1 q2 q3
                        subst q1 q2 q3
                        obtain ⟨xs, hxs, HX⟩ := ansrow_open (HF.pick 7 rfl)
                        obtain ⟨ys, hys, HY⟩ := ansrow_open (HX.pick 5 rfl)
                        clear HF HX
                        have HA := Lib.hid hzA
                        subst hxs hys
                        clear hzA
                        have HF := HY.sel 15 [2, 0, 3, 1, 4, 5, 6, 10, 11, 12, 13, 14]
                        clear HY
                        have hsum : xs.length + ys.length ≤ 400 := by
                          have q1 := HLen.out.2.2.2
                          have q2 := congrArg List.length HA.out
                          rw [List.length_append, List.length_map, List.length_map] at q2
                          omega
                        go_wp2_with (first | ((with_reducible refine k_load (T := 25) ?_); (first | refine st_row rfl _ _ rfl _ rfl a25 3 s25 HF 4 rfl rfl ?_ | refine st_row rfl _ _ rfl _ rfl a25 3 s25 HF 7 rfl rfl ?_); (intro K hK; go_simp)) | ((with_reducible refine k_load (T := 25) ?_); (first | refine st_loads rfl _ _ rfl _ _ rfl a25 3 s25 HF 4 rfl ?_ ?_ | refine st_loads rfl _ _ rfl _ _ rfl a25 3 s25 HF 7 rfl ?_ ?_); (simp); (intro K hK; go_simp)))
                        refine (sameBu (b := ⟨zu, zes, zls⟩) (oe_recs (HF.pick 5 rfl)) (ol_recs (HF.pick 6 rfl)) (oe_recs (HF.pick 8 rfl)) (ol_recs (HF.pick 9 rfl)) zb1 zb2 HF).mono ?_
                        rintro e w3 ⟨rfl, HX⟩
                        clear HF
                        have HF := HX
                        clear HX
                        obtain ⟨ao, co, hvo, _, _, _, h5o, h6o⟩ := own_value (HF.pick 1 rfl)
                        have HO := Lib.hid (ansC_one (HF.pick 3 rfl))
                        cases hvo
                        have H5 := Lib.hid h5o
                        have H6 := Lib.hid h6o
                        clear h5o h6o
                        go_wp2_with (first | ((with_reducible refine k_builtin ?_); refine st_append rfl _ _ _ rfl 41 Try.underlying58 6 s41 72 bytes41 _ z41 rfl (.slice s3 t3 r3) xs.length (ansC xs) rfl HF o3 ys.length j3 (ansC ys) rfl (ansC_len ys) ?_ HO.out ?_ ?_ ?_; (intro hp; obtain ⟨b, hb⟩ := H5.out hp; exact ⟨b, hb, H6.out b hb⟩); ((try simp only [maxLen]); omega); (omega); (clear HF; intro v7 w HF K hK; obtain ⟨s4, t4, u4, rfl⟩ := own_form HF; go_simp)))
                        have HG := ansrow_app (HF.sel 12 [0, 2, 3, 10, 11])
                        rw [HA.out] at HG
                        refine (sameAs HNm2.out zb3 HG).mono ?_
                        rintro e w3 ⟨rfl, HX⟩
                        clear HF HG
                        have HF := HX
                        clear HX
                        go_wp2_with fail
                        refine (head HF).mono ?_
                        rintro e w3 ⟨rfl, HX⟩
                        clear HF
                        have HF := HX
                        clear HX
                        go_wp2_with fail
                        go_ret
                        exact ⟨rfl, HF.below 2 rfl⟩
                      · have her2 : (er == 0) = false := by rw [beq_eq_false_iff_ne]; exact her
                        have hbad := HBad.out her
                        have hA0 : AA = [] := by injection hbad with q1 q2; injection q1
                        subst hA0
                        have hm0 : m3 = 0 := HM3.out
                        subst hm0
                        have hno := HNO2.out her
                        clear hbad
                        by_cases hyr : yr = 0
                        · have hzr : zr ≠ 0 := hno.resolve_left (by rw [hyr]; simp)
                          have d1 : (zr == 0) = false := by rw [beq_eq_false_iff_ne]; exact hzr
                          have d2 : (zr != 0) = true := by rw [bne_iff_ne]; exact hzr
                          subst hyr
                          go_wp2_with fail
                          refine (head HF).mono ?_
                          rintro e w3 ⟨rfl, HX⟩
                          clear HF
                          have HF := HX
                          clear HX
                          go_wp2_with fail
                          go_ret
                          exact ⟨by first | rfl | (show Ending.returned (.bool (zr != 0)) = _; rw [d2]), HF.below 12 rfl⟩
                        · have d1 : (yr == 0) = false := by rw [beq_eq_false_iff_ne]; exact hyr
                          go_wp2_with fail
                          refine (head HF).mono ?_
                          rintro e w3 ⟨rfl, HX⟩
                          clear HF
                          have HF := HX
                          clear HX
                          go_wp2_with fail
                          go_ret
                          exact ⟨rfl, HF.below 12 rfl⟩
    · have d4 : (400 : Int) < l.length := by omega
      go_wp2_with (first | ((with_reducible refine k_load (T := 25) ?_); refine st_row rfl _ _ rfl _ rfl a25 3 s25 HF 0 rfl rfl ?_; (intro K hK; go_simp)) | ((with_reducible refine k_load (T := 25) ?_); refine st_loads rfl _ _ rfl _ _ rfl a25 3 s25 HF 0 rfl ?_ ?_; (simp); (intro K hK; go_simp)))
      refine (head HF).mono ?_
      rintro e w3 ⟨rfl, HX⟩
      clear HF
      have HF := HX
      clear HX
      go_wp2_with fail
      go_ret
      exact ⟨rfl, HF.below 1 rfl⟩
end

theorem own : ownKnob Try.prog.godebug = none := by kernel_rfl

theorem lifted (os : Os) (started : os.Started) (H : Type) (enc : TypeId × Value → H) :
    ReturnsInHanded {} Try.checked os 7 .any (Rows.bucketReplaysSpec.pre6 enc Try.prog Try.f7 Rows.bucketReplaysRow.domain false) (Rows.bucketReplaysSpec.post enc Try.prog Try.f7 false true false false) := by
  refine frame_true (C := Try.checked) started own (by kernel_rfl) Try.func7
    (ChangeSpec.witness6 (enc := enc) (C := Try.checked) false ⟨#[], #[.agg #[.int .i64 0, .slice none 0 0, .slice none 0 0], .int .i64 0, .slice none 0 0, .int .i64 0], []⟩ 8 (by kernel_rfl) (by kernel_rfl) (by kernel_rfl) (by kernel_rfl)) rfl ?_ (by kernel_rfl) (by kernel_rfl) (by kernel_rfl) Try.underlying4 ?_
  · intro ds hds
    match ds, hds with
    | [_, _, _, _], _ => rfl
  · rintro W args ds p ⟨base, hval⟩ hA hwt
    have hp : Try.f7.params.toList = [25, 3, 34, 3] := by rw [Try.params7]
    rw [hp] at hA hwt
    obtain ⟨v0, r0, d0, e0, p0, q0, ha, rfl, rfl, h0, hA⟩ := trodAll_cons hA
    obtain ⟨v1, r1, d1, e1, p1, q1, rfl, rfl, rfl, h1, hA⟩ := trodAll_cons hA
    obtain ⟨v2, r2, d2, e2, p2, q2, rfl, rfl, rfl, h2, hA⟩ := trodAll_cons hA
    obtain ⟨v3, r3, d3, e3, p3, q3, rfl, rfl, rfl, h3, hA⟩ := trodAll_cons hA
    obtain ⟨rfl, rfl, rfl⟩ := trodAll_nil hA
    have ha2 : args = #[v0, v1, v2, v3] := by cases args; simp_all
    subst ha2
    simp only [DataW.weightsEach, List.all_append, Bool.and_eq_true] at hwt
    obtain ⟨a0, b0⟩ := Lw.arg_Bucket (hval 0 _ _ (by rw [Try.params7]; rfl) rfl) h0 hwt.1
    obtain ⟨a1, b1⟩ := Lw.arg_int (hval 1 _ _ (by rw [Try.params7]; rfl) rfl) h1 hwt.2.1
    obtain ⟨a2, b2⟩ := Lw.arg_cmds (hval 2 _ _ (by rw [Try.params7]; rfl) rfl) h2 hwt.2.2.1
    obtain ⟨a3, b3⟩ := Lw.arg_int (hval 3 _ _ (by rw [Try.params7]; rfl) rfl) h3 hwt.2.2.2.1
    exact walk b0 b1 b2 b3

theorem over : Rows.bucketReplaysRow.holds Try.pinned (OpenSpec.ofChange Rows.bucketReplaysSpec) :=
  OpenClaim.holds_of_wide 7 Try.f7 rfl rfl rfl rfl rfl rfl rfl ⟨rfl, rfl, rfl, rfl, rfl⟩ rfl rfl rfl rfl rfl (by kernel_rfl) Try.func7 (by kernel_rfl)
    (of_decide_eq_true (by kernel_rfl)) (by unfold Func.isWrapper; first | (rw [if_pos (by decide +kernel)]; kernel_rfl) | (rw [if_neg (by decide +kernel)]; exact ⟨rfl, rfl⟩))
    (fun os started H enc _ => lifted os started H enc)

theorem proved : Rows.BucketReplaysSaid := over
#print axioms proved
end bucketReplays
end Go.Proofs.Ytcofcikdknmggaa
