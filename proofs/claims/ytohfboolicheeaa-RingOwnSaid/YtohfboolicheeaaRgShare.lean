/-
  Buckets and shares of the program's ring.
-/
import Derived.Test.YtohfboolicheeaaRgGroup
import Derived.Lib.ConvBytes
import Derived.Laws.AppendOwn
import Derived.Laws.Cover2
import Derived.Laws.FloatArith
namespace Go.Proofs.Ytohfboolicheeaa
open Go.Hp Go.RowKit
set_option linter.unusedVariables false
set_option linter.unusedSimpArgs false
set_option maxRecDepth 100000
set_option maxHeartbeats 2000000
namespace Rg

def textS (s : ByteArray) : Nat := hashB hash0 (s.data.toList.map UInt8.toNat)
/-- For how many hashes a server is the first. -/
def cnt (server : Int) : Int → List Pt → Int
  | _, [] => 0
  | last, p :: t => (if p.s = server then p.h - last else 0) + cnt server p.h t
def lastH (pts : List Pt) : Int := match pts.getLast? with | some p => p.h | none => 0
def countS (pts : List Pt) (server : Int) : Int := cnt server (lastH pts - 4294967296) pts

/-- A string's bytes in a row of their own. -/
def BySl (v : Value) (s : ByteArray) : HProp := fun hp => ∃ (g cap : Nat) (cs : Array Value) (fr : Nat × Nat), v = .slice (some ⟨g, 0, none⟩) s.size cap ∧ (s.size ≤ cap ∧ cap ≤ maxLen ∧ ∀ j, j < s.size → cs[j]? = some (.int .u8 ((s.data.toList.getD j 0).toNat : Nat))) ∧ Blk g (.cells cs 5 fr) hp
section
variable {w0 w : World} {L : List HProp}
theorem bys_recs {v : Value} {s : ByteArray} (H : At w0 (BySl v s :: L) w) : RecsAt w v 1 ((s.data.toList.map UInt8.toNat).map bC) := by
  obtain ⟨g, H⟩ := At.ex H
  obtain ⟨cap, H⟩ := At.ex H
  obtain ⟨cs, H⟩ := At.ex H
  obtain ⟨fr, H⟩ := At.ex H
  obtain ⟨hv, H1⟩ := At.and H
  subst hv
  obtain ⟨⟨h1, h2, h3⟩, HB⟩ := At.and H1
  have hl : ((s.data.toList.map UInt8.toNat).map bC).length = s.size := by rw [List.length_map, List.length_map, Array.length_toList]; rfl
  refine ⟨⟨some ⟨g, 0, none⟩, cap, by rw [hl], by rw [hl]; exact h1, h2, fun _ => ⟨_, rfl⟩, fun b hb j u hj => ?_⟩, by intro r hr; obtain ⟨e, _, rfl⟩ := List.mem_map.1 hr; rfl⟩
  cases hb
  have hfl : ((s.data.toList.map UInt8.toNat).map bC).flatten = s.data.toList.map fun b : UInt8 => Value.int .u8 (b.toNat : Nat) := by
    generalize s.data.toList = l
    induction l with
    | nil => rfl
    | cons x l ih => rw [List.map_cons, List.map_cons, List.flatten_cons, ih]; rfl
  rw [hfl, List.getElem?_map] at hj
  obtain ⟨x, hx, rfl⟩ := Option.map_eq_some_iff.1 hj
  have hjl := (List.getElem?_eq_some_iff.1 hx).1
  have h4 := h3 j (by rw [Array.length_toList] at hjl; exact hjl)
  have h5 : s.data.toList.getD j 0 = x := by rw [List.getD_eq_getElem?_getD, hx]; rfl
  rw [h5] at h4
  rw [Addr.add_lit, Nat.zero_add]
  have := cells_of (c := cs.toList) (t := 5) (fr := fr) (w := w) (g := g) (by rw [HB.get0]) j _ (by rw [Array.getElem?_toList]; exact h4)
  rwa [Addr.add_lit, Nat.zero_add] at this
theorem op_strBytes {P : Program} {o : Oper} {Tm : Array Value} {ds : List Deferred} {K : Act → World → Prop} {Q : Exit → Act → World → Prop} {A B : TypeId} {t : Tmp} {s : ByteArray} {u : TypeDesc}
    (ho : o.op = .convert A B (.tmp t)) (hx : Tm[t]?.getD undef = .string s) (hs : P.underlying A = some u) (hd : P.underlying B = some (.slice 5)) (he : P.underlying 5 = some (.int .u8)) (hsz : s.size ≤ maxLen) (H : At w0 L w)
    (h : ∀ x w', At w0 (BySl x s :: L) w' → K (Act.put ⟨Tm, ds⟩ o.dst x) w') : o.wp P ⟨Tm, ds⟩ w K Q := by
  have hx' : Act.eval ⟨Tm, ds⟩ (.tmp t) = .string s := by simpa [Act.eval] using hx
  have hr := Lib.run_convert_string_bytes (P := P) w A B 5 s hs hd he
  refine op_value (v := .slice (some ⟨w.heap.size, 0, none⟩) s.size (grownCap w s.size 0 5)) (w' := Lib.bytesWorld w 5 s) ?_ (h _ _ ?_)
  · simp [execOp, ho, hx', hr]
  · have HN : At w0 (Blk w.heap.size (.cells (Lib.bytesCells w 5 s) 5 ((Lib.bytesCells w 5 s).size, (Lib.bytesCells w 5 s).size + 1)) :: L) (Lib.bytesWorld w 5 s) := H.new rfl rfl rfl (Lib.bytesWorld_at_new w 5 s) (fun k hk => Lib.bytesWorld_at_old w 5 s k hk)
    refine At.imp HN fun _ hh => ⟨_, _, _, _, rfl, ⟨grownCap_ge _ _ _ _, grownCap_le_maxLen _ _ _ _ hsz, fun j hj => ?_⟩, hh⟩
    unfold Lib.bytesCells
    rw [Array.getElem?_append_left (by simpa using hj), Array.getElem?_map]
    have hj2 : j < s.data.size := hj
    rw [Array.getElem?_eq_getElem hj2]
    have e : s.data.toList.getD j 0 = s.data[j] := by rw [List.getD_eq_getElem?_getD, Array.getElem?_toList, Array.getElem?_eq_getElem hj2]; rfl
    rw [e, Option.map_some]
theorem bucketP {v : Value} {c : Cf} {S : List Int} {pts : List Pt} (hr : RgF 84 w v c S pts) (hB : 1 ≤ c.B ∧ c.B ≤ 256) (s : ByteArray) (hsz : s.size ≤ maxLen) (H : At w0 L w) :
    Calls Try.prog 36 #[v, .string s] w (Ret w0 (.int .i64 ((textS s : Int) % c.B)) L) := by
  obtain ⟨W, rfl⟩ : ∃ W : World, W = w := ⟨_, rfl⟩
  have HF := At.of W
  have H0 := Lib.hid H
  obtain ⟨g, s1, s2, s3, p1, p2, p3, rfl, hg, hS, hp⟩ := hr
  have Hg := Lib.hid (fun (w2 : World) (hx : Ext W w2) j u (hj : (rgCells (.slice s1 s2 s3) c (.slice p1 p2 p3))[j]? = some u) => hx.cell (show W.cell? ⟨g, j, none⟩ = some u from by
    have := cells_of hg j u hj
    rwa [Addr.add_lit, Nat.zero_add] at this))
  obtain ⟨cF, cP, cB, cK, cR⟩ := c
  dsimp only at *
  clear H hp hS hg
  have Hb := Lib.hid (fun (w2 : World) (M : List HProp) (v : Value) (hv : RecsAt w2 v 1 ((s.data.toList.map UInt8.toNat).map bC)) (HM : At W M w2) => bytes hv (fun b hb => by obtain ⟨x, _, rfl⟩ := List.mem_map.1 hb; exact UInt8.toNat_lt x) HM)
  obtain ⟨t, ht⟩ : ∃ t, textS s = t := ⟨_, rfl⟩
  rw [show hashB hash0 (s.data.toList.map UInt8.toNat) = t from ht] at Hb
  rw [ht]
  clear ht
  have hne : ¬ cB = 0 := by omega
  go_enter Try.func36, Try.ntmps36
  go_wp2_with fail
  apply wp_region_eff [1] (fun i => (#[[], [], [1], [], [], [], [], [], [1], [1]] : Array (List Nat)).getD i []) (fun val i => ((_ :: val 1 :: .int .i64 t :: _ :: _ :: _ :: _ :: .int .i64 cB :: .int .i64 ((t : Int).tmod cB) :: _ :: []) : List Value).toArray.getD i undef) (fun E val => At W ((if E 1 = true then BySl (val 1) s else emp) :: Arg W :: [])) (by kernel_rfl) (by kernel_rfl) (by kernel_rfl) (by kernel_rfl) (HF.addEmp)
  case step =>
    refine ⟨eff_pl rfl (fun _ => by rfl) fun E val hn T ds w K H hk ho hK => ?_, ?_⟩; rotate_left
    refine ⟨eff_mk rfl (fun _ => by rfl) fun E val hE0 hcl hn T ds w K H hk ho hK => ?_, ?_⟩; rotate_left
    iterate 8 (refine ⟨eff_pl rfl (fun _ => by rfl) fun E val hn T ds w K H hk ho hK => ?_, ?_⟩; rotate_left)
    exact trivial
    · have o1 := ho 1 (by kernel_rfl); clear ho; simp [know, dstAt, Region.binds] at hk o1; go_simp; exact hK _ H
    · clear ho; simp [know, dstAt, Region.binds] at hk
      (simp only [hE0, Bool.false_eq_true, if_false] at H); refine op_strBytes rfl hk Try.underlying9 Try.underlying92 Try.underlying5 hsz (H.drop) ?_; (intro x w' H; refine hK _ _ ?_; have t1 : updE E 1 1 = true := rfl; simp only [t1, if_true]; exact H)
    · clear ho; simp [know, dstAt, Region.binds] at hk
      (have e1 := hn 1 (by decide); simp only [e1, if_true] at H; go_simp; refine (Hb.out _ _ _ (bys_recs H) H).mono ?_; rintro e w' ⟨rfl, H⟩; exact hK _ (by simp only [e1, if_true]; exact H))
    · have o0 := ho 0 (by kernel_rfl); clear ho; simp [know, dstAt, Region.binds] at hk o0; go_simp; exact hK _ H
    · clear ho; simp [know, dstAt, Region.binds] at hk; go_simp; exact hK _ H
    · clear ho; simp [know, dstAt, Region.binds] at hk; go_simp; exact hK _ H
    · clear ho; simp [know, dstAt, Region.binds] at hk; go_simp; exact hK _ H
    · clear ho; simp [know, dstAt, Region.binds] at hk
      (refine op_load1T rfl hk (by kernel_rfl) (Hg.out _ (H.ext 1 rfl) 3 _ rfl) ?_; exact hK _ H)
    · clear ho; simp [know, dstAt, Region.binds] at hk; go_simp; exact hK _ H
    · clear ho; simp [know, dstAt, Region.binds] at hk; go_simp; exact hK _ H
  case ins =>
    refine ⟨ins_pl rfl (fun _ _ _ => rfl), ?_⟩
    refine ⟨ins_mk rfl (fun _ => rfl), ?_⟩
    refine ⟨ins_pl rfl (fun val val' h => by first | rfl | ((have h1 := h 1 (by decide)); first | (simp only [h1]; done) | (simp only [h1]; rfl))), ?_⟩
    iterate 5 (refine ⟨ins_pl rfl (fun _ _ _ => rfl), ?_⟩)
    iterate 2 (refine ⟨ins_pl rfl (fun val val' h => by first | rfl | ((have h1 := h 1 (by decide)); first | (simp only [h1]; done) | (simp only [h1]; rfl))), ?_⟩)
    exact trivial
  case jns =>
    refine ⟨j_pl (fun _ _ _ => rfl), ?_⟩
    refine ⟨j_mk rfl, ?_⟩
    iterate 8 (refine ⟨j_pl (fun _ _ _ => rfl), ?_⟩)
    exact trivial
  case fin =>
    intro E val w5 hE H
    have HF2 := H.drop
    clear hE H HF
    simp [putAll, Act.put]
    go_wp2_with fail
    go_ret
    refine ⟨?_, HF2.lift0 H0.out⟩
    show Ending.returned (.int .i64 ((t : Int).tmod cB)) = _
    rw [Int.tmod_eq_emod_of_nonneg (by omega)]

theorem cnt_step {server last : Int} {l : List Pt} {k : Nat} {p : Pt} (hp : l[k]? = some p) : cnt server last (l.drop k) = (if p.s = server then p.h - last else 0) + cnt server p.h (l.drop (k + 1)) := by
  obtain ⟨hlt, he⟩ := List.getElem?_eq_some_iff.1 hp
  rw [List.drop_eq_getElem_cons hlt, he]
  rfl
theorem share {v : Value} {c : Cf} {S : List Int} {pts : List Pt} (hr : RgF 84 w v c S pts) (hh : ∀ p ∈ pts, 0 ≤ p.h ∧ p.h < 4294967296) (hsz : pts.length ≤ 100000) (hpos : 0 < pts.length) (server : Int) {r : Nat}
    (hq : floatBits .quo .f64 (floatOfInt .f64 (countS pts server)) 4751297606875873280 = some r) (H : At w0 L w) : Calls Try.prog 19 #[v, .int .i64 server] w (Ret w0 (.float .f64 r) L) := by
  obtain ⟨W, rfl⟩ : ∃ W : World, W = w := ⟨_, rfl⟩
  have HF := At.of W
  have H0 := Lib.hid H
  obtain ⟨g, s1, s2, s3, p1, p2, p3, rfl, hg, hS, hp⟩ := hr
  have Hg := Lib.hid (fun (w2 : World) (hx : Ext W w2) => hx.cell (show W.cell? ⟨g, 6, none⟩ = some (.slice p1 p2 p3) from by
    have := cells_of hg 6 (.slice p1 p2 p3) rfl
    rwa [Addr.add_lit, Nat.zero_add] at this))
  obtain ⟨ad, cap, hv, c1, c2, c3⟩ := hp.value
  cases hv
  rw [List.length_map] at c1 c3 hp Hg
  have HV := Lib.hid hp
  obtain ⟨b, rfl⟩ := c3 hpos
  obtain ⟨z, hz⟩ : ∃ z, pts[pts.length - 1]? = some z := ⟨_, List.getElem?_eq_getElem (by omega)⟩
  have hlast : lastH pts = z.h := by
    unfold lastH
    rw [List.getLast?_eq_getElem?, hz]
  have Hz := Lib.hid (fun (w2 : World) (hxx : Ext W w2) => hxx.cell (show W.cell? (b.add ((pts.length - 1) * 3)) = some (.int .i64 z.h) from by
    have := recs_get hp hz 0 _ rfl
    rwa [Addr.add_add, Nat.add_zero] at this))
  have hzb := hh z (List.mem_of_getElem? hz)
  obtain ⟨zh, hzh⟩ : ∃ zh, z.h = zh := ⟨_, rfl⟩
  rw [hzh] at hzb hlast Hz
  have HH := Lib.hid hh
  obtain ⟨R, hR⟩ : ∃ R, countS pts server = R := ⟨_, rfl⟩
  have HR := Lib.hid (show cnt server (zh - 4294967296) pts = R by rw [← hR]; unfold countS; rw [hlast])
  rw [hR] at hq
  have HQ := Lib.hid hq
  have hpl : (((pts.length - 1 : Nat)) : Int) = (pts.length : Int) - 1 := by omega
  have HPL := Lib.hid hpl
  clear H hp hS hg hh hz hlast hR hq hzh hpl
  have hwl : IntKind.i64.wrap ((pts.length : Int) - 1) = ((pts.length - 1 : Nat) : Int) := by rw [HPL.out]; exact IntWalk.i64_in _ (by omega)
  have hwz : IntKind.i64.wrap (zh - 4294967296) = zh - 4294967296 := IntWalk.i64_in _ (by omega)
  have gl : ((pts.length - 1 : Nat) : Int) < pts.length := by omega
  go_enter Try.func19, Try.ntmps19
  go_wp2_with fail
  apply wp_region_eff [] (fun i => (#[[], [], [], [], [], [], [], [], [], [], [], [], [], [], []] : Array (List Nat)).getD i []) (fun val i => ((_ :: _ :: _ :: .slice (some b) pts.length p3 :: _ :: _ :: _ :: .slice (some b) pts.length p3 :: _ :: .int .i64 ((pts.length - 1 : Nat) : Int) :: _ :: _ :: .int .i64 zh :: .int .i64 (zh - 4294967296) :: _ :: []) : List Value).toArray.getD i undef) (fun E val => At W (Arg W :: [])) (by kernel_rfl) (by kernel_rfl) (by kernel_rfl) (by kernel_rfl) (HF)
  case step =>
    iterate 15 (refine ⟨eff_pl rfl (fun _ => by rfl) fun E val hn T ds w K H hk ho hK => ?_, ?_⟩; rotate_left)
    exact trivial
    · have o0 := ho 0 (by kernel_rfl); clear ho; simp [know, dstAt, Region.binds] at hk o0; go_simp; exact hK _ H
    · clear ho; simp [know, dstAt, Region.binds] at hk; go_simp; exact hK _ H
    · clear ho; simp [know, dstAt, Region.binds] at hk; go_simp; exact hK _ H
    · clear ho; simp [know, dstAt, Region.binds] at hk
      (refine op_load1T rfl hk (by kernel_rfl) (Hg.out _ (H.ext 0 rfl)) ?_; exact hK _ H)
    · have o0 := ho 0 (by kernel_rfl); clear ho; simp [know, dstAt, Region.binds] at hk o0; go_simp; exact hK _ H
    · clear ho; simp [know, dstAt, Region.binds] at hk; go_simp; exact hK _ H
    · clear ho; simp [know, dstAt, Region.binds] at hk; go_simp; exact hK _ H
    · clear ho; simp [know, dstAt, Region.binds] at hk
      (refine op_load1T rfl hk (by kernel_rfl) (Hg.out _ (H.ext 0 rfl)) ?_; exact hK _ H)
    · clear ho; simp [know, dstAt, Region.binds] at hk; go_simp; exact hK _ H
    · clear ho; simp [know, dstAt, Region.binds] at hk; go_simp; exact hK _ H
    · clear ho; simp [know, dstAt, Region.binds] at hk; go_simp; exact hK _ H
    · clear ho; simp [know, dstAt, Region.binds] at hk; go_simp; exact hK _ H
    · clear ho; simp [know, dstAt, Region.binds] at hk
      (refine op_load1T rfl hk (by kernel_rfl) (Hz.out _ (H.ext 0 rfl)) ?_; exact hK _ H)
    · clear ho; simp [know, dstAt, Region.binds] at hk; go_simp; exact hK _ H
    · clear ho; simp [know, dstAt, Region.binds] at hk; go_simp; exact hK _ H
  case ins =>
    iterate 15 (refine ⟨ins_pl rfl (fun _ _ _ => rfl), ?_⟩)
    exact trivial
  case jns =>
    iterate 15 (refine ⟨j_pl (fun _ _ _ => rfl), ?_⟩)
    exact trivial
  case fin =>
    intro E val w5 hE H
    clear HF hE
    have HF := H
    clear H hwl hwz gl
    simp [putAll, Act.put]
    go_wp2_with (first | ((with_reducible refine k_load ?_); refine st_load1 rfl _ _ rfl _ rfl rfl (Hg.out _ (HF.ext 0 rfl)) ?_; (intro K hK; go_simp)))
    go_loopw [5, 6, 28] (fun a l i wr => ∃ (k : Nat) (n last : Int), k ≤ pts.length ∧ a = .int .i64 n ∧ l = .int .i64 last ∧ i = .int .i64 k ∧ Hid (n + cnt server last (pts.drop k) = R) ∧ (-(k * 8589934592 : Int) ≤ n ∧ n ≤ k * 8589934592) ∧ (-4294967296 ≤ last ∧ last < 4294967296) ∧ At W (Arg W :: []) wr) (fun _ _ i _ => pts.length - (intOf i).toNat)
    case atStart => exact ⟨0, 0, zh - 4294967296, Nat.zero_le _, rfl, rfl, rfl, Lib.hid (by rw [List.drop_zero, Int.zero_add]; exact HR.out), by omega, by omega, HF⟩
    case round =>
      clear HF
      obtain ⟨k, n, last, hk, rfl, rfl, rfl, HI, hn, hla, HF⟩ := hrel
      by_cases hlt : k < pts.length
      · have gk : (k : Int) < pts.length := by omega
        obtain ⟨p, hp⟩ : ∃ p, pts[k]? = some p := ⟨_, List.getElem?_eq_getElem hlt⟩
        have Hs := Lib.hid (show sizeT Try.prog 87 = some p.cells.length from s87)
        have Hc := Lib.hid (fun (w2 : World) (hxx : Ext W w2) j u hj => hxx.cell (recs_get HV.out hp j u hj))
        have hpb := HH.out p (List.mem_of_getElem? hp)
        have HS := Lib.hid (cnt_step (server := server) (last := last) hp)
        obtain ⟨ph, ps, pn⟩ := p
        dsimp only at hpb HS
        have hw1 : wrap64 (ph - last) = ph - last := wrap64_of (by omega) (by omega)
        have hw2 : wrap64 (n + (ph - last)) = n + (ph - last) := wrap64_of (by omega) (by omega)
        clear hp
        by_cases he : ps = server
        · have HS2 := Lib.hid (show n + (ph - last) + cnt server ph (pts.drop (k + 1)) = R by have := HI.out; rw [HS.out, if_pos he] at this; omega)
          subst he
          go_wp2_with (first | ((with_reducible refine k_load (T := 87) ?_); refine st_loadCells rfl _ _ rfl _ rfl a87 [.int .i64 ph, .int .i64 ps, .int .i64 pn] Hs.out (Hc.out _ (HF.ext 0 rfl)) ?_; (intro K hK; go_simp)) | ((with_reducible refine k_alloc (T := 87) ?_); refine st_alloc rfl _ rfl _ z87 _ rfl HF ?_; (clear HF; intro g8 w HF K hK; simp only [Value.cells] at HF; go_simp)) | ((with_reducible refine k_store (T := 87) ?_); refine st_put rfl _ _ _ rfl _ rfl _ rfl ?_ s87 HF 0 rfl rfl ?_; (simp [Value.oneCell']); (clear HF; intro w HF K hK; simp only [List.set_cons_zero, List.set_cons_succ, Act.eval, Value.cells, Array.getD_eq_getD_getElem?, List.getElem?_toArray, List.getElem?_cons_succ, List.getElem?_cons_zero, Option.getD_some] at HF; go_simp)) | ((with_reducible refine k_load ?_); refine st_load rfl _ _ rfl _ _ rfl ?_ HF 0 rfl rfl ?_; (kernel_rfl); (intro K hK; go_simp)))
          go_roundw
          case rel => exact ⟨k + 1, n + (ph - last), ph, by omega, rfl, rfl, rfl, Lib.hid HS2.out, by omega, by omega, HF.drop⟩
          case measure => simp [intOf]; omega
        · have HS2 := Lib.hid (show n + cnt server ph (pts.drop (k + 1)) = R by have := HI.out; rw [HS.out, if_neg he] at this; omega)
          have heb : (ps == server) = false := by rw [beq_eq_false_iff_ne]; exact he
          go_wp2_with (first | ((with_reducible refine k_load (T := 87) ?_); refine st_loadCells rfl _ _ rfl _ rfl a87 [.int .i64 ph, .int .i64 ps, .int .i64 pn] Hs.out (Hc.out _ (HF.ext 0 rfl)) ?_; (intro K hK; go_simp)) | ((with_reducible refine k_alloc (T := 87) ?_); refine st_alloc rfl _ rfl _ z87 _ rfl HF ?_; (clear HF; intro g8 w HF K hK; simp only [Value.cells] at HF; go_simp)) | ((with_reducible refine k_store (T := 87) ?_); refine st_put rfl _ _ _ rfl _ rfl _ rfl ?_ s87 HF 0 rfl rfl ?_; (simp [Value.oneCell']); (clear HF; intro w HF K hK; simp only [List.set_cons_zero, List.set_cons_succ, Act.eval, Value.cells, Array.getD_eq_getD_getElem?, List.getElem?_toArray, List.getElem?_cons_succ, List.getElem?_cons_zero, Option.getD_some] at HF; go_simp)) | ((with_reducible refine k_load ?_); refine st_load rfl _ _ rfl _ _ rfl ?_ HF 0 rfl rfl ?_; (kernel_rfl); (intro K hK; go_simp)))
          go_roundw
          case rel => exact ⟨k + 1, n, ph, by omega, rfl, rfl, rfl, Lib.hid HS2.out, by omega, by omega, HF.drop⟩
          case measure => simp [intOf]; omega
      · have hk8 : k = pts.length := by omega
        subst hk8
        have hnR : n = R := by have := HI.out; rw [List.drop_length] at this; simpa [cnt] using this
        subst hnR
        have hf : ∀ w, (binOp .quo 46 (.float .f64 (floatOfInt .f64 n)) (.float .f64 4751297606875873280)).run Try.prog w = .ok (.float .f64 r) w := fun w => run_float_arith _ _ _ _ _ _ _ HQ.out
        go_wp2_with fail
        go_ret
        exact ⟨rfl, HF.lift0 H0.out⟩

theorem points0 (H : At w0 L w) (a : Option Addr) : Calls Try.prog 29 #[.pointer a] w (fun e w' => ∃ g, e = .returned (.func (.func 48) #[] #[.pointer (some ⟨g, 0, none⟩)]) ∧ At w0 (Blk g (.cells #[.pointer a] 23 (0, 0)) :: L) w') := by
  go_enter Try.func29, Try.ntmps29
  go_wp2_with fail
  go_ret
  exact ⟨_, rfl, H.alloc _⟩
end
end Rg
end Go.Proofs.Ytohfboolicheeaa
