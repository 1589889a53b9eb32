/-
  The program's Group.
-/
import Derived.Test.YtohfboolicheeaaRgKey
import Derived.Test.YtohfboolicheeaaRgRIs
import Derived.Deep.Cut
namespace Go.Proofs.Ytohfboolicheeaa
open Go.Hp Go.RowKit
set_option linter.unusedVariables false
set_option linter.unusedSimpArgs false
set_option maxRecDepth 100000
set_option maxHeartbeats 2000000
namespace Rg

def rot (l : List Int) (at0 : Nat) : List Int := l.drop at0 ++ l.take at0
def addS (out : List Int) (s : Int) : List Int := if s ∈ out then out else out ++ [s]
/-- The first n unlike ones of a row. -/
def grpS (n : Nat) : List Int → List Int → List Int
  | out, [] => out
  | out, s :: l => if out.length < n then grpS n (addS out s) l else out
theorem rot_len (l : List Int) (a : Nat) : (rot l a).length = l.length := by unfold rot; simp; omega
theorem rot_get {l : List Int} {a m : Nat} (ha : a < l.length) (hm : m < l.length) : (rot l a)[m]? = l[(a + m) % l.length]? := by
  unfold rot
  rcases Nat.lt_or_ge m (l.length - a) with h | h
  · rw [List.getElem?_append_left (by rw [List.length_drop]; exact h), List.getElem?_drop, Nat.mod_eq_of_lt (by omega)]
  · rw [List.getElem?_append_right (by rw [List.length_drop]; exact h), List.length_drop, List.getElem?_take_of_lt (by omega)]
    have e : (a + m) % l.length = m - (l.length - a) := by
      rw [show a + m = (m - (l.length - a)) + l.length by omega, Nat.add_mod_right, Nat.mod_eq_of_lt (by omega)]
    rw [e]
theorem grpS_full {n : Nat} {out l : List Int} (h : ¬ out.length < n) : grpS n out l = out := by
  cases l with
  | nil => rfl
  | cons s l => unfold grpS; rw [if_neg h]
theorem grpS_step {n : Nat} {out l : List Int} {m : Nat} {s : Int} (h : out.length < n) (hs : l[m]? = some s) : grpS n out (l.drop m) = grpS n (addS out s) (l.drop (m + 1)) := by
  obtain ⟨hlt, he⟩ := List.getElem?_eq_some_iff.1 hs
  rw [List.drop_eq_getElem_cons hlt, he]
  conv => lhs; unfold grpS
  rw [if_pos h]
theorem add_in {out : List Int} {s : Int} (h : s ∈ out) : addS out s = out := by unfold addS; rw [if_pos h]
theorem add_out {out : List Int} {s : Int} (h : s ∉ out) : addS out s = out ++ [s] := by unfold addS; rw [if_neg h]
theorem mem_add {out : List Int} {s x : Int} : x ∈ addS out s ↔ x ∈ out ∨ x = s := by
  unfold addS
  split
  · rename_i h
    constructor
    · exact .inl
    · rintro (h2 | rfl)
      · exact h2
      · exact h
  · simp
theorem fold_mem : ∀ (l out : List Int) (x : Int), x ∈ l.foldl addS out ↔ x ∈ out ∨ x ∈ l
  | [], out, x => by simp
  | s :: l, out, x => by rw [List.foldl_cons, fold_mem l, mem_add, List.mem_cons, or_assoc]
theorem nodup_le : ∀ {S T : List Int}, S.Nodup → (∀ x ∈ S, x ∈ T) → S.length ≤ T.length
  | [], T, _, _ => Nat.zero_le _
  | s :: S, T, h, hs => by
    obtain ⟨h1, h2⟩ := List.nodup_cons.1 h
    have hm := hs s (by simp)
    have := nodup_le (S := S) (T := T.erase s) h2 (fun x hx => (List.mem_erase_of_ne (show x ≠ s by rintro rfl; exact h1 hx)).2 (hs x (by simp [hx])))
    rw [List.length_erase_of_mem hm] at this
    have hp := List.length_pos_of_mem hm
    rw [List.length_cons]
    omega
theorem full_len {S l : List Int} (hd : S.Nodup) (hs : ∀ x ∈ S, x ∈ l) (a : Nat) : S.length ≤ ((rot l a).foldl addS []).length := by
  refine nodup_le hd fun x hx => ?_
  rw [fold_mem]
  refine .inr ?_
  unfold rot
  have := hs x hx
  rw [← List.take_append_drop a l, List.mem_append] at this
  rw [List.mem_append]
  exact this.symm
theorem take_fold {l : List Int} {m : Nat} {s : Int} (hs : l[m]? = some s) : (l.take (m + 1)).foldl addS [] = addS ((l.take m).foldl addS []) s := by
  rw [List.take_add_one, hs, Option.toList_some, List.foldl_append]
  rfl
theorem pts_mem {S : List Int} {p : Nat} (hp : 0 < p) {x : Int} (hx : x ∈ S) : x ∈ (sortP (ptsOf S p)).map Pt.s := by
  refine List.mem_map.2 ⟨⟨hash2 x ((0 : Nat) : Int), x, ((0 : Nat) : Int)⟩, ?_, rfl⟩
  refine (sortP_perm _).mem_iff.2 ?_
  unfold ptsOf
  exact List.mem_flatMap.2 ⟨x, hx, List.mem_map.2 ⟨0, List.mem_range.2 hp, rfl⟩⟩

def keyH (k : Ky) : Ky := if k.k = 3 then ⟨2, k.a, 0, 0⟩ else k
def groupS (pts : List Pt) (n : Nat) (k : Ky) : List Int := grpS n [] (rot (pts.map Pt.s) (firstS pts (hashK (keyH k))))
def GrPost (w0 : World) (L : List HProp) (pts : List Pt) (n : Nat) (k : Ky) (B : Int) (e : Ending) (w' : World) : Prop :=
  (KeyR k B ∧ ∃ v, e = .returned (.tuple #[v, .int .i64 0]) ∧ At w0 (OI v (groupS pts n k) :: L) w') ∨ (¬ KeyR k B ∧ e = .returned (.tuple #[.slice none 0 0, .int .i64 21]) ∧ At w0 L w')
def lenOf (v : Value) : Nat := match v with | .slice _ n _ => n | _ => 0
/-- How many rounds may be to go. -/
def grM (n len a : Nat) (o i : Value) : Nat := if n ≤ lenOf o then 0 else 1 + len - (((intOf i).toNat + len - a) % len)

section
variable {w0 w : World} {L : List HProp}
theorem rot_back {len a m : Nat} (ha : a < len) (hm : m ≤ len) : ((a + m) % len + len - a) % len = m % len := by
  rcases Nat.lt_or_ge (a + m) len with h | h
  · rw [Nat.mod_eq_of_lt h, show a + m + len - a = m + len by omega, Nat.add_mod_right]
  · have e : (a + m) % len = a + m - len := by
      rw [Nat.mod_eq_sub_mod h, Nat.mod_eq_of_lt (by omega)]
    rw [e, show a + m - len + len - a = m by omega]
theorem gr_meas {n len a m j lo ln : Nat} {x y : Option Addr} {p q : Nat} (ha : a < len) (hm : m < len) (hj : j = (a + m) % len) (hl : lo < n) (hf : m + 1 = len → n ≤ ln) :
    grM n len a (.slice x ln p) (.int .i64 (((j + 1) % len : Nat) : Int)) < grM n len a (.slice y lo q) (.int .i64 (j : Int)) := by
  have hlo : lenOf (.slice y lo q) = lo := rfl
  have hln : lenOf (.slice x ln p) = ln := rfl
  have h1 : (j + len - a) % len = m := by rw [hj, rot_back ha (by omega), Nat.mod_eq_of_lt hm]
  have h2 : (j + 1) % len = (a + (m + 1)) % len := by rw [hj, Nat.mod_add_mod]; congr 1
  have h3 : ((j + 1) % len + len - a) % len = (m + 1) % len := by rw [h2, rot_back ha (by omega)]
  unfold grM
  have hneg : ¬ n ≤ lo := by omega
  have e1 : (intOf (.int .i64 (((j + 1) % len : Nat) : Int))).toNat = (j + 1) % len := Int.toNat_natCast _
  have e2 : (intOf (.int .i64 (j : Int))).toNat = j := Int.toNat_natCast _
  simp only [hlo, hln, e1, e2, h1, h3, hneg, if_false]
  by_cases h : n ≤ ln
  · rw [if_pos h]; omega
  · rw [if_neg h]
    have : m + 1 < len := by
      rcases Nat.lt_or_ge (m + 1) len with h4 | h4
      · exact h4
      · exact absurd (hf (by omega)) h
    rw [Nat.mod_eq_of_lt this]
    omega
theorem imap_nil : IMap #[] (setF []) := by
  have e : setF [] = fun _ => none := by
    funext x
    simp [setF]
  rw [e]
  exact IMap.empty
theorem keyRightB (H : At w0 L w) {b : Bool} {k : Ky} {c : Cf} (hb : b = true ↔ KeyR k c.B) (s1 : Option Addr) (s2 s3 : Nat) :
    Calls Try.prog 25 #[.agg #[.int .i64 k.k, .int .i64 k.a, .int .i64 k.b, .int .i64 k.c], .agg #[.slice s1 s2 s3, .int .i64 c.F, .int .i64 c.P, .int .i64 c.B, .int .i64 c.K, .int .i64 c.R]] w (Ret w0 (.bool b) L) := by
  refine (keyRight H k c s1 s2 s3).mono ?_
  rintro e w' ⟨r, rfl, hr, HX⟩
  have : r = b := by
    cases r <;> cases b <;> simp_all
  rw [this]
  exact ⟨rfl, HX⟩
theorem key_dec (k : Ky) (B : Int) : ∃ b : Bool, b = true ↔ KeyR k B := by
  by_cases h : KeyR k B
  · exact ⟨true, by simp [h]⟩
  · exact ⟨false, by simp [h]⟩
theorem group {v : Value} {c : Cf} {S : List Int} {pts : List Pt} (hr : RgF 84 w v c S pts) (hs : PS pts) (hsz : pts.length ≤ 100000) (hpos : 0 < pts.length) (hF : 0 ≤ c.F ∧ c.F ≤ 3) (hfull : ∀ a, 2 * c.F + 1 ≤ (((rot (pts.map Pt.s) a).foldl addS []).length : Int))
    (k : Ky) (H : At w0 L w) : Calls Try.prog 16 #[v, .agg #[.int .i64 k.k, .int .i64 k.a, .int .i64 k.b, .int .i64 k.c]] w (GrPost w0 L pts (2 * c.F + 1).toNat k c.B) := by
  obtain ⟨W, rfl⟩ : ∃ W : World, W = w := ⟨_, rfl⟩
  have HF := At.of W
  have H0 := Lib.hid H
  have Hr := Lib.hid hr
  obtain ⟨g, s1, s2, s3, p1, p2, p3, rfl, hg, hS, hp⟩ := hr
  have Hg := Lib.hid (fun (w2 : World) (hx : Ext W w2) j u (hj : (rgCells (.slice s1 s2 s3) c (.slice p1 p2 p3))[j]? = some u) => hx.cell (show W.cell? ⟨g, j, none⟩ = some u from by
    have := cells_of hg j u hj
    rwa [Addr.add_lit, Nat.zero_add] at this))
  obtain ⟨ad, cap, hv, c1, c2, c3⟩ := hp.value
  cases hv
  rw [List.length_map] at c1 c3 hp Hg
  have HV := Lib.hid hp
  have C3 := Lib.hid c3
  obtain ⟨cF, cP, cB, cK, cR⟩ := c
  obtain ⟨kk, ka, kb, kc⟩ := k
  dsimp only at *
  obtain ⟨F, rfl⟩ : ∃ F : Nat, cF = F := ⟨cF.toNat, by omega⟩
  have hn : (2 * (F : Int) + 1).toNat = 2 * F + 1 := by omega
  rw [hn]
  have HFu := Lib.hid (fun a => (show 2 * F + 1 ≤ ((rot (pts.map Pt.s) a).foldl addS []).length by have := hfull a; omega))
  have hF3 : F ≤ 3 := by omega
  have hag := Lib.hid (show sizeT Try.prog 29 = some ([.slice s1 s2 s3, .int .i64 F, .int .i64 cP, .int .i64 cB, .int .i64 cK, .int .i64 cR] : List Value).length from s29)
  have hcf := Lib.hid (show ∀ (w2 : World), Ext W w2 → ∀ j u, ([.slice s1 s2 s3, .int .i64 F, .int .i64 cP, .int .i64 cB, .int .i64 cK, .int .i64 cR] : List Value)[j]? = some u → w2.cell? ((⟨g, 0, none⟩ : Addr).add j) = some u from fun w2 hx j u hj => by
    rw [Addr.add_lit, Nat.zero_add]
    refine Hg.out w2 hx j u ?_
    have hj6 : j < 6 := (List.getElem?_eq_some_iff.1 hj).1
    show ([.slice s1 s2 s3, .int .i64 F, .int .i64 cP, .int .i64 cB, .int .i64 cK, .int .i64 cR] ++ [.slice p1 pts.length p3] : List Value)[j]? = some u
    rw [List.getElem?_append_left (by simpa using hj6)]
    exact hj)
  clear H hp c3 hS hg hfull hF hn
  go_enter Try.func16, Try.ntmps16
  go_wp2_with ((with_reducible refine k_box (T := 38) ?_); refine st_box rfl _ _ rfl _ rfl HF ?_; (clear HF; intro g3 w HF K hK; simp only [Value.cells, Act.eval, Value.cells, Array.getD_eq_getD_getElem?, List.getElem?_toArray, List.getElem?_cons_succ, List.getElem?_cons_zero, Option.getD_some] at HF; go_simp))
  obtain ⟨bk, hbk⟩ := key_dec ⟨kk, ka, kb, kc⟩ cB
  have HBK := Lib.hid hbk
  have HRt := Lib.hid (fun (w2 : World) (M : List HProp) (HM : At W M w2) => keyRightB HM (k := ⟨kk, ka, kb, kc⟩) (c := ⟨F, cP, cB, cK, cR⟩) hbk s1 s2 s3)
  clear hbk
  apply wp_region_eff [] (fun i => (#[[], [], [], [], [], [], []] : Array (List Nat)).getD i []) (fun val i => (([.agg #[.int .i64 kk, .int .i64 ka, .int .i64 kb, .int .i64 kc], _, _, _, .agg #[.slice s1 s2 s3, .int .i64 F, .int .i64 cP, .int .i64 cB, .int .i64 cK, .int .i64 cR], .bool bk, .bool (!bk)]) : List Value).toArray.getD i undef) (fun E val => At W (Blk g3 (.cells #[.int .i64 kk, .int .i64 ka, .int .i64 kb, .int .i64 kc] 38 (0, 0)) :: Arg W :: [])) (by kernel_rfl) (by kernel_rfl) (by kernel_rfl) (by kernel_rfl) (HF)
  case step =>
    iterate 7 (refine ⟨eff_pl rfl (fun _ => by rfl) fun E val hn T ds w K H hk ho hK => ?_, ?_⟩; rotate_left)
    exact trivial
    · have o3 := ho 3 (by kernel_rfl); clear ho; simp [know, dstAt, Region.binds] at hk o3
      (refine op_rowT (T := 38) rfl o3 a38 s38 H 0 rfl rfl ?_; exact hK _ H)
    · have o0 := ho 0 (by kernel_rfl); clear ho; simp [know, dstAt, Region.binds] at hk o0; go_simp; exact hK _ H
    · clear ho; simp [know, dstAt, Region.binds] at hk; go_simp; exact hK _ H
    · clear ho; simp [know, dstAt, Region.binds] at hk; go_simp; exact hK _ H
    · clear ho; simp [know, dstAt, Region.binds] at hk
      (refine op_cellsT (vs := [.slice s1 s2 s3, .int .i64 F, .int .i64 cP, .int .i64 cB, .int .i64 cK, .int .i64 cR]) rfl hk a29 hag.out (hcf.out _ (H.ext 1 rfl)) ?_; exact hK _ H)
    · clear ho; simp [know, dstAt, Region.binds] at hk
      (go_simp; refine (HRt.out _ _ H).mono ?_; rintro e w' ⟨rfl, H⟩; exact hK _ H)
    · clear ho; simp [know, dstAt, Region.binds] at hk; go_simp; exact hK _ H
  case ins =>
    iterate 7 (refine ⟨ins_pl rfl (fun _ _ _ => rfl), ?_⟩)
    exact trivial
  case jns =>
    iterate 7 (refine ⟨j_pl (fun _ _ _ => rfl), ?_⟩)
    exact trivial
  case fin =>
    intro E val w5 hE H
    clear HF hE
    have HF := H
    clear H
    simp [putAll, Act.put]
    cases bk with
    | false =>
      go_wp2_with fail
      go_ret2
      exact .inr ⟨(fun h => absurd (HBK.out.2 h) (by simp)), rfl, (HF.sel 2 [1]).lift0 H0.out⟩
    | true =>
      have HKR := Lib.hid (HBK.out.1 rfl)
      obtain ⟨k2, hk2⟩ : ∃ k2, keyH ⟨kk, ka, kb, kc⟩ = k2 := ⟨_, rfl⟩
      have HK2 := Lib.hid hk2
      clear hk2
      go_upto_if 19 with ((with_reducible refine k_load ?_); refine st_load rfl _ _ rfl _ _ rfl ?_ HF 0 rfl rfl ?_; (kernel_rfl); (intro K hK; go_simp))
      go_cut [4] from 17 (fun s4 wx => s4 = .slice none 0 0 ∧ At W (Blk g3 (.cells #[.int .i64 k2.k, .int .i64 k2.a, .int .i64 k2.b, .int .i64 k2.c] 38 (0, 0)) :: Arg W :: []) wx)
      case first =>
        by_cases h3 : kk = 3
        · have e2 : k2 = ⟨2, ka, 0, 0⟩ := by rw [← HK2.out]; unfold keyH; rw [if_pos h3]
          subst e2
          subst h3
          go_wp2_with (first | ((with_reducible refine k_load ?_); refine st_load rfl _ _ rfl _ _ rfl ?_ HF 0 rfl rfl ?_; (kernel_rfl); (intro K hK; go_simp)) | ((with_reducible refine k_store (T := 38) ?_); refine st_put rfl _ _ _ rfl _ rfl _ rfl ?_ s38 HF 0 rfl rfl ?_; (simp [Value.oneCell']); (clear HF; intro w HF K hK; simp only [List.set_cons_zero, List.set_cons_succ, Act.eval, Value.cells, Array.getD_eq_getD_getElem?, List.getElem?_toArray, List.getElem?_cons_succ, List.getElem?_cons_zero, Option.getD_some] at HF; go_simp)))
          go_meet
          case rel => exact ⟨rfl, HF⟩
        · have e2 : k2 = ⟨kk, ka, kb, kc⟩ := by rw [← HK2.out]; unfold keyH; rw [if_neg h3]
          subst e2
          have h3b : (kk == 3) = false := by rw [beq_eq_false_iff_ne]; exact h3
          go_wp2_with fail
          go_meet
          case rel => exact ⟨rfl, HF⟩
      case rest =>
        obtain ⟨rfl, HX⟩ := hcut
        clear HF
        have HF := HX
        clear HX
        obtain ⟨h, hh⟩ : ∃ h, hashK k2 = h := ⟨_, rfl⟩
        have HHs := Lib.hid (fun (w2 : World) (M : List HProp) (HM : At W M w2) => hashP HM k2)
        rw [hh] at HHs
        obtain ⟨a, ha⟩ : ∃ a, firstS pts h = a := ⟨_, rfl⟩
        have HFi := Lib.hid (fun (w2 : World) (M : List HProp) (hx : Ext W w2) (HM : At W M w2) => first (Hr.out.ext hx) hs (by omega) hpos h HM)
        rw [ha] at HFi
        have hal : a < pts.length := by rw [← ha]; exact Nat.mod_lt _ hpos
        have HGo := Lib.hid (show grpS (2 * F + 1) [] (rot (pts.map Pt.s) a) = groupS pts (2 * F + 1) ⟨kk, ka, kb, kc⟩ by unfold groupS; rw [HK2.out, hh, ha])
        obtain ⟨kk2, ka2, kb2, kc2⟩ := k2
        dsimp only at HHs HF
        clear hh ha
        go_wp2_with (first | (refine st_makeMap rfl _ rfl HF ?_; (clear HF; intro mb w HF K hK; go_simp)) | ((with_reducible refine k_load (T := 38) ?_); refine st_row rfl _ _ rfl _ rfl a38 4 s38 HF 1 rfl rfl ?_; (intro K hK; go_simp)) | ((with_reducible refine k_load (T := 38) ?_); refine st_loads rfl _ _ rfl _ _ rfl a38 4 s38 HF 1 rfl ?_ ?_; (simp); (intro K hK; go_simp)))
        refine (HHs.out _ _ HF).mono ?_
        rintro e w3 ⟨rfl, HX⟩
        clear HF HHs
        have HF := HX
        clear HX
        go_wp2_with fail
        refine (HFi.out _ _ (HF.ext 2 rfl) HF).mono ?_
        rintro e w4 ⟨rfl, HX⟩
        clear HF HFi
        have HF := oi_nil (HX.sel 3 [0, 2])
        clear HX
        obtain ⟨sv, hsv⟩ : ∃ sv, pts.map Pt.s = sv := ⟨_, rfl⟩
        have hsl : sv.length = pts.length := by rw [← hsv, List.length_map]
        rw [hsv] at HGo HFu
        have HSV := Lib.hid hsv
        have HSL := Lib.hid hsl
        obtain ⟨R, hR⟩ : ∃ R, groupS pts (2 * F + 1) ⟨kk, ka, kb, kc⟩ = R := ⟨_, rfl⟩
        rw [hR] at HGo
        have HR := Lib.hid hR
        clear hsv hsl hR
        go_wp2_with fail
        have HI0 := Lib.hid (show a = (a + 0) % pts.length ∧ grpS (2 * F + 1) [] ((rot sv a).drop 0) = R ∧ [] = ((rot sv a).take 0).foldl addS [] ∧ IMap #[] (setF []) from ⟨by rw [Nat.add_zero, Nat.mod_eq_of_lt hal], by rw [List.drop_zero]; exact HGo.out, by rw [List.take_zero]; rfl, imap_nil⟩)
        go_loopw [6, 8] (fun o i wr => ∃ (m j : Nat) (out : List Int) (es : Array MapEntry) (ck : Nat) (b3 : Option Addr) (p3 : Nat), m ≤ pts.length ∧ o = .slice b3 out.length p3 ∧ i = .int .i64 j ∧ j < pts.length ∧ out.length ≤ 2 * F + 1 ∧ Hid (j = (a + m) % pts.length ∧ grpS (2 * F + 1) out ((rot sv a).drop m) = R ∧ out = ((rot sv a).take m).foldl addS [] ∧ IMap es (setF out)) ∧ At W (OI (.slice b3 out.length p3) out :: Blk mb (.map es ck) :: Arg W :: []) wr) (fun o i _ => grM (2 * F + 1) pts.length a o i)
        case atStart => exact ⟨0, a, [], _, _, _, _, Nat.zero_le _, rfl, rfl, hal, Nat.zero_le _, HI0, HF⟩
        case round =>
          clear HF HGo HI0
          obtain ⟨m, j, out, es, ck, b3, p3, hm, rfl, rfl, hj, hol, HI, HF⟩ := hrel
          have hw1 : wrap64 (2 * (F : Int)) = 2 * F := wrap64_of (by omega) (by omega)
          have hw2 : wrap64 (2 * (F : Int) + 1) = 2 * F + 1 := wrap64_of (by omega) (by omega)
          by_cases hlt : out.length < 2 * F + 1
          · have gl : (out.length : Int) < 2 * (F : Int) + 1 := by omega
            have hml : m < pts.length := by
              rcases Nat.lt_or_ge m pts.length with h1 | h1
              · exact h1
              · exfalso
                obtain ⟨_, _, i3, _⟩ := HI.out
                rw [List.take_of_length_le (by rw [rot_len, HSL.out]; exact h1)] at i3
                have := HFu.out a
                rw [← i3] at this
                omega
            obtain ⟨s, hs0⟩ : ∃ s, pts[j]? = some s := ⟨_, List.getElem?_eq_getElem hj⟩
            obtain ⟨ba, rfl⟩ := C3.out (by omega)
            have gj : (j : Int) < pts.length := by omega
            have hne : ((pts.length : Int) == 0) = false := by rw [beq_eq_false_iff_ne]; omega
            have hrot : (rot sv a)[m]? = some s.s := by
              rw [rot_get (by rw [HSL.out]; exact hal) (by rw [HSL.out]; exact hml), HSL.out, ← HI.out.1, ← HSV.out, List.getElem?_map, hs0]
              rfl
            have Hc := Lib.hid (fun (w2 : World) (hxx : Ext W w2) => hxx.cell (show W.cell? (ba.add (j * 3 + 1)) = some (.int .i64 s.s) from by
              have := recs_get HV.out hs0 1 _ rfl
              rwa [Addr.add_add] at this))
            have HG2 := Lib.hid ((grpS_step hlt hrot).symm.trans HI.out.2.1)
            have HT := Lib.hid (show ((rot sv a).take (m + 1)).foldl addS [] = addS out s.s by rw [take_fold hrot, ← HI.out.2.2.1])
            have HJ := Lib.hid (show (j + 1) % pts.length = (a + (m + 1)) % pts.length by rw [HI.out.1, Nat.mod_add_mod]; congr 1)
            have HIM := Lib.hid HI.out.2.2.2
            obtain ⟨sh, ss, sn⟩ := s
            dsimp only at Hc HG2 HT
            have Hc2 := Lib.hid (fun (w2 : World) (hxx : Ext W w2) => (show w2.cell? ((ba.add (j * 3)).add 1) = some (.int .i64 ss) from by rw [Addr.add_add]; exact Hc.out w2 hxx))
            have hmodv : ((j : Int) + 1) % (pts.length : Int) = (((j + 1) % pts.length : Nat) : Int) := by rw [Int.natCast_emod]; rfl
            have HMV := Lib.hid hmodv
            have hj2 : (j + 1) % pts.length < pts.length := Nat.mod_lt _ hpos
            have HJ0 := Lib.hid HI.out.1
            have HEnd := Lib.hid (show m + 1 = pts.length → 2 * F + 1 ≤ (((rot sv a).take (m + 1)).foldl addS []).length from fun e => by rw [List.take_of_length_le (by rw [rot_len, HSL.out]; omega)]; exact HFu.out a)
            clear HI hmodv hs0 hrot
            by_cases hin : ss ∈ out
            · have HGv := Lib.hid (show (setF out ss).getD (.int .i64 0) = .int .i64 1 by rw [setF_in hin]; rfl)
              rw [add_in hin] at HG2 HT
              clear hin
              go_wp2_with (first | ((with_reducible refine k_load ?_); (first | refine st_load1 rfl _ _ rfl _ rfl rfl (Hg.out _ (HF.ext 2 rfl) 1 _ rfl) ?_ | refine st_load1 rfl _ _ rfl _ rfl rfl (Hg.out _ (HF.ext 2 rfl) 6 _ rfl) ?_ | refine st_load1 rfl _ _ rfl _ rfl rfl (Hc.out _ (HF.ext 2 rfl)) ?_ | refine st_load1 rfl _ _ rfl _ rfl rfl (Hc2.out _ (HF.ext 2 rfl)) ?_); (intro K hK; go_simp)) | (refine st_lookup rfl _ _ _ _ rfl _ rfl _ rfl _ _ Try.underlying85 Try.underlying3 (.int .i64 0) zt3 HF 1 rfl _ HIM.out ?_; (intro K hK; simp only [Bool.false_eq_true, if_false]; rw [HGv.out]; go_simp)))
              go_roundw
              case rel => exact ⟨m + 1, (j + 1) % pts.length, out, es, ck, b3, p3, by omega, rfl, by rw [← HMV.out], hj2, hol, Lib.hid ⟨HJ.out, HG2.out, HT.out.symm, HIM.out⟩, HF⟩
              case measure =>
                rw [HMV.out]
                exact gr_meas hal hml HJ0.out hlt (fun e => by rw [← HT.out]; exact HEnd.out e)
            · have HGv := Lib.hid (show (setF out ss).getD (.int .i64 0) = .int .i64 0 by rw [setF_out hin]; rfl)
              rw [add_out hin] at HG2 HT
              clear hin
              go_upto_region 13 with (first | ((with_reducible refine k_load ?_); (first | refine st_load1 rfl _ _ rfl _ rfl rfl (Hg.out _ (HF.ext 2 rfl) 1 _ rfl) ?_ | refine st_load1 rfl _ _ rfl _ rfl rfl (Hg.out _ (HF.ext 2 rfl) 6 _ rfl) ?_ | refine st_load1 rfl _ _ rfl _ rfl rfl (Hc.out _ (HF.ext 2 rfl)) ?_ | refine st_load1 rfl _ _ rfl _ rfl rfl (Hc2.out _ (HF.ext 2 rfl)) ?_); (intro K hK; go_simp)) | (refine st_lookup rfl _ _ _ _ rfl _ rfl _ rfl _ _ Try.underlying85 Try.underlying3 (.int .i64 0) zt3 HF 1 rfl _ HIM.out ?_; (intro K hK; simp only [Bool.false_eq_true, if_false]; rw [HGv.out]; go_simp))                  | (refine st_mapUpdate rfl _ _ _ _ rfl mb rfl ss rfl (.int .i64 1) rfl _ _ Try.underlying85 Try.underlying3 HF 1 rfl _ HIM.out ?_; (clear HF; intro es2 ck2 w HF HM2 K hK; have HM3 := Lib.hid HM2; clear HM2; go_simp)))
              replace HF : At W (OI (.slice b3 out.length p3) out :: Blk mb (.map es2 ck2) :: Arg W :: []) _ := HF
              go_wp2_with (first | ((with_reducible refine k_load ?_); refine st_load1 rfl _ _ rfl _ rfl rfl (Hg.out _ (HF.ext 3 rfl) 6 _ rfl) ?_; (intro K hK; go_simp)) | ((with_reducible refine k_builtin ?_); refine st_append rfl _ _ _ rfl 3 Try.underlying27 1 st3 8 bt3 _ zt3 rfl (.slice b3 out.length p3) out.length (iCs out) rfl ((HF.alloc _).sel 4 [1, 0, 2, 3]) (some ⟨w.heap.size, 0, none⟩) 1 1 [.int .i64 ss] rfl rfl (fun _ => ⟨_, rfl, cells_of ((HF.alloc _).get 0 rfl)⟩) (by simp [Value.oneCell']) ?_ ?_ ?_; ((try simp only [maxLen]); omega); (omega); (clear HF; intro v7 w HF K hK; obtain ⟨s4, u4, rfl, _⟩ := own_value HF; go_simp)))
              go_roundw
              case rel => exact ⟨m + 1, (j + 1) % pts.length, out ++ [ss], es2, ck2, s4, u4, by omega, by rw [List.length_append]; rfl, by rw [← HMV.out], hj2, by rw [List.length_append]; simp; omega, Lib.hid ⟨HJ.out, HG2.out, HT.out.symm, by rw [← setF_snoc]; exact HM3.out⟩, by rw [show (out ++ [ss]).length = out.length + 1 from by simp]; exact oi_snoc (HF.sel 4 [0, 2, 3])⟩
              case measure =>
                rw [HMV.out]
                exact gr_meas hal hml HJ0.out hlt (fun e => by rw [show out.length + 1 = (out ++ [ss]).length from by simp, ← HT.out]; exact HEnd.out e)
          · have gl : ¬ (out.length : Int) < 2 * (F : Int) + 1 := by omega
            have HE := Lib.hid (show out = R by rw [← HI.out.2.1, grpS_full hlt])
            clear HI
            go_wp2_with (first | ((with_reducible refine k_load ?_); refine st_load1 rfl _ _ rfl _ rfl rfl (Hg.out _ (HF.ext 2 rfl) 1 _ rfl) ?_; (intro K hK; go_simp)))
            go_ret2
            refine .inl ⟨HKR.out, _, rfl, ?_⟩
            rw [HR.out, ← HE.out]
            exact (HF.sel 3 [0, 2]).lift1 H0.out
end
end Rg
end Go.Proofs.Ytohfboolicheeaa
