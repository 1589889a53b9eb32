/-
  DiskOwn: what is told between its loops.
-/
import Derived.Test.YtbbkfneafonmiaaLaw3
import Derived.Test.YtbbkfneafonmiaaSteps
import Derived.Test.YtbbkfneafonmiaaReg4
import Derived.Test.YtbbkfneafonmiaaGrown
import Derived.Test.YtbbkfneafonmiaaRow
namespace Go.Proofs.Ytbbkfneafonmiaa
open Go.Hp Go.RowKit
set_option linter.unusedVariables false
set_option linter.unusedSimpArgs false
namespace diskOwn
open Dk Rf Lw

/-- A slice that was handed in or out: its block is of its room's length; whoever made it. -/
structure KpOk (k : Kp) : Prop where
  c : k.c.length = k.cap
  le : k.len ≤ k.cap
  room : k.cap ≤ maxLen
  small : k.len ≤ 1024
  ty : k.t = 5 ∨ k.len = k.cap

/-- The disk, the image (and its block) and the list of what is kept, behind so many steps. -/
structure Sit (k : Nat) (s : Int → List UInt8) (cl : List Value) (ci : Nat) (ks : List Kp) : Prop where
  len : ∀ m, (s m).length = 512
  ic : cl.length = ci
  im : cl.take 1024 = bv (s 0 ++ s 1)
  n : ks.length = 1 + 4 * k
  ok : ∀ (i : Nat) (x : Kp), ks[i]? = some x → KpOk x

theorem img_two (s : Int → List UInt8) : img s 2 = s 0 ++ s 1 := by simp [img]

/-- Of the kept ones those below i hold one value in all their places; their blocks, places and rooms are as they were. -/
structure Wr (i : Nat) (ks ks2 : List Kp) : Prop where
  n : ks2.length = ks.length
  v : ks2.map Kp.v = ks.map Kp.v
  ok : ∀ (m : Nat) (y : Kp), ks2[m]? = some y → KpOk y
  all : ∀ (m : Nat) (y : Kp), ks2[m]? = some y → m < i → ∀ j, j < y.len → y.c[j]? = some (.int .u8 (((m : Int) + 100) % 256))

theorem Wr.zero {ks : List Kp} (h : ∀ (i : Nat) (x : Kp), ks[i]? = some x → KpOk x) : Wr 0 ks ks := ⟨rfl, rfl, h, fun _ _ _ h => absurd h (Nat.not_lt_zero _)⟩

theorem Wr.next {i : Nat} {ks ks2 : List Kp} {x : Kp} {c : List Value} (h : Wr i ks ks2) (hx : ks2[i]? = some x) (hc : c.length = x.cap) (ha : ∀ j, j < x.len → c[j]? = some (.int .u8 (((i : Int) + 100) % 256))) :
    Wr (i + 1) ks (ks2.set i ⟨x.g, x.t, x.len, x.cap, c⟩) := by
  have hi := (List.getElem?_eq_some_iff.1 hx).1
  have hk := h.ok i x hx
  have key : ∀ (m : Nat) (y : Kp), (ks2.set i ⟨x.g, x.t, x.len, x.cap, c⟩)[m]? = some y → (m = i ∧ y = ⟨x.g, x.t, x.len, x.cap, c⟩) ∨ (m ≠ i ∧ ks2[m]? = some y) := by
    intro m y hy
    by_cases hm : m = i
    · subst hm
      rw [List.getElem?_set_self hi] at hy
      exact .inl ⟨rfl, (Option.some.inj hy).symm⟩
    · rw [List.getElem?_set_ne (fun e => hm e.symm)] at hy
      exact .inr ⟨hm, hy⟩
  refine ⟨by rw [List.length_set]; exact h.n, ?_, ?_, ?_⟩
  · rw [List.map_set, ← h.v]
    apply List.ext_getElem?
    intro m
    by_cases hm : i = m
    · subst hm
      rw [List.getElem?_set_self (by simpa using hi), List.getElem?_map, hx]
      rfl
    · rw [List.getElem?_set_ne hm]
  · intro m y hy
    rcases key m y hy with ⟨rfl, rfl⟩ | ⟨_, hy⟩
    · exact ⟨hc, hk.le, hk.room, hk.small, hk.ty⟩
    · exact h.ok m y hy
  · intro m y hy hm j hj
    rcases key m y hy with ⟨rfl, rfl⟩ | ⟨hne, hy⟩
    · exact ha j hj
    · exact h.all m y hy (by omega) j hj

/-- Of the kept ones those below q were appended to. -/
structure Lg (q : Nat) (ks : List Kp) (M : List HProp) (ls : List Value) : Prop where
  n : M.length = ks.length
  l : ls.length = q
  done : ∀ (i : Nat) (k : Kp), ks[i]? = some k → i < q → ∃ l, ls[i]? = some l ∧ M[i]? = some (Grown 5 k l (k.len + 70) (k.c.take k.len ++ List.replicate 70 (.int .u8 (((i : Int) + 50) % 256))))
  rest : ∀ (i : Nat) (k : Kp), ks[i]? = some k → q ≤ i → M[i]? = some k.at_

theorem Lg.zero (ks : List Kp) : Lg 0 ks (ks.map Kp.at_) [] := ⟨by simp, rfl, fun _ _ _ h => absurd h (Nat.not_lt_zero _), fun i k h _ => by rw [List.getElem?_map, h]; rfl⟩

theorem Lg.next {q : Nat} {ks : List Kp} {M : List HProp} {ls : List Value} {l : Value} {x : Kp} (h : Lg q ks M ls) (hx : ks[q]? = some x) :
    Lg (q + 1) ks (M.set q (Grown 5 x l (x.len + 70) (x.c.take x.len ++ List.replicate 70 (.int .u8 (((q : Int) + 50) % 256))))) (ls ++ [l]) := by
  have hq := (List.getElem?_eq_some_iff.1 hx).1
  have hn := h.n
  have hl := h.l
  refine ⟨by rw [List.length_set]; exact hn, by rw [List.length_append, hl]; rfl, fun i k hk hi => ?_, fun i k hk hi => ?_⟩
  · by_cases hiq : i = q
    · subst hiq
      rw [hx] at hk
      cases hk
      refine ⟨l, by rw [← hl]; simp, ?_⟩
      rw [List.getElem?_set_self (by omega)]
    · obtain ⟨l', e1, e2⟩ := h.done i k hk (by omega)
      refine ⟨l', ?_, ?_⟩
      · rw [List.getElem?_append_left (by omega)]; exact e1
      · rw [List.getElem?_set_ne (fun e => hiq e.symm)]; exact e2
  · rw [List.getElem?_set_ne (by omega)]
    exact h.rest i k hk (by omega)

theorem own_cell {w0 w : World} {L : List HProp} {e : TypeId} {kb : Addr} {n cap m : Nat} {xs : List Value} {u : Value} (H : At w0 L w) (i : Nat) (hL : L[i]? = some (OwnRow e 1 (.slice (some kb) n cap) n xs)) (h : xs[m]? = some u) : w.cell? (kb.add m) = some u := by
  obtain ⟨ad, cap2, hv, _, _, _, _, hc⟩ := own_value (H.pick i hL)
  cases hv
  exact hc _ rfl m u h

theorem kp_snoc {ks : List Kp} {x : Kp} (h : ∀ (i : Nat) (x : Kp), ks[i]? = some x → KpOk x) (hx : KpOk x) : ∀ (i : Nat) (y : Kp), (ks ++ [x])[i]? = some y → KpOk y := by
  intro i y hy
  rcases Nat.lt_trichotomy i ks.length with hi | hi | hi
  · rw [List.getElem?_append_left hi] at hy
    exact h i y hy
  · subst hi
    simp at hy
    subst hy
    exact hx
  · rw [List.getElem?_eq_none (by simp; omega)] at hy
    cases hy

theorem take_splice {cl vs : List Value} {off n : Nat} (h : off + vs.length ≤ n) (hn : n ≤ cl.length) : (splice cl off vs).take n = splice (cl.take n) off vs := by
  have e1 : (cl.take off).length = off := by rw [List.length_take]; omega
  unfold splice
  rw [List.take_append, e1, List.take_append, List.take_of_length_le (show (cl.take off).length ≤ n by omega), List.take_of_length_le (show vs.length ≤ n - off by omega), List.take_take, Nat.min_eq_left (by omega), List.drop_take, Nat.sub_sub]

theorem sit_image {k : Nat} {s : Int → List UInt8} {cl : List Value} {ci : Nat} {ks : List Kp} (h : Sit k s cl ci ks) (hci : 1024 ≤ ci) {p : Int} (hp : p = 0 ∨ p = 1) {b : List UInt8} (hb : b.length = 512) :
    (splice cl (p.toNat * 512) (bv b)).take 1024 = bv (upd s p b 0 ++ upd s p b 1) := by
  have h0 := h.len 0
  have h1 := h.len 1
  have hlb : (bv b).length = 512 := by rw [length_bv, hb]
  rcases hp with rfl | rfl
  · rw [take_splice (by rw [hlb]; decide) (by rw [h.ic]; exact hci), h.im]
    show splice (bv (s 0 ++ s 1)) 0 (bv b) = bv (b ++ s 1)
    unfold splice
    rw [List.take_zero, List.nil_append, Nat.zero_add, bv_append, hlb, List.drop_append_of_le_length (by rw [length_bv, h0]; exact Nat.le_refl _), List.drop_eq_nil_of_le (by rw [length_bv, h0]; exact Nat.le_refl _), List.nil_append, bv_append]
  · rw [take_splice (by rw [hlb]; decide) (by rw [h.ic]; exact hci), h.im]
    show splice (bv (s 0 ++ s 1)) 512 (bv b) = bv (s 0 ++ b)
    unfold splice
    rw [hlb, bv_append, List.take_append_of_le_length (by rw [length_bv, h0]; exact Nat.le_refl _), List.take_of_length_le (by rw [length_bv, h0]; exact Nat.le_refl _), List.drop_eq_nil_of_le (by rw [List.length_append, length_bv, length_bv, h0, h1]; decide), List.append_nil, bv_append]

section
variable {W : World}

set_option maxRecDepth 100000 in
set_option maxHeartbeats 40000000 in
theorem walk {vs : Value} {l : List StepV} (hs : StepsAt W vs l) :
    Calls Try.prog 7 #[vs] W fun e w => e = .returned (.bool true) ∧ Below W.heap.size W w := by
  have H := At.of W
  obtain ⟨ad, cap, rfl, hl1, hl2, hst⟩ := hs
  have hl5 : l.length ≤ 9223372036854775807 := by simp only [maxLen] at hl2; omega
  have Hst := Lib.hid hst
  clear hst
  go_enter Try.func7, Try.ntmps7
  go_wp2_with fail
  refine (known H).mono ?_
  rintro e w ⟨rfl, H⟩
  go_wp2_with (first | (refine st_lit rfl _ _ _ rfl #[.int .u8 9] 5 1 H ?_ ?_; (go_simp); (clear H; intro g0 w H K hK; go_simp)))
  have h9 : Reads (Blk g0 (.cells #[.int .u8 9] 5 (0, 0))) (.slice (some ⟨g0, 0, none⟩) 1 1) [9] := reads_full (l := [9]) rfl (by decide)
  refine (full h9 1 H).mono ?_
  rintro e w ⟨gf, rfl, H⟩
  have hlf := len_fullB [9] 1
  generalize fullB [9] 1 = fb at *
  clear h9
  replace H : At W (Blk gf (.cells (bv fb).toArray 5 (0, 0)) :: Arg W :: []) w := H.sel 3 [0, 2]
  go_wp2_with (first | (refine st_lit rfl _ _ _ rfl #[] 5 0 H ?_ ?_; (go_simp); (clear H; intro g1 w H K hK; replace H := own_mk (n := 0) (xs := []) (size := 1) H (Nat.le_refl _) (Nat.zero_le _) rfl rfl rfl; go_simp))      | (refine st_append rfl _ _ _ rfl 5 Try.underlying33 1 ?_ 1 ?_ (.int .u8 0) ?_ rfl _ _ _ rfl H _ _ _ (bv fb) rfl ?_ ?_ (bv_one _) ?_ ?_ ?_; (kernel_rfl); (kernel_rfl); (kernel_rfl); (have e : (bv fb).length = 512 := (by rw [length_bv, hlf]); omega); (intro _; exact ⟨_, rfl, cell_part (H.get 1 rfl) part_whole⟩); (decide); (decide); (clear H; intro v1 w H K hK; go_simp)))
  have hlim : (fb ++ fb).length = 1024 := by rw [List.length_append, hlf]
  replace H : At W (OwnRow 5 1 v1 1024 (bv (fb ++ fb)) :: Arg W :: []) w := by
    rw [bv_append]
    exact H.sel 3 [0, 2]
  have hI : Reads (OwnRow 5 1 v1 1024 (bv (fb ++ fb))) v1 (fb ++ fb) := reads_own_n hlim
  refine (lend hI (by omega) H).mono ?_
  rintro e w ⟨gg, rfl, H⟩
  dsimp only at H ⊢
  rw [hlim] at ⊢
  have hG := reads_lend (g := gg) (t := 5) hlim (by decide)
  go_wp2_with fail
  refine (load_yes hG 2 hlim (by decide) (by decide) H).mono ?_
  rintro e w ⟨d, rfl, H⟩
  go_wp2_with (first | (refine st_lit rfl _ _ _ rfl #[.slice (some ⟨gg, 0, none⟩) 1024 1091] 33 1 H ?_ ?_; (go_simp); (clear H; intro gk w H K hK; replace H := own_mk (n := 1) (xs := [.slice (some ⟨gg, 0, none⟩) 1024 1091]) (size := 1) H (Nat.le_refl _) (by decide) rfl rfl rfl; go_simp)))
  obtain ⟨gi, ci, cur, hv1, q1, q2, q3, q4, q5, H2⟩ : ∃ gi ci cur, v1 = .slice (some ⟨gi, 0, none⟩) 1024 ci ∧ 1024 ≤ ci ∧ ci ≤ maxLen ∧ cur.size = ci * 1 ∧ (bv (fb ++ fb)).length = 1024 * 1 ∧ cur.toList.take (1024 * 1) = bv (fb ++ fb) ∧ At W (Blk gi (.cells cur 5 (0, 0)) :: _) w := by
    rcases own_cases (H.pick 3 rfl) with ⟨_, h0, _, _⟩ | ⟨gi, ci, cur, h1, h2, h3, h4, h5, h6, h7⟩
    · exact absurd h0 (by decide)
    · exact ⟨gi, ci, cur, h1, h2, h3, h4, h5, h6, h7⟩
  subst hv1
  rcases cur with ⟨cl⟩
  have hci : cl.length = ci := by simpa using q3
  have hcut : ∀ j : Int, j = 0 ∨ j = 1 → cut (fb ++ fb) 2 j = fb := by
    intro j hj
    unfold cut
    rcases hj with rfl | rfl
    · rw [if_pos (by decide)]
      show ((fb ++ fb).drop 0).take 512 = fb
      rw [List.drop_zero, ← hlf, List.take_left]
    · rw [if_pos (by decide)]
      show ((fb ++ fb).drop 512).take 512 = fb
      rw [← hlf, List.drop_left, List.take_length]
  have HS : Hid (Sit 0 (cut (fb ++ fb) 2) cl ci [⟨gg, 5, 1024, 1091, bv (fb ++ fb) ++ List.replicate 67 (Value.int .u8 201)⟩]) := Lib.hid ⟨cut_len (Nat.le_of_eq hlim.symm), hci, by rw [hcut 0 (.inl rfl), hcut 1 (.inr rfl)]; exact q5, rfl, by
    intro i x hx
    match i, hx with
    | 0, hx =>
      cases hx
      exact ⟨by rw [List.length_append, length_bv, hlim, List.length_replicate], (by show 1024 ≤ 1091; decide), (by show 1091 ≤ maxLen; decide), Nat.le_refl _, .inl rfl⟩
    | i + 1, hx => simp at hx⟩
  have H3 : At W (Blk gi (.cells cl.toArray 5 (0, 0)) :: OwnRow 33 1 (.slice (some ⟨gk, 0, none⟩) 1 1) 1 [.slice (some ⟨gg, 0, none⟩) 1024 1091] :: DiskAt d ⟨2, cut (fb ++ fb) 2, some none, 0, 0⟩ :: Blk gg (.cells (bv (fb ++ fb) ++ List.replicate 67 (Value.int .u8 201)).toArray 5 (0, 0)) :: Arg W :: []) w := H2
  have H4 : At W (KRows [⟨gg, 5, 1024, 1091, bv (fb ++ fb) ++ List.replicate 67 (Value.int .u8 201)⟩] :: DiskAt d ⟨2, cut (fb ++ fb) 2, some none, 0, 0⟩ :: Blk gi (.cells cl.toArray 5 (0, 0)) :: OwnRow 33 1 (.slice (some ⟨gk, 0, none⟩) 1 1) 1 [.slice (some ⟨gg, 0, none⟩) 1024 1091] :: Arg W :: []) w :=
    rows_snoc (ks := []) (k := ⟨gg, 5, 1024, 1091, bv (fb ++ fb) ++ List.replicate 67 (Value.int .u8 201)⟩) ((rows_nil (H3.sel 5 [3, 2, 0, 1, 4])).pick 1 rfl)
  generalize cut (fb ++ fb) 2 = s at *
  generalize hkp : (⟨gg, 5, 1024, 1091, bv (fb ++ fb) ++ List.replicate 67 (Value.int .u8 201)⟩ : Kp) = kp at *
  clear H H2 H3 hcut hci q3 q4 q5 hG
  have hkv : [Value.slice (some ⟨gg, 0, none⟩) 1024 1091] = [kp].map Kp.v := by rw [← hkp]; rfl
  rw [hkv] at H4
  replace H4 : At W (KRows [kp] :: DiskAt d ⟨2, s, some none, 0, 0⟩ :: Blk gi (.cells cl.toArray 5 (0, 0)) :: OwnRow 33 1 (.slice (some ⟨gk, 0, none⟩) 1 1) [kp].length ([kp].map Kp.v) :: Arg W :: []) w := H4
  clear hkv hkp
  go_loopw [8, 9] (fun vk i wr => ∃ k : Nat, k ≤ l.length ∧ k ≤ 200 ∧ i = .int .i64 k ∧ ∃ s cl ks rd wt, Hid (Sit k s cl ci ks) ∧ At W (KRows ks :: DiskAt d ⟨2, s, some none, rd, wt⟩ :: Blk gi (.cells cl.toArray 5 (0, 0)) :: OwnRow 33 1 vk ks.length (ks.map Kp.v) :: Arg W :: []) wr) (fun _ i _ => l.length - (intOf i).toNat)
  case atStart => exact ⟨0, Nat.zero_le _, Nat.zero_le _, rfl, s, cl, [kp], 0, 0, HS, H4⟩
  case round =>
    clear H4 HS
    obtain ⟨k, hk, hk2, rfl, s, cl, ks, rd, wt, HS, H⟩ := hrel
    by_cases hlt : k < l.length
    · by_cases hlt2 : k < 200
      · have g1 : (k : Int) < l.length := by omega
        have g2 : (k : Int) < 200 := by omega
        obtain ⟨⟨sk, sn, sm, sv, sd⟩, hs⟩ : ∃ s, l[k]? = some s := ⟨l[k], by simp [hlt]⟩
        obtain ⟨b, rfl, so⟩ := Hst.out k _ hs
        obtain ⟨sa, dc, hdv, hd1, hd2, hd3⟩ := so.d.len
        dsimp only at hdv
        subst hdv
        have hS := reads_arg so.d
        clear hd3
        have n1 := so.n64.1
        have n2 := so.n64.2
        dsimp only at n1 n2 hd1 hd2 hS
        have so3 := (so.at_ H 4 rfl).c3
        dsimp only at so3
        have hbk : ((UInt8.ofNat k).toNat : Int) = k := by rw [UInt8.toNat_ofNat']; omega
        have hwk : IntKind.u8.wrap (k : Int) = k := IntWalk.u8_in _ (by omega)
        go_wp2_with (first | (refine st_load1 rfl _ _ rfl _ rfl ?_ so3 ?_; (kernel_rfl); (intro K hK; go_simp)))
        rw [← hbk]
        refine (full hS (UInt8.ofNat k) (H.pick 4 rfl)).mono ?_
        rintro e w ⟨gb0, rfl, H⟩
        have hlb := len_fullB sd (UInt8.ofNat k)
        generalize fullB sd (UInt8.ofNat k) = bb at *
        rw [hbk]
        clear so3
        replace H : At W (Blk gb0 (.cells (bv bb).toArray 5 (0, 0)) :: KRows ks :: DiskAt d ⟨2, s, some none, rd, wt⟩ :: Blk gi (.cells cl.toArray 5 (0, 0)) :: OwnRow 33 1 u8 ks.length (ks.map Kp.v) :: Arg W :: []) w := H.sel 6 [0, 2, 3, 4, 5, 1]
        have hB0 : Reads (Blk gb0 (.cells (bv bb).toArray 5 (0, 0))) (.slice (some ⟨gb0, 0, none⟩) 512 512) bb := reads_full hlb (by decide)
        go_wp2_with fail
        refine (lend hB0 (by omega) H).mono ?_
        rintro e w ⟨gb, rfl, H⟩
        dsimp only at H ⊢
        rw [hlb]
        replace H : At W (Blk gb (.cells (bv bb ++ List.replicate 67 (Value.int .u8 201)).toArray 5 (0, 0)) :: KRows ks :: DiskAt d ⟨2, s, some none, rd, wt⟩ :: Blk gi (.cells cl.toArray 5 (0, 0)) :: OwnRow 33 1 u8 ks.length (ks.map Kp.v) :: Arg W :: []) w := H.sel 2 [0]
        have hB : Reads (Blk gb (.cells (bv bb ++ List.replicate 67 (Value.int .u8 201)).toArray 5 (0, 0))) (.slice (some ⟨gb, 0, none⟩) 512 579) bb := reads_lend hlb (by decide)
        clear hB0
        have so1 := (so.at_ H 5 rfl).c1
        dsimp only at so1
        go_wp2_with (first | (refine st_load1 rfl _ _ rfl _ rfl ?_ so1 ?_; (kernel_rfl); (intro K hK; go_simp)))
        refine (round H sn 2 n1 n2 (by omega) (by omega)).mono ?_
        rintro e w ⟨rfl, H⟩
        obtain ⟨p1, p2⟩ := rnd_range (v := sn) (n := 2) (by omega)
        generalize rnd sn 2 = p at *
        clear so1
        have hp : p = 0 ∨ p = 1 := by omega
        have hw := Lib.hid (written_steady (N := 2) (r := rd) (c := wt) (c' := wrap64 (wt + 1)) (n := p) (s := s) (b := bb) p1 p2 hlb (HS.out.len _) rfl)
        have HS2 := Lib.hid (sit_image HS.out q1 hp hlb)
        have hu := Lib.hid (upd_len (n := p) hlb HS.out.len)
        have hup : Hid (upd s p bb p = bb) := Lib.hid (by simp [upd])
        have hsl := Lib.hid (length_splice cl (p.toNat * 512) (bv bb) (by rw [length_bv, hlb, HS.out.ic]; omega))
        go_wp2_with fail
        refine (write hB (D := ⟨2, s, some none, rd, wt⟩) (by intro l t h; cases h) p (H.sel 3 [2, 0, 1])).mono ?_
        rintro e w ⟨rfl, H⟩
        rw [hw.out] at H ⊢
        dsimp only at H ⊢
        replace H : At W (Blk gb (.cells (bv bb ++ List.replicate 67 (Value.int .u8 201)).toArray 5 (0, 0)) :: KRows ks :: DiskAt d ⟨2, upd s p bb, some none, rd, wrap64 (wt + 1)⟩ :: Blk gi (.cells cl.toArray 5 (0, 0)) :: OwnRow 33 1 u8 ks.length (ks.map Kp.v) :: Arg W :: []) w := H.sel 3 [1, 2, 0]
        clear hw
        generalize wrap64 (wt + 1) = wt2 at *
        generalize hsu : upd s p bb = s2 at *
        have hmp : Hid (∀ rd wt, mayE ⟨2, s2, some none, rd, wt⟩ p = 0) := Lib.hid fun rd wt => mayE_in rfl p1 p2
        have hci2 : ¬ (ci = 512) := by omega
        have hsrc : (∀ (j : Nat) (u : Value), (bv bb)[j]? = some u → (bv bb ++ List.replicate 67 (Value.int .u8 201)).toArray[0 + j]? = some u) := fun j u hj => by
          have hjl := (List.getElem?_eq_some_iff.1 hj).1
          rw [Nat.zero_add, List.getElem?_toArray, List.getElem?_append_left hjl]
          exact hj
        have Hsrc := Lib.hid hsrc
        clear hsrc
        have hic := HS.out.ic
        have Hic := Lib.hid hic
        clear hic
        rcases hp with rfl | rfl
        · have hpt : (0 : Int).toNat * 512 = 0 := rfl
          rw [hpt] at HS2 hsl
          go_wp2_with (first | (refine st_copy rfl _ _ _ _ rfl 5 Try.underlying33 ?_ gi 0 _ _ _ _ _ rfl rfl (bv bb) ?_ ?_ (bv_one _) H 3 rfl ?_ ?_; (kernel_rfl); (rw [length_bv, hlb]; rfl); (intro _; exact ⟨_, rfl, cell_part (H.get 0 rfl) Hsrc.out⟩); (have e : (bv bb).length = 512 := (by rw [length_bv, hlb]); have e2 := Hic.out; omega); (clear H; intro w H K hK; simp only [List.set_cons_zero, List.set_cons_succ] at H; go_simp)))
          refine (read_yes (H.pick 2 rfl) _ (hmp.out _ _)).mono ?_
          rintro e w ⟨gx, rfl, H⟩
          replace H : At W (DiskAt d ⟨2, s2, some none, wrap64 (rd + 1), wt2⟩ :: Blk gx (.cells (bv (s2 0)).toArray 77 (0, 0)) :: Blk gb (.cells (bv bb ++ List.replicate 67 (Value.int .u8 201)).toArray 5 (0, 0)) :: KRows ks :: Blk gi (.cells (splice cl 0 (bv bb)).toArray 5 (0, 0)) :: OwnRow 33 1 u8 ks.length (ks.map Kp.v) :: Arg W :: []) w := H.sel 2 [1, 0]
          go_wp2_with fail
          refine (read_yes H _ (hmp.out _ _)).mono ?_
          rintro e w ⟨gy, rfl, H⟩
          replace H : At W (DiskAt d ⟨2, s2, some none, wrap64 (wrap64 (rd + 1) + 1), wt2⟩ :: Blk gy (.cells (bv (s2 0)).toArray 77 (0, 0)) :: Blk gx (.cells (bv (s2 0)).toArray 77 (0, 0)) :: Blk gb (.cells (bv bb ++ List.replicate 67 (Value.int .u8 201)).toArray 5 (0, 0)) :: KRows ks :: Blk gi (.cells (splice cl 0 (bv bb)).toArray 5 (0, 0)) :: OwnRow 33 1 u8 ks.length (ks.map Kp.v) :: Arg W :: []) w := H.sel 2 [1, 0]
          go_wp2_with fail
          refine (image (by show (1 : Int) ≤ 2; decide) (by show (2 : Int) ≤ 65536; decide) hu.out H).mono ?_
          rintro e w ⟨z, rfl, H⟩
          replace H : At W (OwnRow 5 1 z 1024 (bv (img s2 2)) :: DiskAt d ⟨2, s2, some none, wrap64 (wrap64 (rd + 1) + 1), wt2⟩ :: Blk gy (.cells (bv (s2 0)).toArray 77 (0, 0)) :: Blk gx (.cells (bv (s2 0)).toArray 77 (0, 0)) :: Blk gb (.cells (bv bb ++ List.replicate 67 (Value.int .u8 201)).toArray 5 (0, 0)) :: KRows ks :: Blk gi (.cells (splice cl 0 (bv bb)).toArray 5 (0, 0)) :: OwnRow 33 1 u8 ks.length (ks.map Kp.v) :: Arg W :: []) w := H
          go_wp2_with fail
          have hX : ∀ g, Reads (Blk g (.cells (bv (s2 0)).toArray 77 (0, 0))) (.slice (some ⟨g, 0, none⟩) 512 512) (s2 0) := fun g => reads_full (hu.out _) (by decide)
          refine (same H ((hX gx).at_ H 3 rfl) (hB.at_ H 4 rfl)).mono ?_
          rintro e w ⟨rfl, H⟩
          rw [hup.out, beq_self_eq_true]
          go_wp2_with fail
          refine (same H ((hX gy).at_ H 2 rfl) (hB.at_ H 4 rfl)).mono ?_
          rintro e w ⟨rfl, H⟩
          rw [hup.out, beq_self_eq_true]
          go_wp2_with fail
          have hli := len_img hu.out 2
          have hZ : Reads (OwnRow 5 1 z 1024 (bv (img s2 2))) z (img s2 2) := reads_own_n hli
          have hl2 : (s2 0 ++ s2 1).length = 1024 := by rw [List.length_append, hu.out, hu.out]
          have hIm : Reads (Blk gi (.cells (splice cl 0 (bv bb)).toArray 5 (0, 0))) (.slice (some ⟨gi, 0, none⟩) 1024 ci) (s2 0 ++ s2 1) := by
            have h := reads_blk (g := gi) (off := 0) (t := 5) (fr := (0, 0)) (c := (splice cl 0 (bv bb)).toArray) (l := s2 0 ++ s2 1) (cap := ci) (fun j v hj => by
              rw [Nat.zero_add, List.getElem?_toArray]
              rw [← HS2.out, List.getElem?_take] at hj
              split at hj
              · exact hj
              · cases hj) (by rw [hl2]; exact q1) q2
            rwa [hl2] at h
          refine (same H (hZ.at_ H 0 rfl) (hIm.at_ H 6 rfl)).mono ?_
          rintro e w ⟨rfl, H⟩
          rw [img_two, beq_self_eq_true]
          clear hZ hIm hX hB
          obtain ⟨gz, cz, cur, hvz, y1, y2, y3, y4, y5, H2⟩ : ∃ gz cz cur, z = .slice (some ⟨gz, 0, none⟩) 1024 cz ∧ 1024 ≤ cz ∧ cz ≤ maxLen ∧ cur.size = cz * 1 ∧ (bv (img s2 2)).length = 1024 * 1 ∧ cur.toList.take (1024 * 1) = bv (img s2 2) ∧ At W (Blk gz (.cells cur 5 (0, 0)) :: _) w := by
            rcases own_cases H with ⟨_, h0, _, _⟩ | ⟨gz, cz, cur, h1, h2, h3, h4, h5, h6, h7⟩
            · exact absurd h0 (by decide)
            · exact ⟨gz, cz, cur, h1, h2, h3, h4, h5, h6, h7⟩
          subst hvz
          rcases cur with ⟨zl⟩
          have hzl : zl.length = cz := by simpa using y3
          replace H : At W (OwnRow 33 1 u8 ks.length (ks.map Kp.v) :: Blk gz (.cells zl.toArray 5 (0, 0)) :: DiskAt d ⟨2, s2, some none, wrap64 (wrap64 (rd + 1) + 1), wt2⟩ :: Blk gy (.cells (bv (s2 0)).toArray 77 (0, 0)) :: Blk gx (.cells (bv (s2 0)).toArray 77 (0, 0)) :: Blk gb (.cells (bv bb ++ List.replicate 67 (Value.int .u8 201)).toArray 5 (0, 0)) :: KRows ks :: Blk gi (.cells (splice cl 0 (bv bb)).toArray 5 (0, 0)) :: Arg W :: []) w := H2.sel 9 [7, 0, 1, 2, 3, 4, 5, 6, 8]
          have Hkl : Hid (ks.length ≤ 801) := Lib.hid (by have := HS.out.n; omega)
          have hzl2 := Lib.hid hzl
          clear H2 y3 y4 y5 hzl hli hl2
          go_wp2_with (first | (refine st_lit rfl _ _ _ rfl #[.slice (some ⟨gb, 0, none⟩) 512 579, .slice (some ⟨gx, 0, none⟩) 512 512, .slice (some ⟨gy, 0, none⟩) 512 512, .slice (some ⟨gz, 0, none⟩) 1024 cz] 33 4 H ?_ ?_; (go_simp); (clear H; intro gl w H K hK; replace H : At W (OwnRow 33 1 u8 ks.length (ks.map Kp.v) :: Blk gl _ :: _) w := H.sel 2 [1, 0]; go_simp))    | (refine st_append rfl _ _ _ rfl 33 Try.underlying56 1 ?_ 24 ?_ (.slice none 0 0) ?_ rfl _ _ _ rfl H (some ⟨gl, 0, none⟩) 4 4 [.slice (some ⟨gb, 0, none⟩) 512 579, .slice (some ⟨gx, 0, none⟩) 512 512, .slice (some ⟨gy, 0, none⟩) 512 512, .slice (some ⟨gz, 0, none⟩) 1024 cz] rfl rfl ?_ ?_ ?_ ?_ ?_; (kernel_rfl); (kernel_rfl); (kernel_rfl); (intro _; exact ⟨_, rfl, cell_part (H.get 1 rfl) (fun j u hj => by rw [Nat.zero_add]; simpa using hj)⟩); (intro u hu; simp at hu; rcases hu with rfl | rfl | rfl | rfl <;> rfl); (have e := Hkl.out; simp only [maxLen]; omega); (have e := Hkl.out; omega); (clear H; intro vk2 w H K hK; go_simp)))
          go_roundw
          case rel =>
            have hR : Hid (∀ k : Nat, KpOk ⟨k, 77, 512, 512, bv (s2 0)⟩) := Lib.hid fun k => ⟨by rw [length_bv, hu.out], Nat.le_refl _, (by show 512 ≤ maxLen; decide), (by show 512 ≤ 1024; decide), .inr rfl⟩
            have hK1 : KpOk ⟨gb, 5, 512, 579, bv bb ++ List.replicate 67 (Value.int .u8 201)⟩ := ⟨by rw [List.length_append, length_bv, hlb, List.length_replicate], (by show 512 ≤ 579; decide), (by show 579 ≤ maxLen; decide), (by show 512 ≤ 1024; decide), .inl rfl⟩
            have hK4 : KpOk ⟨gz, 5, 1024, cz, zl⟩ := ⟨hzl2.out, y1, y2, Nat.le_refl _, .inl rfl⟩
            refine ⟨k + 1, by omega, by omega, by go_num, s2, splice cl 0 (bv bb), ks ++ [⟨gb, 5, 512, 579, bv bb ++ List.replicate 67 (Value.int .u8 201)⟩] ++ [⟨gx, 77, 512, 512, bv (s2 0)⟩] ++ [⟨gy, 77, 512, 512, bv (s2 0)⟩] ++ [⟨gz, 5, 1024, cz, zl⟩], wrap64 (wrap64 (rd + 1) + 1), wt2, Lib.hid ⟨hu.out, by rw [hsl.out]; exact HS.out.ic, HS2.out, by simp only [List.length_append, List.length_cons, List.length_nil]; have := HS.out.n; omega, kp_snoc (kp_snoc (kp_snoc (kp_snoc HS.out.ok hK1) (hR.out _)) (hR.out _)) hK4⟩, ?_⟩
            have H1 := rows_snoc (k := ⟨gb, 5, 512, 579, bv bb ++ List.replicate 67 (Value.int .u8 201)⟩) (H.sel 10 [6, 7, 3, 8, 0, 9, 5, 4, 2])
            have H2 := rows_snoc (k := ⟨gx, 77, 512, 512, bv (s2 0)⟩) (H1.pick 5 rfl)
            have H3 := rows_snoc (k := ⟨gy, 77, 512, 512, bv (s2 0)⟩) (H2.pick 5 rfl)
            have H4 := rows_snoc (k := ⟨gz, 5, 1024, cz, zl⟩) (H3.pick 5 rfl)
            simp only [List.length_append, List.map_append, List.append_assoc, List.length_cons, List.length_nil, List.map_cons, List.map_nil, List.cons_append, List.nil_append] at H4 ⊢
            exact H4
          case measure => simp [intOf]; omega
        · have hpt : (1 : Int).toNat * 512 = 512 := rfl
          rw [hpt] at HS2 hsl
          go_wp2_with (first | (refine st_copy rfl _ _ _ _ rfl 5 Try.underlying33 ?_ gi 512 _ _ _ _ _ rfl rfl (bv bb) ?_ ?_ (bv_one _) H 3 rfl ?_ ?_; (kernel_rfl); (rw [length_bv, hlb]; rfl); (intro _; exact ⟨_, rfl, cell_part (H.get 0 rfl) Hsrc.out⟩); (have e : (bv bb).length = 512 := (by rw [length_bv, hlb]); have e2 := Hic.out; omega); (clear H; intro w H K hK; simp only [List.set_cons_zero, List.set_cons_succ] at H; go_simp)))
          refine (read_yes (H.pick 2 rfl) _ (hmp.out _ _)).mono ?_
          rintro e w ⟨gx, rfl, H⟩
          replace H : At W (DiskAt d ⟨2, s2, some none, wrap64 (rd + 1), wt2⟩ :: Blk gx (.cells (bv (s2 1)).toArray 77 (0, 0)) :: Blk gb (.cells (bv bb ++ List.replicate 67 (Value.int .u8 201)).toArray 5 (0, 0)) :: KRows ks :: Blk gi (.cells (splice cl 512 (bv bb)).toArray 5 (0, 0)) :: OwnRow 33 1 u8 ks.length (ks.map Kp.v) :: Arg W :: []) w := H.sel 2 [1, 0]
          go_wp2_with fail
          refine (read_yes H _ (hmp.out _ _)).mono ?_
          rintro e w ⟨gy, rfl, H⟩
          replace H : At W (DiskAt d ⟨2, s2, some none, wrap64 (wrap64 (rd + 1) + 1), wt2⟩ :: Blk gy (.cells (bv (s2 1)).toArray 77 (0, 0)) :: Blk gx (.cells (bv (s2 1)).toArray 77 (0, 0)) :: Blk gb (.cells (bv bb ++ List.replicate 67 (Value.int .u8 201)).toArray 5 (0, 0)) :: KRows ks :: Blk gi (.cells (splice cl 512 (bv bb)).toArray 5 (0, 0)) :: OwnRow 33 1 u8 ks.length (ks.map Kp.v) :: Arg W :: []) w := H.sel 2 [1, 0]
          go_wp2_with fail
          refine (image (by show (1 : Int) ≤ 2; decide) (by show (2 : Int) ≤ 65536; decide) hu.out H).mono ?_
          rintro e w ⟨z, rfl, H⟩
          replace H : At W (OwnRow 5 1 z 1024 (bv (img s2 2)) :: DiskAt d ⟨2, s2, some none, wrap64 (wrap64 (rd + 1) + 1), wt2⟩ :: Blk gy (.cells (bv (s2 1)).toArray 77 (0, 0)) :: Blk gx (.cells (bv (s2 1)).toArray 77 (0, 0)) :: Blk gb (.cells (bv bb ++ List.replicate 67 (Value.int .u8 201)).toArray 5 (0, 0)) :: KRows ks :: Blk gi (.cells (splice cl 512 (bv bb)).toArray 5 (0, 0)) :: OwnRow 33 1 u8 ks.length (ks.map Kp.v) :: Arg W :: []) w := H
          go_wp2_with fail
          have hX : ∀ g, Reads (Blk g (.cells (bv (s2 1)).toArray 77 (0, 0))) (.slice (some ⟨g, 0, none⟩) 512 512) (s2 1) := fun g => reads_full (hu.out _) (by decide)
          refine (same H ((hX gx).at_ H 3 rfl) (hB.at_ H 4 rfl)).mono ?_
          rintro e w ⟨rfl, H⟩
          rw [hup.out, beq_self_eq_true]
          go_wp2_with fail
          refine (same H ((hX gy).at_ H 2 rfl) (hB.at_ H 4 rfl)).mono ?_
          rintro e w ⟨rfl, H⟩
          rw [hup.out, beq_self_eq_true]
          go_wp2_with fail
          have hli := len_img hu.out 2
          have hZ : Reads (OwnRow 5 1 z 1024 (bv (img s2 2))) z (img s2 2) := reads_own_n hli
          have hl2 : (s2 0 ++ s2 1).length = 1024 := by rw [List.length_append, hu.out, hu.out]
          have hIm : Reads (Blk gi (.cells (splice cl 512 (bv bb)).toArray 5 (0, 0))) (.slice (some ⟨gi, 0, none⟩) 1024 ci) (s2 0 ++ s2 1) := by
            have h := reads_blk (g := gi) (off := 0) (t := 5) (fr := (0, 0)) (c := (splice cl 512 (bv bb)).toArray) (l := s2 0 ++ s2 1) (cap := ci) (fun j v hj => by
              rw [Nat.zero_add, List.getElem?_toArray]
              rw [← HS2.out, List.getElem?_take] at hj
              split at hj
              · exact hj
              · cases hj) (by rw [hl2]; exact q1) q2
            rwa [hl2] at h
          refine (same H (hZ.at_ H 0 rfl) (hIm.at_ H 6 rfl)).mono ?_
          rintro e w ⟨rfl, H⟩
          rw [img_two, beq_self_eq_true]
          clear hZ hIm hX hB
          obtain ⟨gz, cz, cur, hvz, y1, y2, y3, y4, y5, H2⟩ : ∃ gz cz cur, z = .slice (some ⟨gz, 0, none⟩) 1024 cz ∧ 1024 ≤ cz ∧ cz ≤ maxLen ∧ cur.size = cz * 1 ∧ (bv (img s2 2)).length = 1024 * 1 ∧ cur.toList.take (1024 * 1) = bv (img s2 2) ∧ At W (Blk gz (.cells cur 5 (0, 0)) :: _) w := by
            rcases own_cases H with ⟨_, h0, _, _⟩ | ⟨gz, cz, cur, h1, h2, h3, h4, h5, h6, h7⟩
            · exact absurd h0 (by decide)
            · exact ⟨gz, cz, cur, h1, h2, h3, h4, h5, h6, h7⟩
          subst hvz
          rcases cur with ⟨zl⟩
          have hzl : zl.length = cz := by simpa using y3
          replace H : At W (OwnRow 33 1 u8 ks.length (ks.map Kp.v) :: Blk gz (.cells zl.toArray 5 (0, 0)) :: DiskAt d ⟨2, s2, some none, wrap64 (wrap64 (rd + 1) + 1), wt2⟩ :: Blk gy (.cells (bv (s2 1)).toArray 77 (0, 0)) :: Blk gx (.cells (bv (s2 1)).toArray 77 (0, 0)) :: Blk gb (.cells (bv bb ++ List.replicate 67 (Value.int .u8 201)).toArray 5 (0, 0)) :: KRows ks :: Blk gi (.cells (splice cl 512 (bv bb)).toArray 5 (0, 0)) :: Arg W :: []) w := H2.sel 9 [7, 0, 1, 2, 3, 4, 5, 6, 8]
          have Hkl : Hid (ks.length ≤ 801) := Lib.hid (by have := HS.out.n; omega)
          have hzl2 := Lib.hid hzl
          clear H2 y3 y4 y5 hzl hli hl2
          go_wp2_with (first | (refine st_lit rfl _ _ _ rfl #[.slice (some ⟨gb, 0, none⟩) 512 579, .slice (some ⟨gx, 0, none⟩) 512 512, .slice (some ⟨gy, 0, none⟩) 512 512, .slice (some ⟨gz, 0, none⟩) 1024 cz] 33 4 H ?_ ?_; (go_simp); (clear H; intro gl w H K hK; replace H : At W (OwnRow 33 1 u8 ks.length (ks.map Kp.v) :: Blk gl _ :: _) w := H.sel 2 [1, 0]; go_simp))    | (refine st_append rfl _ _ _ rfl 33 Try.underlying56 1 ?_ 24 ?_ (.slice none 0 0) ?_ rfl _ _ _ rfl H (some ⟨gl, 0, none⟩) 4 4 [.slice (some ⟨gb, 0, none⟩) 512 579, .slice (some ⟨gx, 0, none⟩) 512 512, .slice (some ⟨gy, 0, none⟩) 512 512, .slice (some ⟨gz, 0, none⟩) 1024 cz] rfl rfl ?_ ?_ ?_ ?_ ?_; (kernel_rfl); (kernel_rfl); (kernel_rfl); (intro _; exact ⟨_, rfl, cell_part (H.get 1 rfl) (fun j u hj => by rw [Nat.zero_add]; simpa using hj)⟩); (intro u hu; simp at hu; rcases hu with rfl | rfl | rfl | rfl <;> rfl); (have e := Hkl.out; simp only [maxLen]; omega); (have e := Hkl.out; omega); (clear H; intro vk2 w H K hK; go_simp)))
          go_roundw
          case rel =>
            have hR : Hid (∀ k : Nat, KpOk ⟨k, 77, 512, 512, bv (s2 1)⟩) := Lib.hid fun k => ⟨by rw [length_bv, hu.out], Nat.le_refl _, (by show 512 ≤ maxLen; decide), (by show 512 ≤ 1024; decide), .inr rfl⟩
            have hK1 : KpOk ⟨gb, 5, 512, 579, bv bb ++ List.replicate 67 (Value.int .u8 201)⟩ := ⟨by rw [List.length_append, length_bv, hlb, List.length_replicate], (by show 512 ≤ 579; decide), (by show 579 ≤ maxLen; decide), (by show 512 ≤ 1024; decide), .inl rfl⟩
            have hK4 : KpOk ⟨gz, 5, 1024, cz, zl⟩ := ⟨hzl2.out, y1, y2, Nat.le_refl _, .inl rfl⟩
            refine ⟨k + 1, by omega, by omega, by go_num, s2, splice cl 512 (bv bb), ks ++ [⟨gb, 5, 512, 579, bv bb ++ List.replicate 67 (Value.int .u8 201)⟩] ++ [⟨gx, 77, 512, 512, bv (s2 1)⟩] ++ [⟨gy, 77, 512, 512, bv (s2 1)⟩] ++ [⟨gz, 5, 1024, cz, zl⟩], wrap64 (wrap64 (rd + 1) + 1), wt2, Lib.hid ⟨hu.out, by rw [hsl.out]; exact HS.out.ic, HS2.out, by simp only [List.length_append, List.length_cons, List.length_nil]; have := HS.out.n; omega, kp_snoc (kp_snoc (kp_snoc (kp_snoc HS.out.ok hK1) (hR.out _)) (hR.out _)) hK4⟩, ?_⟩
            have H1 := rows_snoc (k := ⟨gb, 5, 512, 579, bv bb ++ List.replicate 67 (Value.int .u8 201)⟩) (H.sel 10 [6, 7, 3, 8, 0, 9, 5, 4, 2])
            have H2 := rows_snoc (k := ⟨gx, 77, 512, 512, bv (s2 1)⟩) (H1.pick 5 rfl)
            have H3 := rows_snoc (k := ⟨gy, 77, 512, 512, bv (s2 1)⟩) (H2.pick 5 rfl)
            have H4 := rows_snoc (k := ⟨gz, 5, 1024, cz, zl⟩) (H3.pick 5 rfl)
            simp only [List.length_append, List.map_append, List.append_assoc, List.length_cons, List.length_nil, List.map_cons, List.map_nil, List.cons_append, List.nil_append] at H4 ⊢
            exact H4
          case measure => simp [intOf]; omega
      · have g1 : (k : Int) < l.length := by omega
        have g2 : ¬ (k : Int) < 200 := by omega
        have Hkl : Hid (ks.length ≤ 801) := Lib.hid (by have := HS.out.n; omega)
        have HW0 := Lib.hid (Wr.zero HS.out.ok)
        obtain ⟨ka, kc, hvk, kc1, kc2, _, kc3, _⟩ := own_value (H.pick 3 rfl)
        obtain ⟨kb, rfl⟩ := kc3 (by have := HS.out.n; omega)
        subst hvk
        clear kc3
        go_wp2_with fail
        go_loopw [17] (fun i wr => ∃ m : Nat, m ≤ ks.length ∧ i = .int .i64 m ∧ ∃ ks2, Hid (Wr m ks ks2) ∧ At W (KRows ks2 :: DiskAt d ⟨2, s, some none, rd, wt⟩ :: Blk gi (.cells cl.toArray 5 (0, 0)) :: OwnRow 33 1 (.slice (some kb) ks.length kc) ks.length (ks.map Kp.v) :: Arg W :: []) wr) (fun i _ => ks.length - (intOf i).toNat)
        case atStart => exact ⟨0, Nat.zero_le _, rfl, ks, HW0, H⟩
        case round =>
          clear H HW0
          obtain ⟨m, hm, rfl, ks2, HW, H⟩ := hrel
          have Hkl2 := Hkl.out
          by_cases hml : m < ks.length
          · have gm : (m : Int) < ks.length := by omega
            obtain ⟨x, hx⟩ : ∃ x, ks2[m]? = some x := ⟨ks2[m]'(by rw [HW.out.n]; exact hml), by simp [HW.out.n, hml]⟩
            have hxv : (ks.map Kp.v)[m]? = some (.slice (some ⟨x.g, 0, none⟩) x.len x.cap) := by rw [← HW.out.v, List.getElem?_map, hx]; rfl
            have Hxv := Lib.hid hxv
            have Hx := Lib.hid hx
            have Hok := Lib.hid (HW.out.ok m x hx)
            have hf := rows_focus H hx
            have hwm : IntKind.i64.wrap ((m : Int) + 100) = (m : Int) + 100 := IntWalk.i64_in _ (by omega)
            clear hxv hx H
            obtain ⟨wo, rfl⟩ : ∃ wo : World, wo = wr := ⟨_, rfl⟩
            go_wp2_with fail
            go_loopw [18] (fun j wr => ∃ n : Nat, n ≤ x.len ∧ j = .int .i64 n ∧ ∃ c : List Value, Hid (c.length = x.cap ∧ ∀ j, j < n → c[j]? = some (.int .u8 (((m : Int) + 100) % 256))) ∧ At W (Blk x.g (.cells c.toArray x.t (0, 0)) :: Stars ((ks2.map Kp.at_).eraseIdx m) :: DiskAt d ⟨2, s, some none, rd, wt⟩ :: Blk gi (.cells cl.toArray 5 (0, 0)) :: OwnRow 33 1 (.slice (some kb) ks.length kc) ks.length (ks.map Kp.v) :: Arg W :: []) wr) (fun j _ => x.len - (intOf j).toNat)
            case atStart => exact ⟨0, Nat.zero_le _, rfl, x.c, Lib.hid ⟨Hok.out.c, fun j h => absurd h (Nat.not_lt_zero _)⟩, hf⟩
            case round =>
              clear hf
              obtain ⟨n, hn, rfl, c, Hc, H⟩ := hrel
              have hcell := own_cell H 4 rfl Hxv.out
              have hxs := Hok.out.small
              have hxle := Hok.out.le
              by_cases hnl : n < x.len
              · have gn : (n : Int) < x.len := by omega
                go_wp2_with (first | (refine st_load1 rfl _ _ rfl _ rfl ?_ hcell ?_; (kernel_rfl); (intro K hK; go_simp)) | (refine st_store rfl _ _ _ rfl x.g n rfl _ rfl rfl ?_ H 0 rfl ?_ ?_; (kernel_rfl); (simp only [List.size_toArray]; rw [Hc.out.1]; omega); (clear H; intro w H K hK; simp only [List.set_cons_zero, List.set_cons_succ, List.setIfInBounds_toArray, Act.eval, Value.cells, Array.getD_eq_getD_getElem?, List.getElem?_toArray, List.getElem?_cons_succ, List.getElem?_cons_zero, Option.getD_some] at H; go_simp)))
                go_roundw
                case rel =>
                  refine ⟨n + 1, by omega, by go_num, _, Lib.hid ⟨by rw [List.length_set]; exact Hc.out.1, fun j hj => ?_⟩, H⟩
                  by_cases hjn : j = n
                  · subst hjn
                    rw [List.getElem?_set_self (by rw [Hc.out.1]; omega)]
                  · rw [List.getElem?_set_ne (fun e => hjn e.symm)]
                    exact Hc.out.2 j (by omega)
                case measure => simp [intOf]; omega
              · have gn : ¬ (n : Int) < x.len := by omega
                go_wp2_with (first | (refine st_load1 rfl _ _ rfl _ rfl ?_ hcell ?_; (kernel_rfl); (intro K hK; go_simp)))
                go_roundw
                case rel => exact ⟨m + 1, by omega, by go_num, ks2.set m ⟨x.g, x.t, x.len, x.cap, c⟩, Lib.hid (HW.out.next Hx.out Hc.out.1 (fun j hj => Hc.out.2 j (by omega))), rows_unfocus (k' := ⟨x.g, x.t, x.len, x.cap, c⟩) (by rw [HW.out.n]; exact hml) H⟩
                case measure => simp [intOf]; omega
          · have gm : ¬ (m : Int) < ks.length := by omega
            have hmk : m = ks.length := by omega
            have HW2 : Hid (Wr ks.length ks ks2) := Lib.hid (by rw [← hmk]; exact HW.out)
            clear HW hmk
            obtain ⟨wo, rfl⟩ : ∃ wo : World, wo = wr := ⟨_, rfl⟩
            have HL0 := Lib.hid (Lg.zero ks2)
            have H0 : At W (OwnRow 33 1 (.slice none 0 0) 0 [] :: Stars (ks2.map Kp.at_) :: DiskAt d ⟨2, s, some none, rd, wt⟩ :: Blk gi (.cells cl.toArray 5 (0, 0)) :: OwnRow 33 1 (.slice (some kb) ks.length kc) ks.length (ks.map Kp.v) :: Arg W :: []) wo := own_nil H 33 1
            clear H
            go_wp2_with fail
            go_loopw [19, 20] (fun vl i wr => ∃ q : Nat, q ≤ ks.length ∧ i = .int .i64 q ∧ ∃ M ls, Hid (Lg q ks2 M ls) ∧ At W (OwnRow 33 1 vl q ls :: Stars M :: DiskAt d ⟨2, s, some none, rd, wt⟩ :: Blk gi (.cells cl.toArray 5 (0, 0)) :: OwnRow 33 1 (.slice (some kb) ks.length kc) ks.length (ks.map Kp.v) :: Arg W :: []) wr) (fun _ i _ => ks.length - (intOf i).toNat)
            case atStart => exact ⟨0, Nat.zero_le _, rfl, _, _, HL0, H0⟩
            case round =>
              clear H0 HL0
              obtain ⟨q, hq, rfl, M, ls, HL, H⟩ := hrel
              have Hkl3 := Hkl.out
              by_cases hql : q < ks.length
              · have gq : (q : Int) < ks.length := by omega
                obtain ⟨x, hx⟩ : ∃ x, ks2[q]? = some x := ⟨ks2[q]'(by rw [HW2.out.n]; exact hql), by simp [HW2.out.n, hql]⟩
                have hxv : (ks.map Kp.v)[q]? = some (.slice (some ⟨x.g, 0, none⟩) x.len x.cap) := by rw [← HW2.out.v, List.getElem?_map, hx]; rfl
                have hok := HW2.out.ok q x hx
                have hsm := hok.small
                have hf := grown_start (e := 5) (stars_focus (H.pick 1 rfl) (HL.out.rest q x hx (Nat.le_refl _))) hok.c hok.le hok.room hok.ty
                have hcell := own_cell hf 5 rfl hxv
                have Hx := Lib.hid hx
                have hwq : IntKind.i64.wrap ((q : Int) + 50) = (q : Int) + 50 := IntWalk.i64_in _ (by omega)
                clear hxv hx hok H
                obtain ⟨w2, rfl⟩ : ∃ w2 : World, w2 = wr := ⟨_, rfl⟩
                go_wp2_with (first | (refine st_load1 rfl _ _ rfl _ rfl ?_ hcell ?_; (kernel_rfl); (intro K hK; go_simp)))
                go_loopw [21, 22] (fun l j wr => ∃ n : Nat, n ≤ 70 ∧ j = .int .i64 n ∧ At W (Grown 5 x l (x.len + n) (x.c.take x.len ++ List.replicate n (.int .u8 (((q : Int) + 50) % 256))) :: Stars (M.eraseIdx q) :: OwnRow 33 1 u19 q ls :: DiskAt d ⟨2, s, some none, rd, wt⟩ :: Blk gi (.cells cl.toArray 5 (0, 0)) :: OwnRow 33 1 (.slice (some kb) ks.length kc) ks.length (ks.map Kp.v) :: Arg W :: []) wr) (fun _ j _ => 70 - (intOf j).toNat)
                case atStart => exact ⟨0, Nat.zero_le _, rfl, by rw [List.replicate_zero, List.append_nil]; exact hf⟩
                case round =>
                  clear hf hcell
                  obtain ⟨n, hn, rfl, H⟩ := hrel
                  by_cases hnl : n < 70
                  · have gn : (n : Int) < 70 := by omega
                    go_wp2_with (first | (refine st_lit rfl _ _ _ rfl #[.int .u8 (((q : Int) + 50) % 256)] 5 1 H ?_ ?_; (go_simp); (clear H; intro gl w H K hK; replace H : At W (Grown 5 x u21 (x.len + n) (x.c.take x.len ++ List.replicate n (.int .u8 (((q : Int) + 50) % 256))) :: Blk gl _ :: _) w := H.sel 2 [1, 0]; go_simp))                | (refine st_grow rfl _ _ _ rfl 5 Try.underlying33 ?_ 1 ?_ (.int .u8 0) ?_ rfl x _ _ _ rfl H ⟨gl, 0, none⟩ 1 (.int .u8 (((q : Int) + 50) % 256)) rfl ?_ rfl ?_ ?_ ?_; (kernel_rfl); (kernel_rfl); (kernel_rfl); (exact cell_of_row _ gl 0 _ _ _ (H.get 1 rfl)); (simp only [maxLen]; omega); (omega); (clear H; intro v2 w H K hK; go_simp)))
                    go_roundw
                    case rel => exact ⟨n + 1, by omega, by go_num, by rw [List.replicate_succ', ← List.append_assoc, ← Nat.add_assoc]; exact H.sel 2 [0]⟩
                    case measure => simp [intOf]; omega
                  · have gn : ¬ (n : Int) < 70 := by omega
                    have hn70 : n = 70 := by omega
                    obtain ⟨la, lc, hlv, _⟩ := grown_reads H (by omega)
                    subst hlv hn70
                    have H2 := H.pick 2 rfl
                    clear H
                    go_wp2_with (first | (refine st_lit rfl _ _ _ rfl #[.slice (some la) (x.len + 70) lc] 33 1 H2 ?_ ?_; (go_simp); (clear H2; intro gl w H K hK; replace H : At W (OwnRow 33 1 u19 q ls :: Blk gl _ :: _) w := H.sel 2 [1, 0]; go_simp))                | (refine st_append rfl _ _ _ rfl 33 Try.underlying56 1 ?_ 24 ?_ (.slice none 0 0) ?_ rfl _ _ _ rfl H (some ⟨gl, 0, none⟩) 1 1 [.slice (some la) (x.len + 70) lc] rfl rfl ?_ ?_ ?_ ?_ ?_; (kernel_rfl); (kernel_rfl); (kernel_rfl); (intro _; exact ⟨_, rfl, cell_part (H.get 1 rfl) (fun j u hj => by rw [Nat.zero_add]; simpa using hj)⟩); (intro u hu; simp at hu; rcases hu with rfl; rfl); (have e := Hkl.out; simp only [maxLen]; omega); (have e := Hkl.out; omega); (clear H; intro vk2 w H K hK; go_simp)))
                    go_roundw
                    case rel =>
                      refine ⟨q + 1, by omega, by go_num, _, _, Lib.hid (HL.out.next (l := .slice (some la) (x.len + 70) lc) Hx.out), ?_⟩
                      have h3 : At W (Grown 5 x (.slice (some la) (x.len + 70) lc) (x.len + 70) (x.c.take x.len ++ List.replicate 70 (.int .u8 (((q : Int) + 50) % 256))) :: Stars (M.eraseIdx q) :: OwnRow 33 1 _ (q + 1) (ls ++ [.slice (some la) (x.len + 70) lc]) :: DiskAt d ⟨2, s, some none, rd, wt⟩ :: Blk gi (.cells cl.toArray 5 (0, 0)) :: OwnRow 33 1 (.slice (some kb) ks.length kc) ks.length (ks.map Kp.v) :: Arg W :: []) w := H.sel 8 [2, 3, 0, 4, 5, 6, 7]
                      exact (stars_unfocus (by rw [HL.out.n, HW2.out.n]; exact hql) h3).pick 1 rfl
                    case measure => simp [intOf]; omega
              · have gq : ¬ (q : Int) < ks.length := by omega
                have hqk : q = ks.length := by omega
                have HL2 : Hid (Lg ks.length ks2 M ls) := Lib.hid (by rw [← hqk]; exact HL.out)
                replace H : At W (OwnRow 33 1 u19 ks.length ls :: Stars M :: DiskAt d ⟨2, s, some none, rd, wt⟩ :: Blk gi (.cells cl.toArray 5 (0, 0)) :: OwnRow 33 1 (.slice (some kb) ks.length kc) ks.length (ks.map Kp.v) :: Arg W :: []) wr := by rw [← hqk] at H ⊢; exact H
                obtain ⟨la, lc, hvl, lc1, lc2, _, lc3, _⟩ := own_value H
                obtain ⟨lb, rfl⟩ := lc3 (by have := HS.out.n; omega)
                subst hvl
                clear lc3 HL hqk
                obtain ⟨w3, rfl⟩ : ∃ w3 : World, w3 = wr := ⟨_, rfl⟩
                have H0 := H
                clear H
                go_wp2_with fail
                go_loopw [23] (fun i wr => ∃ p : Nat, p ≤ ks.length ∧ i = .int .i64 p ∧ At W (OwnRow 33 1 (.slice (some lb) ks.length lc) ks.length ls :: Stars M :: DiskAt d ⟨2, s, some none, rd, wt⟩ :: Blk gi (.cells cl.toArray 5 (0, 0)) :: OwnRow 33 1 (.slice (some kb) ks.length kc) ks.length (ks.map Kp.v) :: Arg W :: []) wr) (fun i _ => ks.length - (intOf i).toNat)
                case atStart => exact ⟨0, Nat.zero_le _, rfl, H0⟩
                case round =>
                  clear H0
                  obtain ⟨p, hp, rfl, H⟩ := hrel
                  have Hkl4 := Hkl.out
                  by_cases hpl : p < ks.length
                  · have gp : (p : Int) < ks.length := by omega
                    obtain ⟨x, hx⟩ : ∃ x, ks2[p]? = some x := ⟨ks2[p]'(by rw [HW2.out.n]; exact hpl), by simp [HW2.out.n, hpl]⟩
                    have hxv : (ks.map Kp.v)[p]? = some (.slice (some ⟨x.g, 0, none⟩) x.len x.cap) := by rw [← HW2.out.v, List.getElem?_map, hx]; rfl
                    have hok := HW2.out.ok p x hx
                    have hsm := hok.small
                    have hall := HW2.out.all p x hx hpl
                    obtain ⟨lv, hlv, hM⟩ := HL2.out.done p x hx hpl
                    obtain ⟨ga, gc, rfl, gc1, gc2, hlong, hkeep⟩ := grown_reads (stars_focus (H.pick 1 rfl) hM) (by omega)
                    have hck := own_cell H 4 rfl hxv
                    have hcl := own_cell H 0 rfl hlv
                    have hle := hok.le
                    have hcc := hok.c
                    have Hc := Lib.hid (show ∀ j, j < x.len → wr.cell? ((⟨x.g, 0, none⟩ : Addr).add j) = some (.int .u8 (((p : Int) + 100) % 256)) ∧ wr.cell? (ga.add j) = some (.int .u8 (((p : Int) + 100) % 256)) from fun j hj => ⟨hkeep j _ hj (hall j hj), hlong j _ (by rw [List.getElem?_append_left (by rw [List.length_take]; omega), List.getElem?_take, if_pos hj]; exact hall j hj)⟩)
                    have Hd := Lib.hid (show ∀ j, x.len ≤ j → j < x.len + 70 → wr.cell? (ga.add j) = some (.int .u8 (((p : Int) + 50) % 256)) from fun j h1 h2 => hlong j _ (by rw [List.getElem?_append_right (by rw [List.length_take]; omega), List.length_take, List.getElem?_replicate, if_pos (by omega)]))
                    have hwp : IntKind.i64.wrap ((p : Int) + 50) = (p : Int) + 50 := IntWalk.i64_in _ (by omega)
                    have hwp2 : IntKind.i64.wrap ((p : Int) + 100) = (p : Int) + 100 := IntWalk.i64_in _ (by omega)
                    have Hck := Lib.hid hck
                    have Hcl := Lib.hid hcl
                    clear hxv hx hok hM hlong hkeep hall hck hcl hlv hle hcc
                    obtain ⟨w4, rfl⟩ : ∃ w4 : World, w4 = wr := ⟨_, rfl⟩
                    go_wp2_with fail
                    go_loopw [24] (fun j wr => ∃ n : Nat, n ≤ x.len + 70 ∧ j = .int .i64 n ∧ Ext w4 wr ∧ At W (OwnRow 33 1 (.slice (some lb) ks.length lc) ks.length ls :: Stars M :: DiskAt d ⟨2, s, some none, rd, wt⟩ :: Blk gi (.cells cl.toArray 5 (0, 0)) :: OwnRow 33 1 (.slice (some kb) ks.length kc) ks.length (ks.map Kp.v) :: Arg W :: []) wr) (fun j _ => x.len + 70 - (intOf j).toNat)
                    case atStart => exact ⟨0, Nat.zero_le _, rfl, Ext.refl _, H⟩
                    case round =>
                      clear H
                      obtain ⟨n, hn, rfl, HE, H⟩ := hrel
                      have c1 := HE.cell Hck.out
                      have c2 := HE.cell Hcl.out
                      have He := Lib.hid HE
                      clear HE
                      by_cases hnl : n < x.len + 70
                      · have gn : (n : Int) < x.len + 70 := by omega
                        by_cases hnx : n < x.len
                        · have gx : (n : Int) < x.len := by omega
                          have c3 : wr.cell? ⟨x.g, n, none⟩ = some (.int .u8 (((p : Int) + 100) % 256)) := by
                            have h := He.out.cell (Hc.out n hnx).1
                            rwa [Addr.add_lit, Nat.zero_add] at h
                          have c4 := He.out.cell (Hc.out n hnx).2
                          go_wp2_with (first | (refine st_load1 rfl _ _ rfl _ rfl ?_ c1 ?_; (kernel_rfl); (intro K hK; go_simp)) | (refine st_load1 rfl _ _ rfl _ rfl ?_ c2 ?_; (kernel_rfl); (intro K hK; go_simp)) | (refine st_load1 rfl _ _ rfl _ rfl ?_ c3 ?_; (kernel_rfl); (intro K hK; go_simp)) | (refine st_load1 rfl _ _ rfl _ rfl ?_ c4 ?_; (kernel_rfl); (intro K hK; go_simp)))
                          go_roundw
                          case rel => exact ⟨n + 1, by omega, by go_num, He.out, H⟩
                          case measure => simp [intOf]; omega
                        · have gx : ¬ (n : Int) < x.len := by omega
                          have gx2 : (x.len : Int) ≤ n := by omega
                          have c4 := He.out.cell (Hd.out n (by omega) hnl)
                          go_wp2_with (first | (refine st_load1 rfl _ _ rfl _ rfl ?_ c1 ?_; (kernel_rfl); (intro K hK; go_simp)) | (refine st_load1 rfl _ _ rfl _ rfl ?_ c2 ?_; (kernel_rfl); (intro K hK; go_simp)) | (refine st_load1 rfl _ _ rfl _ rfl ?_ c4 ?_; (kernel_rfl); (intro K hK; go_simp)))
                          go_roundw
                          case rel => exact ⟨n + 1, by omega, by go_num, He.out, H⟩
                          case measure => simp [intOf]; omega
                      · have gn : ¬ (n : Int) < x.len + 70 := by omega
                        go_wp2_with (first | (refine st_load1 rfl _ _ rfl _ rfl ?_ c1 ?_; (kernel_rfl); (intro K hK; go_simp)) | (refine st_load1 rfl _ _ rfl _ rfl ?_ c2 ?_; (kernel_rfl); (intro K hK; go_simp)))
                        go_roundw
                        case rel => exact ⟨p + 1, by omega, by go_num, H⟩
                        case measure => simp [intOf]; omega
                  · have gp : ¬ (p : Int) < ks.length := by omega
                    replace H : At W (DiskAt d ⟨2, s, some none, rd, wt⟩ :: Blk gi (.cells cl.toArray 5 (0, 0)) :: Arg W :: []) wr := H.sel 6 [2, 3, 5]
                    have hmy : mayE ⟨2, s, some none, rd, wt⟩ 1 = 0 := mayE_in rfl (by decide) (by show (1 : Int) < 2; decide)
                    have Hmy := Lib.hid hmy
                    have Hlen := Lib.hid HS.out.len
                    clear hmy
                    go_wp2_with fail
                    refine (read_yes H 1 Hmy.out).mono ?_
                    rintro e w ⟨gx, rfl, H⟩
                    replace H : At W (DiskAt d ⟨2, s, some none, wrap64 (rd + 1), wt⟩ :: Blk gx (.cells (bv (s 1)).toArray 77 (0, 0)) :: Blk gi (.cells cl.toArray 5 (0, 0)) :: Arg W :: []) w := H.sel 2 [1, 0]
                    have hic := HS.out.ic
                    have him := HS.out.im
                    have hl0 := HS.out.len 0
                    have hl1 := HS.out.len 1
                    have hget : ∀ (j : Nat) (v : Value), (bv (s 0 ++ s 1))[j]? = some v → cl.toArray[j]? = some v := fun j v hj => by
                      rw [← him, List.getElem?_take] at hj
                      rw [List.getElem?_toArray]
                      split at hj
                      · exact hj
                      · cases hj
                    have hX : Reads (Blk gx (.cells (bv (s 1)).toArray 77 (0, 0))) (.slice (some ⟨gx, 0, none⟩) 512 512) (s 1) := reads_full hl1 (by decide)
                    have hY : Reads (Blk gi (.cells cl.toArray 5 (0, 0))) (.slice (some ⟨gi, 512, none⟩) 512 (ci - 512)) (s 1) := by
                      have h := reads_blk (g := gi) (off := 512) (t := 5) (fr := (0, 0)) (c := cl.toArray) (l := s 1) (cap := ci - 512) (fun j v hj => hget _ v (by
                        rw [bv_append, List.getElem?_append_right (by rw [length_bv, hl0]; omega), length_bv, hl0, Nat.add_sub_cancel_left]
                        exact hj)) (by omega) (by omega)
                      rwa [hl1] at h
                    have hl2 : (s 0 ++ s 1).length = 1024 := by rw [List.length_append, hl0, hl1]
                    have hI2 : Reads (Blk gi (.cells cl.toArray 5 (0, 0))) (.slice (some ⟨gi, 0, none⟩) 1024 ci) (s 0 ++ s 1) := by
                      have h := reads_blk (g := gi) (off := 0) (t := 5) (fr := (0, 0)) (c := cl.toArray) (l := s 0 ++ s 1) (cap := ci) (fun j v hj => by rw [Nat.zero_add]; exact hget j v hj) (by omega) (by omega)
                      rwa [hl2] at h
                    clear hget him hic hl0 hl1 hl2
                    have HX := Lib.hid hX
                    have HY := Lib.hid hY
                    have HI2 := Lib.hid hI2
                    clear hX hY hI2
                    have hci2 : ¬ (ci = 512) := by omega
                    go_wp2_with fail
                    refine (same H (HX.out.at_ H 1 rfl) (HY.out.at_ H 2 rfl)).mono ?_
                    rintro e w ⟨rfl, H⟩
                    rw [beq_self_eq_true]
                    go_wp2_with fail
                    refine (image (by show (1 : Int) ≤ 2; decide) (by show (2 : Int) ≤ 65536; decide) Hlen.out H).mono ?_
                    rintro e w ⟨z, rfl, H⟩
                    replace H : At W (OwnRow 5 1 z 1024 (bv (img s 2)) :: DiskAt d ⟨2, s, some none, wrap64 (rd + 1), wt⟩ :: Blk gx (.cells (bv (s 1)).toArray 77 (0, 0)) :: Blk gi (.cells cl.toArray 5 (0, 0)) :: Arg W :: []) w := H
                    have hZ : Reads (OwnRow 5 1 z 1024 (bv (img s 2))) z (img s 2) := reads_own_n (len_img Hlen.out 2)
                    have HZ := Lib.hid hZ
                    clear hZ
                    go_wp2_with fail
                    refine (same H (HZ.out.at_ H 0 rfl) (HI2.out.at_ H 3 rfl)).mono ?_
                    rintro e w ⟨rfl, H⟩
                    rw [img_two, beq_self_eq_true]
                    go_wp2_with fail
                    go_ret
                    exact ⟨rfl, H.below 4 rfl⟩
    · have g1 : ¬ (k : Int) < l.length := by omega
      have Hkl : Hid (ks.length ≤ 801) := Lib.hid (by have := HS.out.n; omega)
      have HW0 := Lib.hid (Wr.zero HS.out.ok)
      obtain ⟨ka, kc, hvk, kc1, kc2, _, kc3, _⟩ := own_value (H.pick 3 rfl)
      obtain ⟨kb, rfl⟩ := kc3 (by have := HS.out.n; omega)
      subst hvk
      clear kc3
      go_wp2_with fail
      go_loopw [17] (fun i wr => ∃ m : Nat, m ≤ ks.length ∧ i = .int .i64 m ∧ ∃ ks2, Hid (Wr m ks ks2) ∧ At W (KRows ks2 :: DiskAt d ⟨2, s, some none, rd, wt⟩ :: Blk gi (.cells cl.toArray 5 (0, 0)) :: OwnRow 33 1 (.slice (some kb) ks.length kc) ks.length (ks.map Kp.v) :: Arg W :: []) wr) (fun i _ => ks.length - (intOf i).toNat)
      case atStart => exact ⟨0, Nat.zero_le _, rfl, ks, HW0, H⟩
      case round =>
        clear H HW0
        obtain ⟨m, hm, rfl, ks2, HW, H⟩ := hrel
        have Hkl2 := Hkl.out
        by_cases hml : m < ks.length
        · have gm : (m : Int) < ks.length := by omega
          obtain ⟨x, hx⟩ : ∃ x, ks2[m]? = some x := ⟨ks2[m]'(by rw [HW.out.n]; exact hml), by simp [HW.out.n, hml]⟩
          have hxv : (ks.map Kp.v)[m]? = some (.slice (some ⟨x.g, 0, none⟩) x.len x.cap) := by rw [← HW.out.v, List.getElem?_map, hx]; rfl
          have Hxv := Lib.hid hxv
          have Hx := Lib.hid hx
          have Hok := Lib.hid (HW.out.ok m x hx)
          have hf := rows_focus H hx
          have hwm : IntKind.i64.wrap ((m : Int) + 100) = (m : Int) + 100 := IntWalk.i64_in _ (by omega)
          clear hxv hx H
          obtain ⟨wo, rfl⟩ : ∃ wo : World, wo = wr := ⟨_, rfl⟩
          go_wp2_with fail
          go_loopw [18] (fun j wr => ∃ n : Nat, n ≤ x.len ∧ j = .int .i64 n ∧ ∃ c : List Value, Hid (c.length = x.cap ∧ ∀ j, j < n → c[j]? = some (.int .u8 (((m : Int) + 100) % 256))) ∧ At W (Blk x.g (.cells c.toArray x.t (0, 0)) :: Stars ((ks2.map Kp.at_).eraseIdx m) :: DiskAt d ⟨2, s, some none, rd, wt⟩ :: Blk gi (.cells cl.toArray 5 (0, 0)) :: OwnRow 33 1 (.slice (some kb) ks.length kc) ks.length (ks.map Kp.v) :: Arg W :: []) wr) (fun j _ => x.len - (intOf j).toNat)
          case atStart => exact ⟨0, Nat.zero_le _, rfl, x.c, Lib.hid ⟨Hok.out.c, fun j h => absurd h (Nat.not_lt_zero _)⟩, hf⟩
          case round =>
            clear hf
            obtain ⟨n, hn, rfl, c, Hc, H⟩ := hrel
            have hcell := own_cell H 4 rfl Hxv.out
            have hxs := Hok.out.small
            have hxle := Hok.out.le
            by_cases hnl : n < x.len
            · have gn : (n : Int) < x.len := by omega
              go_wp2_with (first | (refine st_load1 rfl _ _ rfl _ rfl ?_ hcell ?_; (kernel_rfl); (intro K hK; go_simp)) | (refine st_store rfl _ _ _ rfl x.g n rfl _ rfl rfl ?_ H 0 rfl ?_ ?_; (kernel_rfl); (simp only [List.size_toArray]; rw [Hc.out.1]; omega); (clear H; intro w H K hK; simp only [List.set_cons_zero, List.set_cons_succ, List.setIfInBounds_toArray, Act.eval, Value.cells, Array.getD_eq_getD_getElem?, List.getElem?_toArray, List.getElem?_cons_succ, List.getElem?_cons_zero, Option.getD_some] at H; go_simp)))
              go_roundw
              case rel =>
                refine ⟨n + 1, by omega, by go_num, _, Lib.hid ⟨by rw [List.length_set]; exact Hc.out.1, fun j hj => ?_⟩, H⟩
                by_cases hjn : j = n
                · subst hjn
                  rw [List.getElem?_set_self (by rw [Hc.out.1]; omega)]
                · rw [List.getElem?_set_ne (fun e => hjn e.symm)]
                  exact Hc.out.2 j (by omega)
              case measure => simp [intOf]; omega
            · have gn : ¬ (n : Int) < x.len := by omega
              go_wp2_with (first | (refine st_load1 rfl _ _ rfl _ rfl ?_ hcell ?_; (kernel_rfl); (intro K hK; go_simp)))
              go_roundw
              case rel => exact ⟨m + 1, by omega, by go_num, ks2.set m ⟨x.g, x.t, x.len, x.cap, c⟩, Lib.hid (HW.out.next Hx.out Hc.out.1 (fun j hj => Hc.out.2 j (by omega))), rows_unfocus (k' := ⟨x.g, x.t, x.len, x.cap, c⟩) (by rw [HW.out.n]; exact hml) H⟩
              case measure => simp [intOf]; omega
        · have gm : ¬ (m : Int) < ks.length := by omega
          have hmk : m = ks.length := by omega
          have HW2 : Hid (Wr ks.length ks ks2) := Lib.hid (by rw [← hmk]; exact HW.out)
          clear HW hmk
          obtain ⟨wo, rfl⟩ : ∃ wo : World, wo = wr := ⟨_, rfl⟩
          have HL0 := Lib.hid (Lg.zero ks2)
          have H0 : At W (OwnRow 33 1 (.slice none 0 0) 0 [] :: Stars (ks2.map Kp.at_) :: DiskAt d ⟨2, s, some none, rd, wt⟩ :: Blk gi (.cells cl.toArray 5 (0, 0)) :: OwnRow 33 1 (.slice (some kb) ks.length kc) ks.length (ks.map Kp.v) :: Arg W :: []) wo := own_nil H 33 1
          clear H
          go_wp2_with fail
          go_loopw [19, 20] (fun vl i wr => ∃ q : Nat, q ≤ ks.length ∧ i = .int .i64 q ∧ ∃ M ls, Hid (Lg q ks2 M ls) ∧ At W (OwnRow 33 1 vl q ls :: Stars M :: DiskAt d ⟨2, s, some none, rd, wt⟩ :: Blk gi (.cells cl.toArray 5 (0, 0)) :: OwnRow 33 1 (.slice (some kb) ks.length kc) ks.length (ks.map Kp.v) :: Arg W :: []) wr) (fun _ i _ => ks.length - (intOf i).toNat)
          case atStart => exact ⟨0, Nat.zero_le _, rfl, _, _, HL0, H0⟩
          case round =>
            clear H0 HL0
            obtain ⟨q, hq, rfl, M, ls, HL, H⟩ := hrel
            have Hkl3 := Hkl.out
            by_cases hql : q < ks.length
            · have gq : (q : Int) < ks.length := by omega
              obtain ⟨x, hx⟩ : ∃ x, ks2[q]? = some x := ⟨ks2[q]'(by rw [HW2.out.n]; exact hql), by simp [HW2.out.n, hql]⟩
              have hxv : (ks.map Kp.v)[q]? = some (.slice (some ⟨x.g, 0, none⟩) x.len x.cap) := by rw [← HW2.out.v, List.getElem?_map, hx]; rfl
              have hok := HW2.out.ok q x hx
              have hsm := hok.small
              have hf := grown_start (e := 5) (stars_focus (H.pick 1 rfl) (HL.out.rest q x hx (Nat.le_refl _))) hok.c hok.le hok.room hok.ty
              have hcell := own_cell hf 5 rfl hxv
              have Hx := Lib.hid hx
              have hwq : IntKind.i64.wrap ((q : Int) + 50) = (q : Int) + 50 := IntWalk.i64_in _ (by omega)
              clear hxv hx hok H
              obtain ⟨w2, rfl⟩ : ∃ w2 : World, w2 = wr := ⟨_, rfl⟩
              go_wp2_with (first | (refine st_load1 rfl _ _ rfl _ rfl ?_ hcell ?_; (kernel_rfl); (intro K hK; go_simp)))
              go_loopw [21, 22] (fun l j wr => ∃ n : Nat, n ≤ 70 ∧ j = .int .i64 n ∧ At W (Grown 5 x l (x.len + n) (x.c.take x.len ++ List.replicate n (.int .u8 (((q : Int) + 50) % 256))) :: Stars (M.eraseIdx q) :: OwnRow 33 1 u19 q ls :: DiskAt d ⟨2, s, some none, rd, wt⟩ :: Blk gi (.cells cl.toArray 5 (0, 0)) :: OwnRow 33 1 (.slice (some kb) ks.length kc) ks.length (ks.map Kp.v) :: Arg W :: []) wr) (fun _ j _ => 70 - (intOf j).toNat)
              case atStart => exact ⟨0, Nat.zero_le _, rfl, by rw [List.replicate_zero, List.append_nil]; exact hf⟩
              case round =>
                clear hf hcell
                obtain ⟨n, hn, rfl, H⟩ := hrel
                by_cases hnl : n < 70
                · have gn : (n : Int) < 70 := by omega
                  go_wp2_with (first | (refine st_lit rfl _ _ _ rfl #[.int .u8 (((q : Int) + 50) % 256)] 5 1 H ?_ ?_; (go_simp); (clear H; intro gl w H K hK; replace H : At W (Grown 5 x u21 (x.len + n) (x.c.take x.len ++ List.replicate n (.int .u8 (((q : Int) + 50) % 256))) :: Blk gl _ :: _) w := H.sel 2 [1, 0]; go_simp))                | (refine st_grow rfl _ _ _ rfl 5 Try.underlying33 ?_ 1 ?_ (.int .u8 0) ?_ rfl x _ _ _ rfl H ⟨gl, 0, none⟩ 1 (.int .u8 (((q : Int) + 50) % 256)) rfl ?_ rfl ?_ ?_ ?_; (kernel_rfl); (kernel_rfl); (kernel_rfl); (exact cell_of_row _ gl 0 _ _ _ (H.get 1 rfl)); (simp only [maxLen]; omega); (omega); (clear H; intro v2 w H K hK; go_simp)))
                  go_roundw
                  case rel => exact ⟨n + 1, by omega, by go_num, by rw [List.replicate_succ', ← List.append_assoc, ← Nat.add_assoc]; exact H.sel 2 [0]⟩
                  case measure => simp [intOf]; omega
                · have gn : ¬ (n : Int) < 70 := by omega
                  have hn70 : n = 70 := by omega
                  obtain ⟨la, lc, hlv, _⟩ := grown_reads H (by omega)
                  subst hlv hn70
                  have H2 := H.pick 2 rfl
                  clear H
                  go_wp2_with (first | (refine st_lit rfl _ _ _ rfl #[.slice (some la) (x.len + 70) lc] 33 1 H2 ?_ ?_; (go_simp); (clear H2; intro gl w H K hK; replace H : At W (OwnRow 33 1 u19 q ls :: Blk gl _ :: _) w := H.sel 2 [1, 0]; go_simp))                | (refine st_append rfl _ _ _ rfl 33 Try.underlying56 1 ?_ 24 ?_ (.slice none 0 0) ?_ rfl _ _ _ rfl H (some ⟨gl, 0, none⟩) 1 1 [.slice (some la) (x.len + 70) lc] rfl rfl ?_ ?_ ?_ ?_ ?_; (kernel_rfl); (kernel_rfl); (kernel_rfl); (intro _; exact ⟨_, rfl, cell_part (H.get 1 rfl) (fun j u hj => by rw [Nat.zero_add]; simpa using hj)⟩); (intro u hu; simp at hu; rcases hu with rfl; rfl); (have e := Hkl.out; simp only [maxLen]; omega); (have e := Hkl.out; omega); (clear H; intro vk2 w H K hK; go_simp)))
                  go_roundw
                  case rel =>
                    refine ⟨q + 1, by omega, by go_num, _, _, Lib.hid (HL.out.next (l := .slice (some la) (x.len + 70) lc) Hx.out), ?_⟩
                    have h3 : At W (Grown 5 x (.slice (some la) (x.len + 70) lc) (x.len + 70) (x.c.take x.len ++ List.replicate 70 (.int .u8 (((q : Int) + 50) % 256))) :: Stars (M.eraseIdx q) :: OwnRow 33 1 _ (q + 1) (ls ++ [.slice (some la) (x.len + 70) lc]) :: DiskAt d ⟨2, s, some none, rd, wt⟩ :: Blk gi (.cells cl.toArray 5 (0, 0)) :: OwnRow 33 1 (.slice (some kb) ks.length kc) ks.length (ks.map Kp.v) :: Arg W :: []) w := H.sel 8 [2, 3, 0, 4, 5, 6, 7]
                    exact (stars_unfocus (by rw [HL.out.n, HW2.out.n]; exact hql) h3).pick 1 rfl
                  case measure => simp [intOf]; omega
            · have gq : ¬ (q : Int) < ks.length := by omega
              have hqk : q = ks.length := by omega
              have HL2 : Hid (Lg ks.length ks2 M ls) := Lib.hid (by rw [← hqk]; exact HL.out)
              replace H : At W (OwnRow 33 1 u19 ks.length ls :: Stars M :: DiskAt d ⟨2, s, some none, rd, wt⟩ :: Blk gi (.cells cl.toArray 5 (0, 0)) :: OwnRow 33 1 (.slice (some kb) ks.length kc) ks.length (ks.map Kp.v) :: Arg W :: []) wr := by rw [← hqk] at H ⊢; exact H
              obtain ⟨la, lc, hvl, lc1, lc2, _, lc3, _⟩ := own_value H
              obtain ⟨lb, rfl⟩ := lc3 (by have := HS.out.n; omega)
              subst hvl
              clear lc3 HL hqk
              obtain ⟨w3, rfl⟩ : ∃ w3 : World, w3 = wr := ⟨_, rfl⟩
              have H0 := H
              clear H
              go_wp2_with fail
              go_loopw [23] (fun i wr => ∃ p : Nat, p ≤ ks.length ∧ i = .int .i64 p ∧ At W (OwnRow 33 1 (.slice (some lb) ks.length lc) ks.length ls :: Stars M :: DiskAt d ⟨2, s, some none, rd, wt⟩ :: Blk gi (.cells cl.toArray 5 (0, 0)) :: OwnRow 33 1 (.slice (some kb) ks.length kc) ks.length (ks.map Kp.v) :: Arg W :: []) wr) (fun i _ => ks.length - (intOf i).toNat)
              case atStart => exact ⟨0, Nat.zero_le _, rfl, H0⟩
              case round =>
                clear H0
                obtain ⟨p, hp, rfl, H⟩ := hrel
                have Hkl4 := Hkl.out
                by_cases hpl : p < ks.length
                · have gp : (p : Int) < ks.length := by omega
                  obtain ⟨x, hx⟩ : ∃ x, ks2[p]? = some x := ⟨ks2[p]'(by rw [HW2.out.n]; exact hpl), by simp [HW2.out.n, hpl]⟩
                  have hxv : (ks.map Kp.v)[p]? = some (.slice (some ⟨x.g, 0, none⟩) x.len x.cap) := by rw [← HW2.out.v, List.getElem?_map, hx]; rfl
                  have hok := HW2.out.ok p x hx
                  have hsm := hok.small
                  have hall := HW2.out.all p x hx hpl
                  obtain ⟨lv, hlv, hM⟩ := HL2.out.done p x hx hpl
                  obtain ⟨ga, gc, rfl, gc1, gc2, hlong, hkeep⟩ := grown_reads (stars_focus (H.pick 1 rfl) hM) (by omega)
                  have hck := own_cell H 4 rfl hxv
                  have hcl := own_cell H 0 rfl hlv
                  have hle := hok.le
                  have hcc := hok.c
                  have Hc := Lib.hid (show ∀ j, j < x.len → wr.cell? ((⟨x.g, 0, none⟩ : Addr).add j) = some (.int .u8 (((p : Int) + 100) % 256)) ∧ wr.cell? (ga.add j) = some (.int .u8 (((p : Int) + 100) % 256)) from fun j hj => ⟨hkeep j _ hj (hall j hj), hlong j _ (by rw [List.getElem?_append_left (by rw [List.length_take]; omega), List.getElem?_take, if_pos hj]; exact hall j hj)⟩)
                  have Hd := Lib.hid (show ∀ j, x.len ≤ j → j < x.len + 70 → wr.cell? (ga.add j) = some (.int .u8 (((p : Int) + 50) % 256)) from fun j h1 h2 => hlong j _ (by rw [List.getElem?_append_right (by rw [List.length_take]; omega), List.length_take, List.getElem?_replicate, if_pos (by omega)]))
                  have hwp : IntKind.i64.wrap ((p : Int) + 50) = (p : Int) + 50 := IntWalk.i64_in _ (by omega)
                  have hwp2 : IntKind.i64.wrap ((p : Int) + 100) = (p : Int) + 100 := IntWalk.i64_in _ (by omega)
                  have Hck := Lib.hid hck
                  have Hcl := Lib.hid hcl
                  clear hxv hx hok hM hlong hkeep hall hck hcl hlv hle hcc
                  obtain ⟨w4, rfl⟩ : ∃ w4 : World, w4 = wr := ⟨_, rfl⟩
                  go_wp2_with fail
                  go_loopw [24] (fun j wr => ∃ n : Nat, n ≤ x.len + 70 ∧ j = .int .i64 n ∧ Ext w4 wr ∧ At W (OwnRow 33 1 (.slice (some lb) ks.length lc) ks.length ls :: Stars M :: DiskAt d ⟨2, s, some none, rd, wt⟩ :: Blk gi (.cells cl.toArray 5 (0, 0)) :: OwnRow 33 1 (.slice (some kb) ks.length kc) ks.length (ks.map Kp.v) :: Arg W :: []) wr) (fun j _ => x.len + 70 - (intOf j).toNat)
                  case atStart => exact ⟨0, Nat.zero_le _, rfl, Ext.refl _, H⟩
                  case round =>
                    clear H
                    obtain ⟨n, hn, rfl, HE, H⟩ := hrel
                    have c1 := HE.cell Hck.out
                    have c2 := HE.cell Hcl.out
                    have He := Lib.hid HE
                    clear HE
                    by_cases hnl : n < x.len + 70
                    · have gn : (n : Int) < x.len + 70 := by omega
                      by_cases hnx : n < x.len
                      · have gx : (n : Int) < x.len := by omega
                        have c3 : wr.cell? ⟨x.g, n, none⟩ = some (.int .u8 (((p : Int) + 100) % 256)) := by
                          have h := He.out.cell (Hc.out n hnx).1
                          rwa [Addr.add_lit, Nat.zero_add] at h
                        have c4 := He.out.cell (Hc.out n hnx).2
                        go_wp2_with (first | (refine st_load1 rfl _ _ rfl _ rfl ?_ c1 ?_; (kernel_rfl); (intro K hK; go_simp)) | (refine st_load1 rfl _ _ rfl _ rfl ?_ c2 ?_; (kernel_rfl); (intro K hK; go_simp)) | (refine st_load1 rfl _ _ rfl _ rfl ?_ c3 ?_; (kernel_rfl); (intro K hK; go_simp)) | (refine st_load1 rfl _ _ rfl _ rfl ?_ c4 ?_; (kernel_rfl); (intro K hK; go_simp)))
                        go_roundw
                        case rel => exact ⟨n + 1, by omega, by go_num, He.out, H⟩
                        case measure => simp [intOf]; omega
                      · have gx : ¬ (n : Int) < x.len := by omega
                        have gx2 : (x.len : Int) ≤ n := by omega
                        have c4 := He.out.cell (Hd.out n (by omega) hnl)
                        go_wp2_with (first | (refine st_load1 rfl _ _ rfl _ rfl ?_ c1 ?_; (kernel_rfl); (intro K hK; go_simp)) | (refine st_load1 rfl _ _ rfl _ rfl ?_ c2 ?_; (kernel_rfl); (intro K hK; go_simp)) | (refine st_load1 rfl _ _ rfl _ rfl ?_ c4 ?_; (kernel_rfl); (intro K hK; go_simp)))
                        go_roundw
                        case rel => exact ⟨n + 1, by omega, by go_num, He.out, H⟩
                        case measure => simp [intOf]; omega
                    · have gn : ¬ (n : Int) < x.len + 70 := by omega
                      go_wp2_with (first | (refine st_load1 rfl _ _ rfl _ rfl ?_ c1 ?_; (kernel_rfl); (intro K hK; go_simp)) | (refine st_load1 rfl _ _ rfl _ rfl ?_ c2 ?_; (kernel_rfl); (intro K hK; go_simp)))
                      go_roundw
                      case rel => exact ⟨p + 1, by omega, by go_num, H⟩
                      case measure => simp [intOf]; omega
                · have gp : ¬ (p : Int) < ks.length := by omega
                  replace H : At W (DiskAt d ⟨2, s, some none, rd, wt⟩ :: Blk gi (.cells cl.toArray 5 (0, 0)) :: Arg W :: []) wr := H.sel 6 [2, 3, 5]
                  have hmy : mayE ⟨2, s, some none, rd, wt⟩ 1 = 0 := mayE_in rfl (by decide) (by show (1 : Int) < 2; decide)
                  have Hmy := Lib.hid hmy
                  have Hlen := Lib.hid HS.out.len
                  clear hmy
                  go_wp2_with fail
                  refine (read_yes H 1 Hmy.out).mono ?_
                  rintro e w ⟨gx, rfl, H⟩
                  replace H : At W (DiskAt d ⟨2, s, some none, wrap64 (rd + 1), wt⟩ :: Blk gx (.cells (bv (s 1)).toArray 77 (0, 0)) :: Blk gi (.cells cl.toArray 5 (0, 0)) :: Arg W :: []) w := H.sel 2 [1, 0]
                  have hic := HS.out.ic
                  have him := HS.out.im
                  have hl0 := HS.out.len 0
                  have hl1 := HS.out.len 1
                  have hget : ∀ (j : Nat) (v : Value), (bv (s 0 ++ s 1))[j]? = some v → cl.toArray[j]? = some v := fun j v hj => by
                    rw [← him, List.getElem?_take] at hj
                    rw [List.getElem?_toArray]
                    split at hj
                    · exact hj
                    · cases hj
                  have hX : Reads (Blk gx (.cells (bv (s 1)).toArray 77 (0, 0))) (.slice (some ⟨gx, 0, none⟩) 512 512) (s 1) := reads_full hl1 (by decide)
                  have hY : Reads (Blk gi (.cells cl.toArray 5 (0, 0))) (.slice (some ⟨gi, 512, none⟩) 512 (ci - 512)) (s 1) := by
                    have h := reads_blk (g := gi) (off := 512) (t := 5) (fr := (0, 0)) (c := cl.toArray) (l := s 1) (cap := ci - 512) (fun j v hj => hget _ v (by
                      rw [bv_append, List.getElem?_append_right (by rw [length_bv, hl0]; omega), length_bv, hl0, Nat.add_sub_cancel_left]
                      exact hj)) (by omega) (by omega)
                    rwa [hl1] at h
                  have hl2 : (s 0 ++ s 1).length = 1024 := by rw [List.length_append, hl0, hl1]
                  have hI2 : Reads (Blk gi (.cells cl.toArray 5 (0, 0))) (.slice (some ⟨gi, 0, none⟩) 1024 ci) (s 0 ++ s 1) := by
                    have h := reads_blk (g := gi) (off := 0) (t := 5) (fr := (0, 0)) (c := cl.toArray) (l := s 0 ++ s 1) (cap := ci) (fun j v hj => by rw [Nat.zero_add]; exact hget j v hj) (by omega) (by omega)
                    rwa [hl2] at h
                  clear hget him hic hl0 hl1 hl2
                  have HX := Lib.hid hX
                  have HY := Lib.hid hY
                  have HI2 := Lib.hid hI2
                  clear hX hY hI2
                  have hci2 : ¬ (ci = 512) := by omega
                  go_wp2_with fail
                  refine (same H (HX.out.at_ H 1 rfl) (HY.out.at_ H 2 rfl)).mono ?_
                  rintro e w ⟨rfl, H⟩
                  rw [beq_self_eq_true]
                  go_wp2_with fail
                  refine (image (by show (1 : Int) ≤ 2; decide) (by show (2 : Int) ≤ 65536; decide) Hlen.out H).mono ?_
                  rintro e w ⟨z, rfl, H⟩
                  replace H : At W (OwnRow 5 1 z 1024 (bv (img s 2)) :: DiskAt d ⟨2, s, some none, wrap64 (rd + 1), wt⟩ :: Blk gx (.cells (bv (s 1)).toArray 77 (0, 0)) :: Blk gi (.cells cl.toArray 5 (0, 0)) :: Arg W :: []) w := H
                  have hZ : Reads (OwnRow 5 1 z 1024 (bv (img s 2))) z (img s 2) := reads_own_n (len_img Hlen.out 2)
                  have HZ := Lib.hid hZ
                  clear hZ
                  go_wp2_with fail
                  refine (same H (HZ.out.at_ H 0 rfl) (HI2.out.at_ H 3 rfl)).mono ?_
                  rintro e w ⟨rfl, H⟩
                  rw [img_two, beq_self_eq_true]
                  go_wp2_with fail
                  go_ret
                  exact ⟨rfl, H.below 4 rfl⟩
end
end diskOwn
end Go.Proofs.Ytbbkfneafonmiaa
