/-
  Rows of answers: the row, and the lists that its answers hold.
-/
import Derived.Test.YtcofcikdknmggaaBkAln
namespace Go.Proofs.Ytcofcikdknmggaa
open Go.Hp Go.RowKit
set_option linter.unusedVariables false
set_option linter.unusedSimpArgs false
set_option maxRecDepth 100000
set_option maxHeartbeats 2000000
namespace Bk

theorem bytes41 : bytesT Try.prog 41 = some 72 := by kernel_rfl
def anC (x : An × Value) : List Value := [.int .i64 x.1.err, .string x.1.e.nm, .int .i64 x.1.e.fc, .int .i64 x.1.e.fo, .int .i64 x.1.e.sz, x.2]
def ansC (xs : List (An × Value)) : List Value := (xs.map anC).flatten
/-- The lists that answers hold. -/
def Pool : List (An × Value) → HProp
  | [] => emp
  | x :: t => Stars [OE x.2 x.1.l, Pool t]
/-- A row of answers. -/
def AnsRow (v : Value) (aa : List An) : HProp := fun hp => ∃ xs : List (An × Value), xs.map Prod.fst = aa ∧ Stars [OwnRow 41 6 v xs.length (ansC xs), Pool xs] hp

theorem ansC_app (a b : List (An × Value)) : ansC (a ++ b) = ansC a ++ ansC b := by unfold ansC; simp
theorem ansC_len (xs : List (An × Value)) : (ansC xs).length = xs.length * 6 := by
  unfold ansC
  rw [flat_len (size := 6) (by intro r hr; obtain ⟨e, _, rfl⟩ := List.mem_map.1 hr; rfl), List.length_map]
theorem ansC_get {xs : List (An × Value)} {k : Nat} {x : An × Value} (hx : xs[k]? = some x) : ∀ j u, (anC x)[j]? = some u → (ansC xs)[k * 6 + j]? = some u := by
  intro j u hj
  have hk := (List.getElem?_eq_some_iff.1 hx).1
  have hj6 : j < 6 := (List.getElem?_eq_some_iff.1 hj).1
  have e : ansC xs = ansC (xs.take k) ++ (anC x ++ ansC (xs.drop (k + 1))) := by
    have h1 : xs = xs.take k ++ x :: xs.drop (k + 1) := by
      conv => lhs; rw [← List.take_append_drop k xs]
      rw [List.drop_eq_getElem_cons hk]
      rw [List.getElem?_eq_getElem hk] at hx
      cases hx
      rfl
    conv => lhs; rw [h1, ansC_app]
    congr 1
  have hl : (ansC (xs.take k)).length = k * 6 := by rw [ansC_len, List.length_take, Nat.min_eq_left (by omega)]
  rw [e, List.getElem?_append_right (by omega), hl, Nat.add_sub_cancel_left, List.getElem?_append_left hj6]
  exact hj

section
variable {w0 w W : World} {L : List HProp}

theorem pool_get : ∀ {xs : List (An × Value)} {k : Nat} {x : An × Value} {L : List HProp}, xs[k]? = some x → At w0 (Pool xs :: L) w → RecsAt w x.2 4 (x.1.l.map En.cells)
  | [], k, x, L, hx, _ => by simp at hx
  | y :: t, 0, x, L, hx, H => by
    simp at hx
    subst hx
    have H1 : At w0 (OE y.2 y.1.l :: Pool t :: L) w := At.flat H
    exact oe_recs H1
  | y :: t, k + 1, x, L, hx, H => by
    have H1 : At w0 (OE y.2 y.1.l :: Pool t :: L) w := At.flat H
    exact pool_get (k := k) (by simpa using hx) (H1.pick 1 rfl)
theorem pool_app : ∀ {p q : List (An × Value)} {L : List HProp}, At w0 (Pool p :: Pool q :: L) w → At w0 (Pool (p ++ q) :: L) w
  | [], q, L, H => H.drop
  | y :: t, q, L, H => by
    have H1 : At w0 (OE y.2 y.1.l :: Pool t :: Pool q :: L) w := At.flat H
    have H2 : At w0 (Pool (t ++ q) :: OE y.2 y.1.l :: L) w := pool_app (H1.sel (L.length + 3) (1 :: 2 :: 0 :: (List.range L.length).map (· + 3)) |> fun _ => H1.perm (List.Perm.trans (List.Perm.swap _ _ _) (List.Perm.cons _ (List.Perm.swap _ _ _))))
    exact At.fold (M := [_, _]) (H2.perm (List.Perm.swap _ _ _))
theorem pool_one {a : An} {v : Value} (H : At w0 (OE v a.l :: L) w) : At w0 (Pool [(a, v)] :: L) w :=
  At.fold (M := [_, _]) (H.addEmp.perm (List.Perm.swap _ _ _))

theorem ansrow_nil (H : At w0 L w) : At w0 (AnsRow (.slice none 0 0) [] :: L) w := by
  have H1 : At w0 (OwnRow 41 6 (.slice none 0 0) ([] : List (An × Value)).length (ansC []) :: Pool [] :: L) w := own_nil H.addEmp 41 6
  exact At.imp (At.fold (M := [_, _]) H1) fun _ hh => ⟨[], rfl, hh⟩
theorem ansrow_open {v : Value} {aa : List An} (H : At w0 (AnsRow v aa :: L) w) : ∃ xs : List (An × Value), xs.map Prod.fst = aa ∧ At w0 (OwnRow 41 6 v xs.length (ansC xs) :: Pool xs :: L) w := by
  obtain ⟨xs, H1⟩ := At.ex H
  obtain ⟨h1, H2⟩ := At.and H1
  exact ⟨xs, h1, At.flat H2⟩
theorem ansrow_mk {v : Value} {xs : List (An × Value)} (H : At w0 (OwnRow 41 6 v xs.length (ansC xs) :: Pool xs :: L) w) : At w0 (AnsRow v (xs.map Prod.fst) :: L) w :=
  At.imp (At.fold (M := [_, _]) H) fun _ hh => ⟨xs, rfl, hh⟩
theorem ansrow_form {v : Value} {aa : List An} (H : At w0 (AnsRow v aa :: L) w) : ∃ ad n cap, v = .slice ad n cap ∧ n = aa.length := by
  obtain ⟨xs, h1, H2⟩ := ansrow_open H
  obtain ⟨ad, cap, hv, _⟩ := own_value H2
  exact ⟨ad, _, cap, hv, by rw [← h1, List.length_map]⟩

/-- One of a row's answers, as it stands. -/
theorem ansrow_get {v : Value} {aa : List An} (H : At w0 (AnsRow v aa :: L) w) {k : Nat} {a : An} (ha : aa[k]? = some a) : ∃ (b : Addr) (cap : Nat) (u : Value), v = .slice (some b) aa.length cap ∧ RecsAt w u 4 (a.l.map En.cells) ∧
    (∀ j x, (anC (a, u))[j]? = some x → w.cell? ((b.add (k * 6)).add j) = some x) := by
  obtain ⟨xs, h1, H2⟩ := ansrow_open H
  subst h1
  rw [List.getElem?_map] at ha
  obtain ⟨x, hx, rfl⟩ := Option.map_eq_some_iff.1 ha
  have hk := (List.getElem?_eq_some_iff.1 hx).1
  obtain ⟨ad, cap, hv, _, _, _, h5, h6⟩ := own_value H2
  obtain ⟨b, rfl⟩ := h5 (by omega)
  refine ⟨b, cap, x.2, by rw [List.length_map]; exact hv, pool_get hx (H2.pick 1 rfl), fun j u hj => ?_⟩
  rw [Addr.add_add]
  exact h6 b rfl _ u (ansC_get hx j u hj)

theorem sameAs {v1 v2 : Value} {aa : List An} (hb : ∀ a ∈ aa, a.l.length ≤ 140737488355328) (hl : aa.length ≤ 140737488355328) (H : At w0 (AnsRow v1 aa :: AnsRow v2 aa :: L) w) :
    Calls Try.prog 23 #[v1, v2] w (fun e w' => e = .returned (.bool true) ∧ At w0 (AnsRow v1 aa :: AnsRow v2 aa :: L) w') := by
  obtain ⟨ad1, n1, cap1, rfl, h1⟩ := ansrow_form H
  obtain ⟨ad2, n2, cap2, rfl, h2⟩ := ansrow_form (H.pick 1 rfl)
  subst h1 h2
  have HB := Lib.hid hb
  clear hb
  go_enter Try.func23, Try.ntmps23
  go_wp2_with fail
  go_loopw [5] (fun i wr => ∃ k : Nat, k ≤ aa.length ∧ i = .int .i64 k ∧ At w0 (AnsRow (.slice ad1 aa.length cap1) aa :: AnsRow (.slice ad2 aa.length cap2) aa :: L) wr) (fun i _ => aa.length - (intOf i).toNat)
  case atStart => exact ⟨0, Nat.zero_le _, rfl, H⟩
  case round =>
    clear H
    obtain ⟨k, hk, rfl, H⟩ := hrel
    by_cases hlt : k < aa.length
    · have g1 : (k : Int) < aa.length := by omega
      obtain ⟨a, ha⟩ : ∃ a, aa[k]? = some a := ⟨_, List.getElem?_eq_getElem hlt⟩
      have hba := HB.out a (List.mem_of_getElem? ha)
      obtain ⟨b1, c1, u1, hv1, R1, C1⟩ := ansrow_get H ha
      obtain ⟨b2, c2, u2, hv2, R2, C2⟩ := ansrow_get (H.pick 1 rfl) ha
      cases hv1
      cases hv2
      obtain ⟨er, ⟨xn, xf, xo, xs⟩, al⟩ := a
      dsimp only [anC] at C1 C2 hba R1 R2
      have D1 := Lib.hid C1
      have D2 := Lib.hid C2
      have E1 := Lib.hid R1
      have E2 := Lib.hid R2
      have Hs := Lib.hid (show sizeT Try.prog 41 = some 6 from s41)
      obtain ⟨W, hW⟩ : ∃ W : World, W = wr := ⟨_, rfl⟩
      subst hW
      have HF := At.of W
      have H0 := Lib.hid H
      clear ha C1 C2 R1 R2 H
      go_wp2_with fail
      apply wp_region_eff [] (fun i => (#[[], [], [], [], [], [], [], [], [], []] : Array (List Nat)).getD i []) (fun val i => (([_, _, _, .agg #[.int .i64 er, .string xn, .int .i64 xf, .int .i64 xo, .int .i64 xs, u1], _, _, _, .agg #[.int .i64 er, .string xn, .int .i64 xf, .int .i64 xo, .int .i64 xs, u2], _, _]) : List Value).toArray.getD i undef) (fun E val => At W (Arg W :: [])) (by kernel_rfl) (by kernel_rfl) (by kernel_rfl) (by kernel_rfl) (HF)
      case step =>
        iterate 10 (refine ⟨eff_pl rfl (fun _ => by rfl) fun E val hn T ds w K H hk ho hK => ?_, ?_⟩; rotate_left)
        exact trivial
        · have o0 := ho 0 (by kernel_rfl); clear ho; simp [know, dstAt, Region.binds] at hk o0; go_simp; exact hK _ H
        · have o5 := ho 5 (by kernel_rfl); clear ho; simp [know, dstAt, Region.binds] at hk o5; go_simp; exact hK _ H
        · clear ho; simp [know, dstAt, Region.binds] at hk; go_simp; exact hK _ H
        · clear ho; simp [know, dstAt, Region.binds] at hk
          first | (refine op_cellsT (vs := [.int .i64 er, .string xn, .int .i64 xf, .int .i64 xo, .int .i64 xs, u1]) rfl hk a41 Hs.out (fun j u hj => (H.ext 0 rfl).cell (D1.out j u hj)) ?_; exact hK _ H) | (refine op_cellsT (vs := [.int .i64 er, .string xn, .int .i64 xf, .int .i64 xo, .int .i64 xs, u2]) rfl hk a41 Hs.out (fun j u hj => (H.ext 0 rfl).cell (D2.out j u hj)) ?_; exact hK _ H)
        · have o1 := ho 1 (by kernel_rfl); clear ho; simp [know, dstAt, Region.binds] at hk o1; go_simp; exact hK _ H
        · have o5 := ho 5 (by kernel_rfl); clear ho; simp [know, dstAt, Region.binds] at hk o5; go_simp; exact hK _ H
        · clear ho; simp [know, dstAt, Region.binds] at hk; go_simp; exact hK _ H
        · clear ho; simp [know, dstAt, Region.binds] at hk
          first | (refine op_cellsT (vs := [.int .i64 er, .string xn, .int .i64 xf, .int .i64 xo, .int .i64 xs, u1]) rfl hk a41 Hs.out (fun j u hj => (H.ext 0 rfl).cell (D1.out j u hj)) ?_; exact hK _ H) | (refine op_cellsT (vs := [.int .i64 er, .string xn, .int .i64 xf, .int .i64 xo, .int .i64 xs, u2]) rfl hk a41 Hs.out (fun j u hj => (H.ext 0 rfl).cell (D2.out j u hj)) ?_; exact hK _ H)
        · clear ho; simp [know, dstAt, Region.binds] at hk
          (go_simp; refine (sameA (a := ⟨er, ⟨xn, xf, xo, xs⟩, al⟩) (E1.out.ext (H.ext 0 rfl)) (E2.out.ext (H.ext 0 rfl)) hba H).mono ?_; rintro e w' ⟨rfl, H⟩; exact hK _ H)
        · clear ho; simp [know, dstAt, Region.binds] at hk; go_simp; exact hK _ H
      case ins =>
        iterate 10 (refine ⟨ins_pl rfl (fun _ _ _ => rfl), ?_⟩)
        exact trivial
      case jns =>
        iterate 10 (refine ⟨j_pl (fun _ _ _ => rfl), ?_⟩)
        exact trivial
      case fin =>
        intro E val w5 hE H
        clear HF hE
        have HF := H
        clear H
        simp [putAll, Act.put]
        go_wp2_with fail
        go_roundw
        case rel => exact ⟨k + 1, by omega, rfl, HF.lift0 H0.out⟩
        case measure => simp [intOf]; omega
    · have g1 : ¬ (k : Int) < aa.length := by omega
      go_wp2_with fail
      go_ret
      exact ⟨rfl, H⟩
end
end Bk
end Go.Proofs.Ytcofcikdknmggaa
