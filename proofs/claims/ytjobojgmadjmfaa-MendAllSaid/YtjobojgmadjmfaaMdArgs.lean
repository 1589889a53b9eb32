/-
  What the arguments of mend's statements read as.
-/
import Derived.Test.YtjobojgmadjmfaaEng
import Derived.Test.YtjobojgmadjmfaaMdTwo
namespace Go.Proofs.Ytjobojgmadjmfaa
open Go.Hp Go.RowKit Go.ChangeShapes Go.Deep
set_option linter.unusedVariables false
set_option linter.unusedSimpArgs false
set_option maxRecDepth 100000
set_option maxHeartbeats 1000000
namespace Md

def i64K : Sh := .ck (.int .i64)
def msgSh : List Sh := [i64K, .ck .bool, i64K, .ck .bool, i64K, i64K, i64K, i64K, i64K, i64K, i64K, i64K, i64K, i64K, i64K, .bytes, i64K, i64K, i64K, .ck .str, i64K, i64K, i64K, i64K, i64K, i64K, .recs entK 40, .recs lastK 56, .recs cmdK 80, .ck .bool]
def heldSh : List Sh := [i64K, i64K, .bytes, i64K, .recs entK 40, .recs lastK 56, .recs placeK 128]
theorem sh39 : shT Try.prog 9 39 = some msgSh := by kernel_rfl
theorem sh44 : shT Try.prog 9 44 = some heldSh := by kernel_rfl

theorem i64_of {n : Int} (h : IntKind.i64 = .i64 → I64 n) : In64 n := h rfl

def boolOf (v : Value) : Bool := match v with | .bool b => b | _ => false

/-- The place of those cells. -/
def plOf (r : List Value) : Pl := ⟨intOf (r.getD 0 undef), (r.drop 1).take 4, (r.drop 5).take 9, boolOf (r.getD 14 undef)⟩

theorem pl_cells {r : List Value} (h : FitsR placeK r) : (plOf r).cells = r ∧ (plOf r).Ok := by
  obtain ⟨n, hn, i64n⟩ : ∃ n, r.head? = some (.int .i64 n) ∧ In64 n := by
    cases r with
    | nil => exact h.elim
    | cons v vs => obtain ⟨⟨n, rfl, q⟩, _⟩ := h; exact ⟨n, rfl, i64_of q⟩
  have hf := h.fits
  cases r with
  | nil => exact h.elim
  | cons v vs =>
    obtain rfl : v = .int .i64 n := by simpa using hn
    obtain ⟨us, bs, rfl, f1, f2⟩ := Fits.split (ks := paK) hf.2
    obtain ⟨cs, ds, rfl, f3, f4⟩ := Fits.split (ks := cmdK) f2
    cases ds with
    | nil => exact f4.elim
    | cons d ds =>
      cases ds with
      | cons _ _ => exact f4.2.elim
      | nil =>
        obtain ⟨b, rfl⟩ := f4.1
        have l1 : us.length = 4 := f1.len
        have l2 : cs.length = 9 := f3.len
        have e : plOf (.int .i64 n :: (us ++ (cs ++ [.bool b]))) = ⟨n, us, cs, b⟩ := by
          unfold plOf
          have e1 : (List.drop 1 (Value.int .i64 n :: (us ++ (cs ++ [.bool b])))).take 4 = us := by
            rw [List.drop_succ_cons, List.drop_zero, ← l1, List.take_left']
            rfl
          have e2 : (List.drop 5 (Value.int .i64 n :: (us ++ (cs ++ [.bool b])))).take 9 = cs := by
            rw [List.drop_succ_cons, List.drop_left' l1, ← l2, List.take_left']
            rfl
          have e3 : (Value.int .i64 n :: (us ++ (cs ++ [.bool b]))).getD 14 undef = .bool b := by
            rw [List.getD_eq_getElem?_getD, List.getElem?_cons_succ, List.getElem?_append_right (by omega), List.getElem?_append_right (by omega), l1, l2]
            rfl
          rw [e1, e2, e3]
          rfl
        rw [e]
        exact ⟨rfl, i64n, f1, f3⟩

section
variable {W : World} {B : Nat} {ss : List Sh} {cs : List Value}
theorem sh_int (h : ShFits W B (i64K :: ss) cs) : ∃ n vs, cs = .int .i64 n :: vs ∧ In64 n ∧ ShFits W B ss vs := by
  cases cs with
  | nil => exact h.elim
  | cons v vs => obtain ⟨⟨n, rfl, q⟩, h2⟩ := h; exact ⟨n, vs, rfl, i64_of q, h2⟩
theorem sh_bool (h : ShFits W B (.ck .bool :: ss) cs) : ∃ b vs, cs = .bool b :: vs ∧ ShFits W B ss vs := by
  cases cs with
  | nil => exact h.elim
  | cons v vs => obtain ⟨⟨b, rfl⟩, h2⟩ := h; exact ⟨b, vs, rfl, h2⟩
theorem sh_str (h : ShFits W B (.ck .str :: ss) cs) : ∃ b vs, cs = .string b :: vs ∧ ShFits W B ss vs := by
  cases cs with
  | nil => exact h.elim
  | cons v vs => obtain ⟨⟨b, rfl⟩, h2⟩ := h; exact ⟨b, vs, rfl, h2⟩
theorem sh_bytes (h : ShFits W B (.bytes :: ss) cs) : ∃ v vs, cs = v :: vs ∧ (∃ l : List UInt8, RowAt W v l.length (bv l) ∧ l.length ≤ B) ∧ ShFits W B ss vs := by
  cases cs with
  | nil => exact h.elim
  | cons v vs => exact ⟨v, vs, rfl, h.1, h.2⟩
theorem sh_recs {ks : List Ck} {b : Nat} (h : ShFits W B (.recs ks b :: ss) cs) : ∃ v vs, cs = v :: vs ∧ (∃ rs : List (List Value), RecsAt W v ks.length rs ∧ (∀ r ∈ rs, FitsR ks r) ∧ rs.length * b ≤ B) ∧ ShFits W B ss vs := by
  cases cs with
  | nil => exact h.elim
  | cons v vs => exact ⟨v, vs, rfl, h.1, h.2⟩
theorem sh_nil (h : ShFits W B [] cs) : cs = [] := by
  cases cs with
  | nil => rfl
  | cons v vs => exact h.elim
end

variable {H : Type} {enc : TypeId × Value → H} {W : World}

theorem sh_arg {t : TypeId} {ss : List Sh} {fs : Array Field} (ht : Try.prog.underlying t = some (.struct fs)) (hs : shT Try.prog 9 t = some ss) {base : Nat} {v : Value} {d : DataW H} {p : List MemPlace} (hv : Value.okWide Try.prog W .any base t v) (h : DataW.Trod enc Try.prog W 0 (fun _ => true) true t v d p) (hw : ((d.weights Try.prog t).all (· ≤ reachBytes)) = true) :
    ∃ cs : List Value, v = .agg cs.toArray ∧ ShFits W reachBytes ss cs := by
  obtain ⟨cs, rfl, hl⟩ := Go.WideShapes.okWide_struct ht hv
  obtain ⟨fuel, hf⟩ := h
  have := sh_trod (B := reachBytes) 9 t ss hs _ _ _ hf hw
  exact ⟨cs.toList, by simp, this⟩

/-- A message that is handed in. -/
structure MsgArg (W : World) (v : Value) (m : Mg) (vb ve vl vc : Value) : Prop where
  v : v = .agg (mgV m vb ve vl vc)
  lists : MgAt W m vb ve vl vc
  ok : m.Ok
  bb : m.blk.length ≤ 140737488355328
  be : m.ents.length * 40 ≤ 140737488355328
  bl : m.lasts.length * 56 ≤ 140737488355328
  bc : m.cmds.length * 80 ≤ 140737488355328

/-- What is held, handed in. -/
structure HeldArg (W : World) (v : Value) (h : Hd) (vd ve vl vr : Value) : Prop where
  v : v = .agg (hdV h vd ve vl vr)
  lists : HdAt W h vd ve vl vr
  ok : h.Ok
  bd : h.data.length ≤ 140737488355328
  be : h.ents.length * 40 ≤ 140737488355328
  bl : h.lasts.length * 56 ≤ 140737488355328
  br : h.row.length * 128 ≤ 140737488355328

theorem reach_le {n : Nat} (h : n ≤ reachBytes) : n ≤ 140737488355328 := Nat.le_trans h (by decide)

theorem arg_Msg {base : Nat} {v : Value} {d : DataW H} {p : List MemPlace} (hv : Value.okWide Try.prog W .any base 39 v) (h : DataW.Trod enc Try.prog W 0 (fun _ => true) true 39 v d p) (hw : ((d.weights Try.prog 39).all (· ≤ reachBytes)) = true) :
    ∃ x : Mg × Value × Value × Value × Value, MsgArg W v x.1 x.2.1 x.2.2.1 x.2.2.2.1 x.2.2.2.2 := by
  obtain ⟨cs0, rfl, hf0⟩ := sh_arg Try.underlying39 sh39 hv h hw
  obtain ⟨k, cs1, rfl, qk, hf1⟩ := sh_int hf0
  obtain ⟨fc, cs2, rfl, hf2⟩ := sh_bool hf1
  obtain ⟨fi, cs3, rfl, q1, hf3⟩ := sh_int hf2
  obtain ⟨tc, cs4, rfl, hf4⟩ := sh_bool hf3
  obtain ⟨ti, cs5, rfl, q2, hf5⟩ := sh_int hf4
  obtain ⟨op, cs6, rfl, q3, hf6⟩ := sh_int hf5
  obtain ⟨rd, cs7, rfl, q4, hf7⟩ := sh_int hf6
  obtain ⟨kk, cs8, rfl, q5, hf8⟩ := sh_int hf7
  obtain ⟨ka, cs9, rfl, q6, hf9⟩ := sh_int hf8
  obtain ⟨kb, cs10, rfl, q7, hf10⟩ := sh_int hf9
  obtain ⟨kc, cs11, rfl, q8, hf11⟩ := sh_int hf10
  obtain ⟨sn, cs12, rfl, q9, hf12⟩ := sh_int hf11
  obtain ⟨sc, cs13, rfl, q10, hf13⟩ := sh_int hf12
  obtain ⟨hn, cs14, rfl, q11, hf14⟩ := sh_int hf13
  obtain ⟨hc, cs15, rfl, q12, hf15⟩ := sh_int hf14
  obtain ⟨vb, cs16, rfl, ⟨blk, hb1, hb2⟩, hf16⟩ := sh_bytes hf15
  obtain ⟨xk, cs17, rfl, -, hf17⟩ := sh_int hf16
  obtain ⟨xcl, cs18, rfl, -, hf18⟩ := sh_int hf17
  obtain ⟨xop, cs19, rfl, -, hf19⟩ := sh_int hf18
  obtain ⟨xnm, cs20, rfl, hf20⟩ := sh_str hf19
  obtain ⟨xf1, cs21, rfl, -, hf21⟩ := sh_int hf20
  obtain ⟨xf2, cs22, rfl, -, hf22⟩ := sh_int hf21
  obtain ⟨xn1, cs23, rfl, -, hf23⟩ := sh_int hf22
  obtain ⟨xn2, cs24, rfl, -, hf24⟩ := sh_int hf23
  obtain ⟨xsz, cs25, rfl, -, hf25⟩ := sh_int hf24
  obtain ⟨upto, cs26, rfl, q13, hf26⟩ := sh_int hf25
  obtain ⟨ve, cs27, rfl, ⟨es, he1, he2, he3⟩, hf27⟩ := sh_recs hf26
  obtain ⟨vl, cs28, rfl, ⟨ls, hl1, hl2, hl3⟩, hf28⟩ := sh_recs hf27
  obtain ⟨vc, cs29, rfl, ⟨cmds, hc1, hc2, hc3⟩, hf29⟩ := sh_recs hf28
  obtain ⟨more, cs30, rfl, hf30⟩ := sh_bool hf29
  obtain rfl := sh_nil hf30
  exact ⟨(⟨k, fc, fi, tc, ti, op, rd, kk, ka, kb, kc, sn, sc, hn, hc, blk, ⟨xk, xcl, xop, xnm, xf1, xf2, xn1, xn2, xsz⟩, upto, es, ls, cmds, more⟩, vb, ve, vl, vc), rfl, ⟨hb1, he1, hl1, hc1⟩,
    ⟨qk, q1, q2, q3, q4, q5, q6, q7, q8, q9, q10, q11, q12, q13, fun r hr => (he2 r hr).fits, fun r hr => (hl2 r hr).fits, fun r hr => (hc2 r hr).fits⟩, reach_le hb2, reach_le he3, reach_le hl3, reach_le hc3⟩

theorem arg_RHeld {base : Nat} {v : Value} {d : DataW H} {p : List MemPlace} (hv : Value.okWide Try.prog W .any base 44 v) (h : DataW.Trod enc Try.prog W 0 (fun _ => true) true 44 v d p) (hw : ((d.weights Try.prog 44).all (· ≤ reachBytes)) = true) :
    ∃ x : Hd × Value × Value × Value × Value, HeldArg W v x.1 x.2.1 x.2.2.1 x.2.2.2.1 x.2.2.2.2 := by
  obtain ⟨cs0, rfl, hf0⟩ := sh_arg Try.underlying44 sh44 hv h hw
  obtain ⟨sn, cs1, rfl, q1, hf1⟩ := sh_int hf0
  obtain ⟨sc, cs2, rfl, q2, hf2⟩ := sh_int hf1
  obtain ⟨vd, cs3, rfl, ⟨data, hd1, hd2⟩, hf3⟩ := sh_bytes hf2
  obtain ⟨upto, cs4, rfl, q3, hf4⟩ := sh_int hf3
  obtain ⟨ve, cs5, rfl, ⟨es, he1, he2, he3⟩, hf5⟩ := sh_recs hf4
  obtain ⟨vl, cs6, rfl, ⟨ls, hl1, hl2, hl3⟩, hf6⟩ := sh_recs hf5
  obtain ⟨vr, cs7, rfl, ⟨rs, hr1, hr2, hr3⟩, hf7⟩ := sh_recs hf6
  obtain rfl := sh_nil hf7
  have e : (rs.map plOf).map Pl.cells = rs := by
    rw [List.map_map]
    conv => rhs; rw [← List.map_id rs]
    apply List.map_congr_left
    intro r hr
    exact (pl_cells (hr2 r hr)).1
  exact ⟨(⟨sn, sc, data, upto, es, ls, rs.map plOf⟩, vd, ve, vl, vr), rfl, ⟨hd1, he1, hl1, by rw [e]; exact hr1⟩,
    ⟨q1, q2, q3, fun r hr => (he2 r hr).fits, fun r hr => (hl2 r hr).fits, fun p hp => by
      obtain ⟨r, hr, rfl⟩ := List.mem_map.1 hp
      exact (pl_cells (hr2 r hr)).2⟩, reach_le hd2, reach_le he3, reach_le hl3, reach_le (by rw [List.length_map]; exact hr3)⟩
end Md
end Go.Proofs.Ytjobojgmadjmfaa
