/-
  CoordTwice, whole: for every limit, acts and message the law returns true and changes nothing that was there. No condition.
-/
import Derived.Test.YtogjjkbgagedpaaCoGV
import Derived.Test.YtogjjkbgagedpaaLaw
import Derived.Test.YtogjjkbgagedpaaRows
namespace Go.Proofs.Ytogjjkbgagedpaa.coordTwice
open Go.ChangeShapes Go.WideShapes Go.ChangeAt Go.RowKit Go.Maps Go.My Go.ChangeMaps coords coordg
set_option maxRecDepth 100000

theorem laidOut : laidOutB Try.prog = true := by kernel_rfl
theorem own : ownKnob Try.prog.godebug = none := by kernel_rfl

theorem mod_20 (z : Int) : ∃ K : Nat, 1 ≤ K ∧ K ≤ 20 ∧ wrap64 (z.tmod 20 + 20) = z.tmod 20 + 20 ∧ wrap64 (1 + (z.tmod 20 + 20).tmod 20) = (K : Int) := by
  obtain ⟨R, h1, h2, h3⟩ := mod_twice z 20 (by omega) (by omega)
  have h2 : wrap64 (z.tmod 20 + 20) = z.tmod 20 + 20 := h2
  have h3 : (z.tmod 20 + 20).tmod 20 = (R : Int) := h3
  exact ⟨R + 1, by omega, by omega, h2, by rw [h3, IntWalk.wrap64_in _ (by omega)]; omega⟩

theorem walk (W : World) (lim : Int) (_ : inR lim) (oaA : Option Addr) (capA : Nat) (acts : List (List Value)) (hacts : RowsAt W 9 oaA acts) (hok : ∀ a ∈ acts, ActOk W a) (hcap : acts.length ≤ capA ∧ capA ≤ maxLen)
    (kd0 f0 t0 tx0 : Int) (y0 : Bool) (oa0 : Option Addr) (cap0 : Nat) (ps0 : List (List Value)) (hm : MsgOk W oa0 cap0 ps0) (_ : inR kd0) (_ : inR f0) (_ : inR t0) (hr : inR tx0) :
    Calls Try.prog 7 #[.int .i64 lim, .slice oaA acts.length capA, .agg #[.int .i64 kd0, .int .i64 f0, .int .i64 t0, .int .i64 tx0, .bool y0, .slice oa0 ps0.length cap0]] W fun e w' => e = .returned (.bool true) ∧ Chg (fun _ => False) W w' := by
  obtain ⟨M, hM1, hM2, hw1, hw2⟩ := mod_20 lim
  exact twice_walk W lim M hM1 hM2 hw1 hw2 oaA capA acts hacts hok hcap kd0 f0 t0 tx0 y0 oa0 cap0 ps0 hm hr

set_option maxRecDepth 100000 in
theorem lifted (os : Os) (started : os.Started) (H : Type) (enc : TypeId × Value → H) :
    ReturnsInHanded {} Try.checked os 7 .any (Rows.coordTwiceSpec.pre6 enc Try.prog Try.f7 [] false) (Rows.coordTwiceSpec.post enc Try.prog Try.f7 false true false false) := by
  refine law_handed (C := Try.checked) (tb := 4) own started (by kernel_rfl) Try.func7
    (ChangeSpec.witness6 (enc := enc) (C := Try.checked) false ⟨#[], #[.int .i64 0, .slice none 0 0, .agg #[.int .i64 0, .int .i64 0, .int .i64 0, .int .i64 0, .bool false, .slice none 0 0]], []⟩ 8 (by kernel_rfl) (by kernel_rfl) (by kernel_rfl) (by kernel_rfl))
    laidOut (by rw [show Try.checked.prog = Try.prog from rfl, Try.params7]; intro t ht; simp at ht; rcases ht with rfl | rfl | rfl <;> exact ⟨by kernel_rfl, of_decide_eq_true (by kernel_rfl)⟩) rfl rfl Try.underlying4 ?_ ?_
  · intro ds hds
    rw [Try.params7] at hds
    match ds, hds with
    | [_, _, _], _ => rfl
  · intro W base args ds before hval0 hA0 _ hsz0
    have hval : ∀ (j : Nat) t v, Try.f7.params[j]? = some t → args[j]? = some v → Value.okWide Try.prog W .any base t v := hval0
    have hA : DataW.TrodAll enc Try.prog W 0 (fun _ => true) true Try.f7.params.toList args.toList ds before := hA0
    rw [Try.params7] at hA hval
    obtain ⟨v0, vs0, d0, ds0, p0, q0, hargs, rfl, rfl, h0, r0⟩ := trodAll_cons hA
    obtain ⟨v1, vs1, d1, ds1, p1, q1, rfl, rfl, rfl, h1, r1⟩ := trodAll_cons r0
    obtain ⟨v2, vs2, d2, ds2, p2, q2, rfl, rfl, rfl, h2, r2⟩ := trodAll_cons r1
    obtain ⟨rfl, rfl, rfl⟩ := trodAll_nil r2
    obtain rfl : args = #[v0, v1, v2] := by cases args; simp_all
    obtain ⟨a0, rfl, rfl, rfl, w0⟩ := open_int Try.underlying3 (hval 0 3 v0 rfl rfl) h0
    obtain ⟨oa1, l1, cap1, rfl, p11, p21, g1, ok1⟩ := open_acts (hval 1 45 v1 rfl rfl) h1
    obtain ⟨kd2, f2, t2, tx2, y2, oa2, cap2, ps2, rfl, m2, ikd2, if2, it2, itx2⟩ := open_msg (hval 2 24 v2 rfl rfl) h2
    exact walk W a0 (wf_inR w0) oa1 cap1 l1 g1 ok1 ⟨p11, p21⟩ kd2 f2 t2 tx2 y2 oa2 cap2 ps2 m2 ikd2 if2 it2 itx2

theorem over : Rows.coordTwiceRow.holds Try.pinned (OpenSpec.ofChange Rows.coordTwiceSpec) :=
  OpenClaim.holds_of_wide 7 Try.f7 rfl rfl rfl rfl rfl rfl rfl ⟨rfl, rfl, rfl, rfl, rfl⟩ rfl rfl rfl rfl rfl (by kernel_rfl) Try.func7 (by kernel_rfl)
    (of_decide_eq_true (by kernel_rfl)) (by unfold Func.isWrapper; first | (rw [if_pos (by decide +kernel)]; kernel_rfl) | (rw [if_neg (by decide +kernel)]; exact ⟨rfl, rfl⟩))
    (fun os started H enc _ => lifted os started H enc)

theorem proved : Rows.CoordTwiceSaid := over
#print axioms proved


end Go.Proofs.Ytogjjkbgagedpaa.coordTwice
