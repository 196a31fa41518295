/-
  CoordAll, whole: for every limit, number of roots and acts the law returns true and changes nothing that was there. No condition.
-/
import Derived.Test.YtogjjkbgagedpaaCoGP
import Derived.Test.YtogjjkbgagedpaaLaw
import Derived.Test.YtogjjkbgagedpaaRows
namespace Go.Proofs.Ytogjjkbgagedpaa.coordAll
open Go.ChangeShapes Go.WideShapes Go.ChangeAt Go.RowKit Go.Maps Go.My Go.ChangeMaps coords coordg
set_option maxRecDepth 100000

theorem laidOut : laidOutB Try.prog = true := by kernel_rfl
theorem own : ownKnob Try.prog.godebug = none := by kernel_rfl

theorem mod_20 (z : Int) : ∃ K : Nat, 1 ≤ K ∧ K ≤ 20 ∧ wrap64 (z.tmod 20 + 20) = z.tmod 20 + 20 ∧ wrap64 (1 + (z.tmod 20 + 20).tmod 20) = (K : Int) := by
  obtain ⟨R, h1, h2, h3⟩ := mod_twice z 20 (by omega) (by omega)
  have h2 : wrap64 (z.tmod 20 + 20) = z.tmod 20 + 20 := h2
  have h3 : (z.tmod 20 + 20).tmod 20 = (R : Int) := h3
  exact ⟨R + 1, by omega, by omega, h2, by rw [h3, IntWalk.wrap64_in _ (by omega)]; omega⟩



set_option maxHeartbeats 2000000 in
theorem walk (W : World) (lim : Int) (_ : inR lim) (n : Int) (_ : inR n) (oaA : Option Addr) (capA : Nat) (acts : List (List Value)) (hacts : RowsAt W 9 oaA acts) (hok : ∀ a ∈ acts, ActOk W a) (hcap : acts.length ≤ capA ∧ capA ≤ maxLen) :
    Calls Try.prog 4 #[.int .i64 lim, .int .i64 n, .slice oaA acts.length capA] W fun e w' => e = .returned (.bool true) ∧ Chg (fun _ => False) W w' := by
  obtain ⟨L, hL1, hL2, hw1, hw2⟩ := mod_20 lim
  obtain ⟨M, hM1, hM6, hw3, hw4⟩ := mod_six n
  have HPl := Lib.hid (plays_any W L M ⟨hL1, by omega⟩ ⟨hM1, hM6⟩ oaA capA acts hacts hok hcap)
  clear hacts hok hcap
  go_enter Try.func4, Try.ntmps4
  go_wp2_with (first
    | (go_at_call 19; fail))
  refine HPl.out.mono ?_
  rintro e w1 ⟨c, S, yes, oy, ny, cy, com, ab, Fc, q, LL, rfl, hA, hP, hc1⟩
  clear hw1 hw2 hw3 hw4
  have HA := Lib.hid hA
  have HC1 := Lib.hid hc1
  clear hA hc1 HPl
  unfold heardC ptrV
  dsimp only
  cases hP with
  | opn e hO hab =>
    subst hab
    cases S with
    | true =>
      have HSt := Lib.hid (show ((mget [((1 : Int), e)] 1).map (·.E.state)).getD 0 = 3 from hO.st.2 rfl)
      clear hO
      go_wp2_with (first
        | (go_at_call 15; refine (state_all _ (HA.out.fresh ((Chg.refl _ _).alloc _)) 1 (by unfold inR; omega)).mono ?_; rw [HSt.out]; rintro e0 w2 ⟨rfl, rfl⟩)
        | (go_at_call 18; refine (works_any _).mono ?_; rintro e0 w9 ⟨rfl, hc9⟩; have HC9 := Lib.hid hc9; clear hc9))
      go_ret
      exact ⟨rfl, (HC1.out.alloc _).trans' HC9.out⟩
    | false =>
      clear hO
      go_wp2_with (first
        | (go_at_call 18; refine (works_any _).mono ?_; rintro e0 w9 ⟨rfl, hc9⟩; have HC9 := Lib.hid hc9; clear hc9))
      go_ret
      exact ⟨rfl, (HC1.out.alloc _).trans' HC9.out⟩
  | gone hg =>
    have HSt := Lib.hid (show ((mget ([] : List (Int × Ent)) 1).map (·.E.state)).getD 0 = 0 from rfl)
    cases S with
    | true =>
      obtain rfl := hg rfl
      clear hg
      go_wp2_with (first
        | (go_at_call 15; refine (state_all _ (HA.out.fresh ((Chg.refl _ _).alloc _)) 1 (by unfold inR; omega)).mono ?_; rw [HSt.out]; rintro e0 w2 ⟨rfl, rfl⟩)
        | (go_at_call 18; refine (works_any _).mono ?_; rintro e0 w9 ⟨rfl, hc9⟩; have HC9 := Lib.hid hc9; clear hc9))
      go_ret
      exact ⟨rfl, (HC1.out.alloc _).trans' HC9.out⟩
    | false =>
      clear hg HSt
      go_wp2_with (first
        | (go_at_call 18; refine (works_any _).mono ?_; rintro e0 w9 ⟨rfl, hc9⟩; have HC9 := Lib.hid hc9; clear hc9))
      go_ret
      exact ⟨rfl, (HC1.out.alloc _).trans' HC9.out⟩

set_option maxRecDepth 100000 in
theorem lifted (os : Os) (started : os.Started) (H : Type) (enc : TypeId × Value → H) :
    ReturnsInHanded {} Try.checked os 4 .any (Rows.coordAllSpec.pre6 enc Try.prog Try.f4 [] false) (Rows.coordAllSpec.post enc Try.prog Try.f4 false true false false) := by
  refine law_handed (C := Try.checked) (tb := 4) own started (by kernel_rfl) Try.func4
    (ChangeSpec.witness6 (enc := enc) (C := Try.checked) false ⟨#[], #[.int .i64 0, .int .i64 0, .slice none 0 0], []⟩ 8 (by kernel_rfl) (by kernel_rfl) (by kernel_rfl) (by kernel_rfl))
    laidOut (by rw [show Try.checked.prog = Try.prog from rfl, Try.params4]; intro t ht; simp at ht; (first | (rcases ht with rfl | rfl | rfl <;> exact ⟨by kernel_rfl, of_decide_eq_true (by kernel_rfl)⟩) | (rcases ht with rfl | rfl <;> exact ⟨by kernel_rfl, of_decide_eq_true (by kernel_rfl)⟩))) rfl rfl Try.underlying4 ?_ ?_
  · intro ds hds
    rw [Try.params4] at hds
    match ds, hds with
    | [_, _, _], _ => rfl
  · intro W base args ds before hval0 hA0 _ hsz0
    have hval : ∀ (j : Nat) t v, Try.f4.params[j]? = some t → args[j]? = some v → Value.okWide Try.prog W .any base t v := hval0
    have hA : DataW.TrodAll enc Try.prog W 0 (fun _ => true) true Try.f4.params.toList args.toList ds before := hA0
    rw [Try.params4] at hA hval
    obtain ⟨v0, vs0, d0, ds0, p0, q0, hargs, rfl, rfl, h0, r0⟩ := trodAll_cons hA
    obtain ⟨v1, vs1, d1, ds1, p1, q1, rfl, rfl, rfl, h1, r1⟩ := trodAll_cons r0
    obtain ⟨v2, vs2, d2, ds2, p2, q2, rfl, rfl, rfl, h2, r2⟩ := trodAll_cons r1
    obtain ⟨rfl, rfl, rfl⟩ := trodAll_nil r2
    obtain rfl : args = #[v0, v1, v2] := by cases args; simp_all
    obtain ⟨a0, rfl, rfl, rfl, w0⟩ := open_int Try.underlying3 (hval 0 3 v0 rfl rfl) h0
    obtain ⟨a1, rfl, rfl, rfl, w1⟩ := open_int Try.underlying3 (hval 1 3 v1 rfl rfl) h1
    obtain ⟨oa2, l2, cap2, rfl, p12, p22, g2, ok2⟩ := open_acts (hval 2 45 v2 rfl rfl) h2
    exact walk W a0 (wf_inR w0) a1 (wf_inR w1) oa2 cap2 l2 g2 ok2 ⟨p12, p22⟩

theorem over : Rows.coordAllRow.holds Try.pinned (OpenSpec.ofChange Rows.coordAllSpec) :=
  OpenClaim.holds_of_wide 4 Try.f4 rfl rfl rfl rfl rfl rfl rfl ⟨rfl, rfl, rfl, rfl, rfl⟩ rfl rfl rfl rfl rfl (by kernel_rfl) Try.func4 (by kernel_rfl)
    (of_decide_eq_true (by kernel_rfl)) (by unfold Func.isWrapper; first | (rw [if_pos (by decide +kernel)]; kernel_rfl) | (rw [if_neg (by decide +kernel)]; exact ⟨rfl, rfl⟩))
    (fun os started H enc _ => lifted os started H enc)

theorem proved : Rows.CoordAllSaid := over
#print axioms proved


end Go.Proofs.Ytogjjkbgagedpaa.coordAll
