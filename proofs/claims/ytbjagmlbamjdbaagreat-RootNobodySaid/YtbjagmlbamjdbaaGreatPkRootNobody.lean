/-
  RootNobody, whole: for every call the law returns true and changes nothing that was there. No condition.
-/
import Derived.Test.YtbjagmlbamjdbaaGreatPx1RootNobody
import Derived.Test.YtbjagmlbamjdbaaGreatPx16RootNobody
import Derived.Test.YtbjagmlbamjdbaaGreatPx21RootNobody
import Derived.Test.YtbjagmlbamjdbaaGreatRows

section
set_option linter.unusedSimpArgs false
set_option linter.unusedVariables false
namespace Go.Proofs.YtbjagmlbamjdbaaGreat.rootNobody
open Go.ChangeShapes Go.WideShapes Go.ChangeAt Go.RowKit Go.My wals disks kvs roots

theorem laidOut : laidOutB Tryz.prog = true := by kernel_rfl
theorem own : ownKnob Tryz.prog.godebug = none := by kernel_rfl

set_option linter.unusedVariables false in
set_option maxRecDepth 100000 in
set_option maxHeartbeats 4000000 in
theorem walk (W : World) (t : Int) (v : Value) (hv : ∃ oa n cap, v = .slice oa n cap) : Calls Tryz.prog 4 #[.int .i64 t, v] W fun e w' => e = .returned (.bool true) ∧ Chg (fun _ => False) W w' := by
  obtain ⟨oa, nn, cap, rfl⟩ := hv
  have HWk := Lib.hid works_any
  go_enter Tryz.func4, Tryz.ntmps4
  go_wp2_with fail
  obtain ⟨w0, hw0⟩ : ∃ w0, (W.alloc (.cells #[.pointer none, .slice none 0 0, .int .i64 0, .slice none 0 0, .slice none 0 0] 37)).alloc (.cells #[.pointer none, .pointer (some ⟨W.heap.size, 0, none⟩)] 33) = w0 := ⟨_, rfl⟩
  rw [hw0]
  have b2 : w0.heap[W.heap.size]? = some (.cells #[.pointer none, .slice none 0 0, .int .i64 0, .slice none 0 0, .slice none 0 0] 37 (0, 0)) := by
    subst hw0; simp only [heap_alloc_get, World.size_alloc]; rw [if_neg (by omega), if_pos trivial]
  have b3 : w0.heap[W.heap.size + 1]? = some (.cells #[.pointer none, .pointer (some ⟨W.heap.size, 0, none⟩)] 33 (0, 0)) := by
    subst hw0; simp only [heap_alloc_get, World.size_alloc]; rw [if_pos trivial]
  have hc0 : Chg (fun _ => False) W w0 := by subst hw0; exact ((Chg.refl _ _).alloc _).alloc _
  have hn1 : NoRoot w0 (some ⟨W.heap.size, 0, none⟩) := Or.inr ⟨_, rfl, cell_of_block b2 rfl⟩
  have B3 := Lib.hid b3
  have HN1 := Lib.hid hn1
  have HC := Lib.hid hc0
  clear hn1 hc0 b2 b3 hw0
  go_loopw [17] (fun j w' => ∃ m : Nat, j = .int .i64 m ∧ m ≤ 2 ∧ Chg (fun _ => False) w0 w') (fun j _ => 2 - (intOf j).toNat)
  · exact ⟨0, rfl, by omega, Chg.refl _ _⟩
  obtain ⟨m, rfl, hm, hcx⟩ := hrel
  have HX := Lib.hid hcx
  clear hcx
  by_cases hlt : m < 2
  · have hlti : (m : Int) < 2 := by omega
    obtain ⟨p, pc, hN⟩ : ∃ p, wr.cell? ⟨W.heap.size + 1, m, none⟩ = some (.pointer p) ∧ NoRoot wr p := by
      match m, hlt with
      | 0, _ => exact ⟨_, HX.out.cell (cell_of_block B3.out (i := 0) rfl) id, Or.inl rfl⟩
      | 1, _ => exact ⟨_, HX.out.cell (cell_of_block B3.out (i := 1) rfl) id, HN1.out.kept HX.out⟩
    have HN := Lib.hid hN
    clear hN
    go_wp2_with (first
      | (go_at_call 18; refine (staged_no _ _ HN.out).mono ?_; rintro e w1 ⟨rfl, rfl⟩)
      | (go_at_call 19; refine (stage_no _ _ HN.out _ _).mono ?_; rintro e w1 ⟨rfl, rfl⟩)
      | (go_at_call 20; refine (commit_no _ _ HN.out _).mono ?_; rintro e w1 ⟨rfl, rfl⟩)
      | (go_at_call 21; refine (abort_no _ _ HN.out _).mono ?_; rintro e w1 ⟨rfl, rfl⟩)
      | (go_at_call 22; refine (stack_no _ _ HN.out).mono ?_; rintro e w1 ⟨rfl, rfl⟩)
      | (go_at_call 23; refine (done_no _ _ HN.out).mono ?_; rintro e w1 ⟨rfl, rfl⟩))
    exact ⟨⟨m + 1, by go_num, by omega, HX.out⟩, by simp [intOf]; omega⟩
  · have hlti : ¬ (m : Int) < 2 := by omega
    go_wp2_with (first
      | (go_at_call 24; fail))
    refine (open_no_root _ none (Or.inl rfl)).mono ?_
    rintro e w1 ⟨rfl, rfl⟩
    dsimp only
    go_wp2_with (first
      | (go_at_call 24; fail))
    have hcb : Chg (fun _ => False) wr (wr.alloc (.cells #[.slice none 0 0, .map none, .int .i64 0, .bool false, .int .i64 0] 51)) := (Chg.refl _ _).alloc _
    refine (open_no_root (wr.alloc (.cells #[.slice none 0 0, .map none, .int .i64 0, .bool false, .int .i64 0] 51)) (some ⟨wr.heap.size, 0, none⟩) (Or.inr ⟨_, rfl, cell_of_block (block_alloc_new _ _) rfl⟩)).mono ?_
    rintro e w1 ⟨rfl, rfl⟩
    dsimp only
    go_wp2_with (first
      | (go_at_call 17; refine (HWk.out _).mono ?_; rintro e w9 ⟨rfl, hc9⟩; have HC9 := Lib.hid hc9; clear hc9))
    go_ret
    exact ⟨rfl, (HC.out.trans' HX.out).trans' (hcb.trans' HC9.out)⟩

set_option maxRecDepth 100000 in
theorem lifted (os : Os) (started : os.Started) (H : Type) (enc : TypeId × Value → H) :
    ReturnsInHanded {} Tryz.checked os 4 .any (Rows.rootNobodySpec.pre6 enc Tryz.prog Tryz.f4 [] false) (Rows.rootNobodySpec.post enc Tryz.prog Tryz.f4 false true false false) := by
  refine law_handed (C := Tryz.checked) (tb := 4) own started (by kernel_rfl) Tryz.func4
    (ChangeSpec.witness6 (enc := enc) (C := Tryz.checked) false ⟨#[], #[.int .i64 0, .slice none 0 0], []⟩ 8 (by kernel_rfl) (by kernel_rfl) (by kernel_rfl) (by kernel_rfl))
    laidOut (by rw [show Tryz.checked.prog = Tryz.prog from rfl, Tryz.params4]; intro t ht; simp at ht; rcases ht with rfl | rfl <;> exact ⟨by kernel_rfl, of_decide_eq_true (by kernel_rfl)⟩) rfl rfl Tryz.underlying4 ?_ ?_
  · intro ds hds
    rw [Tryz.params4] at hds
    match ds, hds with
    | [_, _], _ => rfl
  · intro W base args ds before hval0 hA0 _ hsz0
    have hval : ∀ (j : Nat) t v, Tryz.f4.params[j]? = some t → args[j]? = some v → Value.okWide Tryz.prog W .any base t v := hval0
    have hA : DataW.TrodAll enc Tryz.prog W 0 (fun _ => true) true Tryz.f4.params.toList args.toList ds before := hA0
    rw [Tryz.params4] at hA hval
    obtain ⟨v0, vs0, d0, ds0, p0, q0, hargs, rfl, rfl, h0, r0⟩ := trodAll_cons hA
    obtain ⟨v1, vs1, d1, ds1, p1, q1, rfl, rfl, rfl, h1, r1⟩ := trodAll_cons r0
    obtain ⟨rfl, rfl, rfl⟩ := trodAll_nil r1
    obtain rfl : args = #[v0, v1] := by cases args; simp_all
    obtain ⟨z0, rfl⟩ := okWide_int Tryz.underlying3 (hval 0 3 v0 rfl rfl)
    obtain ⟨oa, n, cap, rfl⟩ := okWide_slice Tryz.underlying22 (hval 1 22 v1 rfl rfl)
    exact walk W z0 _ ⟨_, _, _, rfl⟩

theorem over : Rows.rootNobodyRow.holds Tryz.pinned (OpenSpec.ofChange Rows.rootNobodySpec) :=
  OpenClaim.holds_of_wide 4 Tryz.f4 rfl rfl rfl rfl rfl rfl rfl ⟨rfl, rfl, rfl, rfl, rfl⟩ rfl rfl rfl rfl rfl (by kernel_rfl) Tryz.func4 (by kernel_rfl)
    (of_decide_eq_true (by kernel_rfl)) (by unfold Func.isWrapper; first | (rw [if_pos (by decide +kernel)]; kernel_rfl) | (rw [if_neg (by decide +kernel)]; exact ⟨rfl, rfl⟩))
    (fun os started H enc _ => lifted os started H enc)

theorem proved : Rows.RootNobodySaid := over
#print axioms proved

end Go.Proofs.YtbjagmlbamjdbaaGreat.rootNobody
end
