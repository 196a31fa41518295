/-
  CoordNobody, whole: for every call the law returns true and changes nothing that was there. No condition.
-/
import Derived.Test.YtogjjkbgagedpaaCoordH
import Derived.Test.YtogjjkbgagedpaaLaw
import Derived.Test.YtogjjkbgagedpaaRows
import Derived.Deep.RegionHeld3
namespace Go.Proofs.Ytogjjkbgagedpaa.coordNobody
open Go.ChangeShapes Go.WideShapes Go.ChangeAt Go.RowKit Go.My coords

theorem laidOut : laidOutB Try.prog = true := by kernel_rfl
theorem own : ownKnob Try.prog.godebug = none := by kernel_rfl

set_option maxRecDepth 100000 in
set_option maxHeartbeats 4000000 in
theorem walk (W : World) (c0 c1 m0 m1 m2 m3 m4 m5 : Value) (oa : Option Addr) (cap : Nat) (l : List (List Value)) (h : RowsAt W 2 oa l) (hr : ∀ x ∈ l, ∃ r p, x = [.int .i64 r, p]) :
    Calls Try.prog 9 #[.agg #[c0, c1, .slice oa l.length cap, m0, m1, m2, m3, m4, m5]] W fun e w' => e = .returned (.bool true) ∧ Chg (fun _ => False) W w' := by
  have H := Lib.hid h
  have HR := Lib.hid hr
  clear h hr
  go_enter Try.func9, Try.ntmps9
  go_wp2_with (go_at_call 10; refine (new_none _ _ (by omega)).mono ?_; rintro e w1 ⟨rfl, rfl⟩)
  obtain ⟨w0, hw0⟩ : ∃ w0, ((W.alloc (.cells #[c0, c1, .slice oa l.length cap, m0, m1, m2, m3, m4, m5] 61)).alloc (.cells #[.int .i64 0, .map none] 73)).alloc (.cells #[.pointer none, .pointer (some ⟨W.heap.size + 1, 0, none⟩), .pointer none, .pointer none] 25) = w0 := ⟨_, rfl⟩
  rw [hw0]
  have b1 : w0.heap[W.heap.size]? = some (.cells #[c0, c1, .slice oa l.length cap, m0, m1, m2, m3, m4, m5] 61 (0, 0)) := by
    subst hw0; simp only [heap_alloc_get, World.size_alloc]; rw [if_neg (by omega), if_neg (by omega), if_pos trivial]
  have b2 : w0.heap[W.heap.size + 1]? = some (.cells #[.int .i64 0, .map none] 73 (0, 0)) := by
    subst hw0; simp only [heap_alloc_get, World.size_alloc]; rw [if_neg (by omega), if_pos trivial]
  have b3 : w0.heap[W.heap.size + 1 + 1]? = some (.cells #[.pointer none, .pointer (some ⟨W.heap.size + 1, 0, none⟩), .pointer none, .pointer none] 25 (0, 0)) := by
    subst hw0; simp only [heap_alloc_get, World.size_alloc]; rw [if_pos trivial]
  have hc0 : Chg (fun _ => False) W w0 := by subst hw0; exact (((Chg.refl _ _).alloc _).alloc _).alloc _
  have hn1 : ∀ w', Chg (fun _ => False) w0 w' → NoCo w' (some ⟨W.heap.size + 1, 0, none⟩) := fun w' hc => NoCo.kept (Or.inr ⟨_, rfl, cell_of_block b2 rfl⟩) hc
  have hn0 : ∀ w', Chg (fun _ => False) w0 w' → NoCo w' none := fun w' hc => Or.inl rfl
  have B1 := Lib.hid b1
  have B3 := Lib.hid b3
  have HN0 := Lib.hid hn0
  have HN1 := Lib.hid hn1
  have HC := Lib.hid hc0
  clear hn0 hn1 hc0 b1 b2 b3 hw0
  go_loopw [21] (fun j w' => ∃ m : Nat, j = .int .i64 m ∧ m ≤ 4 ∧ Chg (fun _ => False) w0 w') (fun j _ => 4 - (intOf j).toNat)
  · exact ⟨0, rfl, by omega, Chg.refl _ _⟩
  obtain ⟨m, rfl, hm, hcx⟩ := hrel
  have HX := Lib.hid hcx
  clear hcx
  by_cases hlt : m < 4
  · have hlti : (m : Int) < 4 := by omega
    obtain ⟨p, pc, hN⟩ : ∃ p, wr.cell? ⟨W.heap.size + 1 + 1, m, none⟩ = some (.pointer p) ∧ ∀ w', Chg (fun _ => False) w0 w' → NoCo w' p := by
      match m, hlt with
      | 0, _ => exact ⟨_, HX.out.cell (cell_of_block B3.out (i := 0) rfl) id, HN0.out⟩
      | 1, _ => exact ⟨_, HX.out.cell (cell_of_block B3.out (i := 1) rfl) id, HN1.out⟩
      | 2, _ => exact ⟨_, HX.out.cell (cell_of_block B3.out (i := 2) rfl) id, HN0.out⟩
      | 3, _ => exact ⟨_, HX.out.cell (cell_of_block B3.out (i := 3) rfl) id, HN0.out⟩
    have HN := Lib.hid hN
    have a1 := HX.out.cell (cell_of_block B1.out (i := 1) rfl) id
    have a2 := HX.out.cell (cell_of_block B1.out (i := 2) rfl) id
    clear hN
    go_wp2_with (first
      | (go_at_call 12; refine (begin_none _ _ (HN.out _ HX.out) _ _).mono ?_; rintro e w1 ⟨rfl, rfl⟩))
    clear pc
    refine wp_region_noPanic ?_
    refine wp_region_held_drew (S := (fun w' => w'.cell? ⟨W.heap.size, 1, none⟩ = some c1 ∧ w'.cell? ⟨W.heap.size, 2, none⟩ = some (.slice oa l.length cap))) (by kernel_rfl) (⟨a1, a2⟩) (fun hHeld => ?_)
    refine take_list (i := 0) (v := ?_) rfl (by kernel_rfl) (by kernel_rfl) (by kernel_rfl) (fun _ _ _ h => h) (Or.inl ⟨by rfl, fun w hSw => ?_⟩) hHeld ?_
    rotate_left
    · (obtain ⟨hSw1, hSw2⟩ := hSw; go_simp)
      try with_reducible rfl
    simp only [Act.put, List.setIfInBounds_toArray, List.set_cons_zero, List.set_cons_succ]
    refine take_list (i := 1) (v := ?_) rfl (by kernel_rfl) (by kernel_rfl) (by kernel_rfl) (fun _ _ _ h => h) (Or.inl ⟨by rfl, fun w hSw => ?_⟩) hHeld ?_
    rotate_left
    · (obtain ⟨hSw1, hSw2⟩ := hSw; go_simp)
      try with_reducible rfl
    simp only [Act.put, List.setIfInBounds_toArray, List.set_cons_zero, List.set_cons_succ]
    refine take_list (i := 2) (v := ?_) rfl (by kernel_rfl) (by kernel_rfl) (by kernel_rfl) (fun _ _ _ h => h) (Or.inl ⟨by rfl, fun w hSw => ?_⟩) hHeld ?_
    rotate_left
    · (obtain ⟨hSw1, hSw2⟩ := hSw; go_simp)
      try with_reducible rfl
    simp only [Act.put, List.setIfInBounds_toArray, List.set_cons_zero, List.set_cons_succ]
    refine take_list (i := 3) (v := ?_) rfl (by kernel_rfl) (by kernel_rfl) (by kernel_rfl) (fun _ _ _ h => h) (Or.inl ⟨by rfl, fun w hSw => ?_⟩) hHeld ?_
    rotate_left
    · (obtain ⟨hSw1, hSw2⟩ := hSw; go_simp)
      try with_reducible rfl
    simp only [Act.put, List.setIfInBounds_toArray, List.set_cons_zero, List.set_cons_succ]
    refine take_list (i := 4) (v := ?_) rfl (by kernel_rfl) (by kernel_rfl) (by kernel_rfl) (fun _ _ _ h => h) (Or.inl ⟨by rfl, fun w hSw => ?_⟩) hHeld ?_
    rotate_left
    · (obtain ⟨hSw1, hSw2⟩ := hSw; go_simp)
      try with_reducible rfl
    simp only [Act.put, List.setIfInBounds_toArray, List.set_cons_zero, List.set_cons_succ]
    refine wpAnyH_ready (rs := [5]) (by kernel_rfl) (by simp) (one_list (i := 5) rfl (by rfl) (fun K hK => ?_) AllReadyH.nil)
    go_simp
    refine (roots_any _ oa cap l (H.out.kept (HC.out.trans' HX.out.drew) (fun _ _ h => h)) HR.out).mono ?_
    rintro e w5 ⟨v, rfl, ⟨zs, hz1, hz2⟩, hc5⟩
    have HZ := Lib.hid hz2
    have HC5 := Lib.hid (HX.out.drew.trans' hc5)
    clear hz2 hc5
    dsimp only
    refine hK _ _ ⟨HC5.out.cell (cell_of_block B1.out (i := 1) rfl) id, HC5.out.cell (cell_of_block B1.out (i := 2) rfl) id⟩ (fun hH2 => ?_)
    try simp only [Act.put, List.setIfInBounds_toArray, List.set_cons_zero, List.set_cons_succ]
    refine wpAnyH_ready (rs := [6]) (by kernel_rfl) (by simp) (one_list (i := 6) rfl (by rfl) (fun K hK => ?_) AllReadyH.nil)
    go_simp
    refine (recall_none _ _ (HN.out _ HC5.out) _ HZ.out hz1).mono ?_
    rintro e w6 ⟨rfl, hc6⟩
    have HC6 := Lib.hid (HC5.out.trans' hc6)
    clear hc6
    dsimp only
    refine hK _ _ ⟨HC6.out.cell (cell_of_block B1.out (i := 1) rfl) id, HC6.out.cell (cell_of_block B1.out (i := 2) rfl) id⟩ (fun hH3 => ?_)
    try simp only [Act.put, List.setIfInBounds_toArray, List.set_cons_zero, List.set_cons_succ]
    refine take_list (i := 7) (v := ?_) rfl (by kernel_rfl) (by kernel_rfl) (by kernel_rfl) (fun _ _ _ h => h) (Or.inl ⟨by rfl, fun w hSw => ?_⟩) hH3 ?_
    rotate_left
    · (skip; go_simp)
      try with_reducible rfl
    simp only [Act.put, List.setIfInBounds_toArray, List.set_cons_zero, List.set_cons_succ]
    refine take_list (i := 8) (v := ?_) rfl (by kernel_rfl) (by kernel_rfl) (by kernel_rfl) (fun _ _ _ h => h) (Or.inl ⟨by rfl, fun w hSw => ?_⟩) hH3 ?_
    rotate_left
    · (skip; go_simp)
      try with_reducible rfl
    simp only [Act.put, List.setIfInBounds_toArray, List.set_cons_zero, List.set_cons_succ]
    refine take_list (i := 9) (v := ?_) rfl (by kernel_rfl) (by kernel_rfl) (by kernel_rfl) (fun _ _ _ h => h) (Or.inl ⟨by rfl, fun w hSw => ?_⟩) hH3 ?_
    rotate_left
    · (skip; go_simp)
      try with_reducible rfl
    simp only [Act.put, List.setIfInBounds_toArray, List.set_cons_zero, List.set_cons_succ]
    refine take_list (i := 10) (v := ?_) rfl (by kernel_rfl) (by kernel_rfl) (by kernel_rfl) (fun _ _ _ h => h) (Or.inl ⟨by rfl, fun w hSw => ?_⟩) hH3 ?_
    rotate_left
    · (skip; go_simp)
      try with_reducible rfl
    simp only [Act.put, List.setIfInBounds_toArray, List.set_cons_zero, List.set_cons_succ]
    refine take_list (i := 11) (v := ?_) rfl (by kernel_rfl) (by kernel_rfl) (by kernel_rfl) (fun _ _ _ h => h) (Or.inl ⟨by rfl, fun w hSw => ?_⟩) hH3 ?_
    rotate_left
    · (skip; go_simp)
      try with_reducible rfl
    simp only [Act.put, List.setIfInBounds_toArray, List.set_cons_zero, List.set_cons_succ]
    refine wpAnyH_done (by kernel_rfl) ?_ _
    refine NoPanic.normal ?_
    clear hHeld hH2 hH3 a1 a2
    have f1 := HC6.out.cell (cell_of_block B1.out (i := 1) rfl) id
    have f3 := HC6.out.cell (cell_of_block B1.out (i := 3) rfl) id
    have f4 := HC6.out.cell (cell_of_block B1.out (i := 4) rfl) id
    have f5 := HC6.out.cell (cell_of_block B1.out (i := 5) rfl) id
    have f6 := HC6.out.cell (cell_of_block B1.out (i := 6) rfl) id
    have f7 := HC6.out.cell (cell_of_block B1.out (i := 7) rfl) id
    have f8 := HC6.out.cell (cell_of_block B1.out (i := 8) rfl) id
    go_wp2_with (first
      | (go_at_call 25; refine (sure_none _ _ (HN.out _ HC6.out) _).mono ?_; rintro e w7 ⟨rfl, rfl⟩)
      | (go_at_call 30; refine (quit_none _ _ (HN.out _ HC6.out) _).mono ?_; rintro e w7 ⟨rfl, rfl⟩)
      | (go_at_call 22; refine (tick_none _ _ (HN.out _ HC6.out)).mono ?_; rintro e w7 ⟨rfl, rfl⟩)
      | (go_at_call 13; refine (take_none _ _ (HN.out _ HC6.out) _ _ _ _ _ _).mono ?_; rintro e w8 ⟨rfl, hc8⟩; unfold saidV
         have HC8 := Lib.hid (HC6.out.trans' hc8)
         clear hc8 f1 f3 f4 f5 f6 f7 f8)
      | (go_at_call 14; refine (same_nil _).mono ?_; rintro e w9 ⟨rfl, hc9⟩
         have HC9 := Lib.hid (HC8.out.trans' hc9)
         have f1 := (HC8.out.trans' hc9).cell (cell_of_block B1.out (i := 1) rfl) id
         clear hc9)
      | (go_at_call 17; refine (open_none _ _ (HN.out _ HC9.out)).mono ?_; rintro e w7 ⟨rfl, rfl⟩)
      | (go_at_call 15; refine (state_none _ _ (HN.out _ HC9.out) _).mono ?_; rintro e w7 ⟨rfl, rfl⟩)
      | (go_at_call 26; refine (lacks_none _ _ (HN.out _ HC9.out) _).mono ?_; rintro e w7 ⟨rfl, rfl⟩))
    exact ⟨⟨m + 1, by go_num, by omega, HC9.out⟩, meas_step hlt⟩
  · have hlti : ¬ (m : Int) < 4 := by omega
    go_wp2_with (go_at_call 18; refine (works_any _).mono ?_; rintro e w9 ⟨rfl, hc9⟩; have HC9 := Lib.hid hc9; clear hc9)
    go_ret
    exact ⟨rfl, (HC.out.trans' HX.out).trans' HC9.out⟩

set_option maxRecDepth 100000 in
theorem lifted (os : Os) (started : os.Started) (H : Type) (enc : TypeId × Value → H) :
    ReturnsInHanded {} Try.checked os 9 .any (Rows.coordNobodySpec.pre6 enc Try.prog Try.f9 [] false) (Rows.coordNobodySpec.post enc Try.prog Try.f9 false true false false) := by
  refine law_handed (C := Try.checked) (tb := 4) own started (by kernel_rfl) Try.func9
    (ChangeSpec.witness6 (enc := enc) (C := Try.checked) false ⟨#[], #[.agg #[.int .i64 0, .int .i64 0, .slice none 0 0, .int .i64 0, .int .i64 0, .int .i64 0, .int .i64 0, .bool false, .slice none 0 0]], []⟩ 8 (by kernel_rfl) (by kernel_rfl) (by kernel_rfl) (by kernel_rfl))
    laidOut (by rw [show Try.checked.prog = Try.prog from rfl, Try.params9]; intro t ht; simp at ht; subst ht; exact ⟨by kernel_rfl, of_decide_eq_true (by kernel_rfl)⟩) rfl rfl Try.underlying4 ?_ ?_
  · intro ds hds
    rw [Try.params9] at hds
    match ds, hds with
    | [_], _ => rfl
  · intro W base args ds before hval0 hA0 _ _
    have hval : ∀ (j : Nat) t v, Try.f9.params[j]? = some t → args[j]? = some v → Value.okWide Try.prog W .any base t v := hval0
    have hA : DataW.TrodAll enc Try.prog W 0 (fun _ => true) true Try.f9.params.toList args.toList ds before := hA0
    rw [Try.params9] at hA hval
    obtain ⟨v0, vs0, d0, ds0, p0, q0, hargs, rfl, rfl, h0, r0⟩ := trodAll_cons hA
    obtain ⟨rfl, rfl, rfl⟩ := trodAll_nil r0
    obtain rfl : args = #[v0] := by cases args; simp_all
    obtain ⟨c0, c1, m0, m1, m2, m3, m4, m5, oa, l, cap, rfl, hr, hrow⟩ := open_act (hval 0 61 v0 rfl rfl) h0
    exact walk W c0 c1 m0 m1 m2 m3 m4 m5 oa cap l hr hrow

theorem over : Rows.coordNobodyRow.holds Try.pinned (OpenSpec.ofChange Rows.coordNobodySpec) :=
  OpenClaim.holds_of_wide 9 Try.f9 rfl rfl rfl rfl rfl rfl rfl ⟨rfl, rfl, rfl, rfl, rfl⟩ rfl rfl rfl rfl rfl (by kernel_rfl) Try.func9 (by kernel_rfl)
    (of_decide_eq_true (by kernel_rfl)) (by unfold Func.isWrapper; first | (rw [if_pos (by decide +kernel)]; kernel_rfl) | (rw [if_neg (by decide +kernel)]; exact ⟨rfl, rfl⟩))
    (fun os started H enc _ => lifted os started H enc)

theorem proved : Rows.CoordNobodySaid := over
#print axioms proved


end Go.Proofs.Ytogjjkbgagedpaa.coordNobody
