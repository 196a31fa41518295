/-
  KvNobody, whole: for every call the law returns true and changes nothing that was there. No condition.
-/
import Derived.Test.YtbkefhoapnaciaaGreatPkAa
import Derived.Test.YtbkefhoapnaciaaGreatPkBf
import Derived.Test.YtbkefhoapnaciaaGreatRows

section
set_option linter.unusedSimpArgs false
set_option linter.unusedVariables false
namespace Go.Proofs.YtbkefhoapnaciaaGreat.kvNobody
open Go.ChangeShapes Go.WideShapes Go.ChangeAt Go.RowKit Go.My wals disks kvs

theorem laidOut : laidOutB Tryz.prog = true := by kernel_rfl
theorem own : ownKnob Tryz.prog.godebug = none := by kernel_rfl

set_option linter.unusedVariables false in
set_option maxRecDepth 100000 in
set_option maxHeartbeats 4000000 in
theorem walk (W : World) (v : Value) (ps : List PV) (hv : PutsAt W v ps) (_ : ps.length ≤ maxLen) (_ : ∀ p ∈ ps, p.sized) (b : Txt) (hb : b.length ≤ maxLen) : Calls Tryz.prog 7 #[v, strV b] W fun e w' => e = .returned (.bool true) ∧ Chg (fun _ => False) W w' := by
  obtain ⟨oa, cap, rfl, -⟩ := hv
  obtain ⟨s, hs⟩ : ∃ s : ByteArray, strV b = .string s := ⟨_, rfl⟩
  rw [hs]
  clear hs hb
  have HWk := Lib.hid works_any
  go_enter Tryz.func7, Tryz.ntmps7
  go_wp2_with fail
  obtain ⟨w0, hw0⟩ : ∃ w0, (W.alloc (.cells #[.pointer none, .map none] 56)).alloc (.cells #[.pointer none, .pointer (some ⟨W.heap.size, 0, none⟩)] 40) = w0 := ⟨_, rfl⟩
  rw [hw0]
  have b2 : w0.heap[W.heap.size]? = some (.cells #[.pointer none, .map none] 56 (0, 0)) := by
    subst hw0; simp only [heap_alloc_get, World.size_alloc]; rw [if_neg (by omega), if_pos trivial]
  have b3 : w0.heap[W.heap.size + 1]? = some (.cells #[.pointer none, .pointer (some ⟨W.heap.size, 0, none⟩)] 40 (0, 0)) := by
    subst hw0; simp only [heap_alloc_get, World.size_alloc]; rw [if_pos trivial]
  have hc0 : Chg (fun _ => False) W w0 := by subst hw0; exact ((Chg.refl _ _).alloc _).alloc _
  have hn1 : NoDb w0 (some ⟨W.heap.size, 0, none⟩) := Or.inr ⟨_, rfl, cell_of_block b2 rfl⟩
  have B3 := Lib.hid b3
  have HN1 := Lib.hid hn1
  have HC := Lib.hid hc0
  clear hn1 hc0 b2 b3 hw0
  go_loopw [17] (fun j w' => ∃ m : Nat, j = .int .i64 m ∧ m ≤ 2 ∧ Chg (fun _ => False) w0 w') (fun j _ => 2 - (intOf j).toNat)
  · exact ⟨0, rfl, by omega, Chg.refl _ _⟩
  obtain ⟨m, rfl, hm, hcx⟩ := hrel
  have HX := Lib.hid hcx
  clear hcx
  by_cases hlt : m < 2
  · have hlti : (m : Int) < 2 := by omega
    obtain ⟨p, pc, hN⟩ : ∃ p, wr.cell? ⟨W.heap.size + 1, m, none⟩ = some (.pointer p) ∧ NoDb wr p := by
      match m, hlt with
      | 0, _ => exact ⟨_, HX.out.cell (cell_of_block B3.out (i := 0) rfl) id, Or.inl rfl⟩
      | 1, _ => exact ⟨_, HX.out.cell (cell_of_block B3.out (i := 1) rfl) id, HN1.out.kept HX.out⟩
    have HN := Lib.hid hN
    clear hN
    go_wp2_with (first
      | (go_at_call 22; refine (get_no _ _ HN.out _).mono ?_; rintro e w1 ⟨rfl, rfl⟩)
      | (go_at_call 19; refine (do_no _ _ HN.out _).mono ?_; rintro e w1 ⟨rfl, rfl⟩)
      | (go_at_call 23; refine (compact_no _ _ HN.out).mono ?_; rintro e w1 ⟨rfl, rfl⟩)
      | (go_at_call 21; refine (scan_no _ _ HN.out _ _).mono ?_; rintro e w1 ⟨rfl, rfl⟩)
      | (go_at_call 20; refine (len_no _ _ HN.out).mono ?_; rintro e w1 ⟨rfl, rfl⟩))
    exact ⟨⟨m + 1, by go_num, by omega, HX.out⟩, by simp [intOf]; omega⟩
  · have hlti : ¬ (m : Int) < 2 := by omega
    go_wp2_with (first
      | (go_at_call 18; fail))
    refine (open_no_kv _ none (Or.inl rfl)).mono ?_
    rintro e w1 ⟨rfl, rfl⟩
    dsimp only
    go_wp2_with (first
      | (go_at_call 18; fail))
    have hcb : Chg (fun _ => False) wr (wr.alloc (.cells #[.slice none 0 0, .map none, .int .i64 0, .bool false, .int .i64 0] 62)) := (Chg.refl _ _).alloc _
    refine (open_no_kv (wr.alloc (.cells #[.slice none 0 0, .map none, .int .i64 0, .bool false, .int .i64 0] 62)) (some ⟨wr.heap.size, 0, none⟩) (Or.inr ⟨_, rfl, cell_of_block (block_alloc_new _ _) rfl⟩)).mono ?_
    rintro e w1 ⟨rfl, rfl⟩
    dsimp only
    go_wp2_with (first
      | (go_at_call 15; refine (HWk.out _).mono ?_; rintro e w9 ⟨rfl, hc9⟩; have HC9 := Lib.hid hc9; clear hc9))
    go_ret
    exact ⟨rfl, (HC.out.trans' HX.out).trans' (hcb.trans' HC9.out)⟩

set_option maxRecDepth 100000 in
theorem lifted (os : Os) (started : os.Started) (H : Type) (enc : TypeId × Value → H) :
    ReturnsInHanded {} Tryz.checked os 7 .any (Rows.kvNobodySpec.pre6 enc Tryz.prog Tryz.f7 [] false) (Rows.kvNobodySpec.post enc Tryz.prog Tryz.f7 false true false false) := by
  refine law_handed (C := Tryz.checked) (tb := 4) own started (by kernel_rfl) Tryz.func7
    (ChangeSpec.witness6 (enc := enc) (C := Tryz.checked) false ⟨#[], #[.slice none 0 0, .string ⟨#[]⟩], []⟩ 8 (by kernel_rfl) (by kernel_rfl) (by kernel_rfl) (by kernel_rfl))
    laidOut (by rw [show Tryz.checked.prog = Tryz.prog from rfl, Tryz.params7]; intro t ht; simp at ht; rcases ht with rfl | rfl <;> exact ⟨by kernel_rfl, of_decide_eq_true (by kernel_rfl)⟩) rfl rfl Tryz.underlying4 ?_ ?_
  · intro ds hds
    rw [Tryz.params7] at hds
    match ds, hds with
    | [_, _], _ => rfl
  · intro W base args ds before hval0 hA0 _ hsz0
    have hval : ∀ (j : Nat) t v, Tryz.f7.params[j]? = some t → args[j]? = some v → Value.okWide Tryz.prog W .any base t v := hval0
    have hA : DataW.TrodAll enc Tryz.prog W 0 (fun _ => true) true Tryz.f7.params.toList args.toList ds before := hA0
    rw [Tryz.params7] at hA hval
    obtain ⟨v0, vs0, d0, ds0, p0, q0, hargs, rfl, rfl, h0, r0⟩ := trodAll_cons hA
    obtain ⟨v1, vs1, d1, ds1, p1, q1, rfl, rfl, rfl, h1, r1⟩ := trodAll_cons r0
    obtain ⟨rfl, rfl, rfl⟩ := trodAll_nil r1
    obtain rfl : args = #[v0, v1] := by cases args; simp_all
    obtain ⟨ps0, g0, n0, z0⟩ := open_puts (hval 0 22 v0 rfl rfl) h0
    obtain ⟨b1, rfl, hb1⟩ := open_str (hval 1 9 v1 rfl rfl) h1
    exact walk W v0 ps0 g0 n0 z0 b1 hb1

theorem over : Rows.kvNobodyRow.holds Tryz.pinned (OpenSpec.ofChange Rows.kvNobodySpec) :=
  OpenClaim.holds_of_wide 7 Tryz.f7 rfl rfl rfl rfl rfl rfl rfl ⟨rfl, rfl, rfl, rfl, rfl⟩ rfl rfl rfl rfl rfl (by kernel_rfl) Tryz.func7 (by kernel_rfl)
    (of_decide_eq_true (by kernel_rfl)) (by unfold Func.isWrapper; first | (rw [if_pos (by decide +kernel)]; kernel_rfl) | (rw [if_neg (by decide +kernel)]; exact ⟨rfl, rfl⟩))
    (fun os started H enc _ => lifted os started H enc)

theorem proved : Rows.KvNobodySaid := over
#print axioms proved



end Go.Proofs.YtbkefhoapnaciaaGreat.kvNobody
end
