/-
  WalNobody, whole: for every call the law returns true and changes nothing that was there. No condition.
-/
import Derived.Test.YtcfgcllphfooaaaPk0WalNobody
import Derived.Test.YtcfgcllphfooaaaPk15WalNobody
import Derived.Test.YtcfgcllphfooaaaPk16WalNobody
import Derived.Test.YtcfgcllphfooaaaRows

section
namespace Go.Proofs.Ytcfgcllphfooaaa.walNobody
open Go.ChangeShapes Go.WideShapes Go.ChangeAt Go.RowKit Go.My wals disks

theorem laidOut : laidOutB Try.prog = true := by kernel_rfl
theorem own : ownKnob Try.prog.godebug = none := by kernel_rfl

set_option linter.unusedVariables false in
set_option maxRecDepth 100000 in
set_option maxHeartbeats 4000000 in
theorem walk (W : World) (b : Blk) (hb : b.length ≤ maxLen) : Calls Try.prog 4 #[strV b] W fun e w' => e = .returned (.bool true) ∧ Chg (fun _ => False) W w' := by
  obtain ⟨s, hs⟩ : ∃ s : ByteArray, strV b = .string s := ⟨_, rfl⟩
  rw [hs]
  clear hs
  have HWk := Lib.hid works_any
  go_enter Try.func4, Try.ntmps4
  go_wp2_with fail
  obtain ⟨w0, hw0⟩ : ∃ w0, (W.alloc (.cells #[.pointer none, .int .i64 0, .int .i64 0, .int .i64 0, .slice none 0 0, .slice none 0 0, .slice none 0 0, .int .i64 0, .bool false] 41)).alloc (.cells #[.pointer none, .pointer (some ⟨W.heap.size, 0, none⟩)] 27) = w0 := ⟨_, rfl⟩
  rw [hw0]
  have b2 : w0.heap[W.heap.size]? = some (.cells #[.pointer none, .int .i64 0, .int .i64 0, .int .i64 0, .slice none 0 0, .slice none 0 0, .slice none 0 0, .int .i64 0, .bool false] 41 (0, 0)) := by
    subst hw0; simp only [heap_alloc_get, World.size_alloc]; rw [if_neg (by omega), if_pos trivial]
  have b3 : w0.heap[W.heap.size + 1]? = some (.cells #[.pointer none, .pointer (some ⟨W.heap.size, 0, none⟩)] 27 (0, 0)) := by
    subst hw0; simp only [heap_alloc_get, World.size_alloc]; rw [if_pos trivial]
  have hc0 : Chg (fun _ => False) W w0 := by subst hw0; exact ((Chg.refl _ _).alloc _).alloc _
  have hn1 : NoLog w0 (some ⟨W.heap.size, 0, none⟩) := Or.inr ⟨_, rfl, cell_of_block b2 rfl⟩
  have B3 := Lib.hid b3
  have HN1 := Lib.hid hn1
  have HC := Lib.hid hc0
  clear hn1 hc0 b2 b3 hw0
  go_loopw [13] (fun j w' => ∃ m : Nat, j = .int .i64 m ∧ m ≤ 2 ∧ Chg (fun _ => False) w0 w') (fun j _ => 2 - (intOf j).toNat)
  · exact ⟨0, rfl, by omega, Chg.refl _ _⟩
  obtain ⟨m, rfl, hm, hcx⟩ := hrel
  have HX := Lib.hid hcx
  clear hcx
  by_cases hlt : m < 2
  · have hlti : (m : Int) < 2 := by omega
    obtain ⟨p, pc, hN⟩ : ∃ p, wr.cell? ⟨W.heap.size + 1, m, none⟩ = some (.pointer p) ∧ NoLog wr p := by
      match m, hlt with
      | 0, _ => exact ⟨_, HX.out.cell (cell_of_block B3.out (i := 0) rfl) id, Or.inl rfl⟩
      | 1, _ => exact ⟨_, HX.out.cell (cell_of_block B3.out (i := 1) rfl) id, HN1.out.kept HX.out⟩
    have HN := Lib.hid hN
    have hca : Chg (fun _ => False) wr (wr.alloc (.cells #[.string s] 9)) := (Chg.refl _ _).alloc _
    have HN2 := Lib.hid (hN.kept hca)
    have HCa := Lib.hid (HX.out.trans' hca)
    clear hN hca
    go_wp2_with (first
      | (go_at_call 13; refine (add_no _ _ HN.out _).mono ?_; rintro e w1 ⟨rfl, rfl⟩)
      | (go_at_call 16; refine (sync_no _ _ HN.out).mono ?_; rintro e w1 ⟨rfl, rfl⟩)
      | (go_at_call 20; refine (reset_no _ _ HN2.out _).mono ?_; rintro e w1 ⟨rfl, rfl⟩)
      | (go_at_call 17; refine (records_no _ _ HN2.out).mono ?_; rintro e w1 ⟨rfl, rfl⟩)
      | (go_at_call 14; refine (waiting_log_no _ _ HN2.out).mono ?_; rintro e w1 ⟨rfl, rfl⟩)
      | (go_at_call 15; refine (used_no _ _ HN2.out).mono ?_; rintro e w1 ⟨rfl, rfl⟩)
      | (go_at_call 12; refine (room_no _ _ HN2.out).mono ?_; rintro e w1 ⟨rfl, rfl⟩))
    exact ⟨⟨m + 1, by go_num, by omega, HCa.out⟩, by simp [intOf]; omega⟩
  · have hlti : ¬ (m : Int) < 2 := by omega
    go_wp2_with (first
      | (go_at_call 10; fail))
    refine (open_no _ none (Or.inl rfl)).mono ?_
    rintro e w1 ⟨rfl, rfl⟩
    dsimp only
    go_wp2_with (first
      | (go_at_call 10; fail))
    have hcb : Chg (fun _ => False) wr (wr.alloc (.cells #[.slice none 0 0, .map none, .int .i64 0, .bool false, .int .i64 0] 47)) := (Chg.refl _ _).alloc _
    refine (open_no (wr.alloc (.cells #[.slice none 0 0, .map none, .int .i64 0, .bool false, .int .i64 0] 47)) (some ⟨wr.heap.size, 0, none⟩) (Or.inr ⟨_, rfl, cell_of_block (block_alloc_new _ _) rfl⟩)).mono ?_
    rintro e w1 ⟨rfl, rfl⟩
    dsimp only
    go_wp2_with (first
      | (go_at_call 19; refine (HWk.out _).mono ?_; rintro e w9 ⟨rfl, hc9⟩; have HC9 := Lib.hid hc9; clear hc9))
    go_ret
    exact ⟨rfl, (HC.out.trans' HX.out).trans' (hcb.trans' HC9.out)⟩

set_option maxRecDepth 100000 in
theorem lifted (os : Os) (started : os.Started) (H : Type) (enc : TypeId × Value → H) :
    ReturnsInHanded {} Try.checked os 4 .any (Rows.walNobodySpec.pre6 enc Try.prog Try.f4 [] false) (Rows.walNobodySpec.post enc Try.prog Try.f4 false true false false) := by
  refine law_handed (C := Try.checked) (tb := 4) own started (by kernel_rfl) Try.func4
    (ChangeSpec.witness6 (enc := enc) (C := Try.checked) false ⟨#[], #[.string ⟨#[]⟩], []⟩ 8 (by kernel_rfl) (by kernel_rfl) (by kernel_rfl) (by kernel_rfl))
    laidOut (by rw [show Try.checked.prog = Try.prog from rfl, Try.params4]; intro t ht; simp at ht; subst ht; exact ⟨by kernel_rfl, of_decide_eq_true (by kernel_rfl)⟩) rfl rfl Try.underlying4 ?_ ?_
  · intro ds hds
    rw [Try.params4] at hds
    match ds, hds with
    | [_], _ => rfl
  · intro W base args ds before hval0 hA0 _ hsz0
    have hval : ∀ (j : Nat) t v, Try.f4.params[j]? = some t → args[j]? = some v → Value.okWide Try.prog W .any base t v := hval0
    have hA : DataW.TrodAll enc Try.prog W 0 (fun _ => true) true Try.f4.params.toList args.toList ds before := hA0
    rw [Try.params4] at hA hval
    obtain ⟨v0, vs0, d0, ds0, p0, q0, hargs, rfl, rfl, h0, r0⟩ := trodAll_cons hA
    obtain ⟨rfl, rfl, rfl⟩ := trodAll_nil r0
    obtain rfl : args = #[v0] := by cases args; simp_all
    obtain ⟨b0, rfl, hb0⟩ := open_str (hval 0 9 v0 rfl rfl) h0
    exact walk W b0 hb0

theorem over : Rows.walNobodyRow.holds Try.pinned (OpenSpec.ofChange Rows.walNobodySpec) :=
  OpenClaim.holds_of_wide 4 Try.f4 rfl rfl rfl rfl rfl rfl rfl ⟨rfl, rfl, rfl, rfl, rfl⟩ rfl rfl rfl rfl rfl (by kernel_rfl) Try.func4 (by kernel_rfl)
    (of_decide_eq_true (by kernel_rfl)) (by unfold Func.isWrapper; first | (rw [if_pos (by decide +kernel)]; kernel_rfl) | (rw [if_neg (by decide +kernel)]; exact ⟨rfl, rfl⟩))
    (fun os started H enc _ => lifted os started H enc)

theorem proved : Rows.WalNobodySaid := over
#print axioms proved


end Go.Proofs.Ytcfgcllphfooaaa.walNobody
end
