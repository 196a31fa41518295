/-
  CapsNobody, whole: for every call's numbers the law returns true and changes nothing that was there. No condition.
-/
import Derived.Test.YtomceindibnpnaaCapsActs
import Derived.Test.YtomceindibnpnaaRows
namespace Go.Proofs.Ytomceindibnpnaa.capsNobody
open Go.ChangeShapes Go.WideShapes Go.ChangeAt Go.RowKit Go.My

/-- A table that New did not make: nil, or a plain Table{}. -/
def NoTab (w : World) (p : Option Addr) : Prop := p = none ∨ ∃ T, p = some ⟨T, 0, none⟩ ∧ w.cell? ⟨T, 0, none⟩ = some (.pointer none)

theorem none_yes (w : World) (p : Option Addr) (h : NoTab w p) : Calls Try.prog 49 #[.pointer p] w fun e w' => e = .returned (.bool true) ∧ w = w' := by
  rcases h with rfl | ⟨T, rfl, c⟩
  · go_enter Try.func49, Try.ntmps49
    go_wp2
    go_ret
    exact ⟨rfl, rfl⟩
  · go_enter Try.func49, Try.ntmps49
    go_wp2
    go_ret
    exact ⟨rfl, rfl⟩

theorem asked_no (w : World) (p : Option Addr) (h : NoTab w p) (id root : Int) : Calls Try.prog 50 #[.pointer p, .int .i64 id, .int .i64 root] w fun e w' => e = .returned (.int .i64 1) ∧ w = w' := by
  have H := Lib.hid h
  clear h
  go_enter Try.func50, Try.ntmps50
  go_wp2_with (first
    | (go_at_call 49; refine (none_yes _ _ H.out).mono ?_; rintro e w' ⟨rfl, rfl⟩))
  go_ret
  exact ⟨rfl, rfl⟩

theorem tenant_no (w : World) (p : Option Addr) (h : NoTab w p) (id quota : Int) : Calls Try.prog 16 #[.pointer p, .int .i64 id, .int .i64 quota] w fun e w' => e = .returned (.int .i64 1) ∧ w = w' := by
  have H := Lib.hid h
  clear h
  go_enter Try.func16, Try.ntmps16
  go_wp2_with (first
    | (go_at_call 49; refine (none_yes _ _ H.out).mono ?_; rintro e w' ⟨rfl, rfl⟩)
    | (go_at_call 50; refine (asked_no _ _ H.out _ _).mono ?_; rintro e w' ⟨rfl, rfl⟩))
  go_ret
  exact ⟨rfl, rfl⟩

theorem grant_no (w : World) (p : Option Addr) (h : NoTab w p) (id root : Int) : Calls Try.prog 19 #[.pointer p, .int .i64 id, .int .i64 root] w fun e w' => e = .returned (.int .i64 1) ∧ w = w' := by
  have H := Lib.hid h
  clear h
  go_enter Try.func19, Try.ntmps19
  go_wp2_with (first
    | (go_at_call 49; refine (none_yes _ _ H.out).mono ?_; rintro e w' ⟨rfl, rfl⟩)
    | (go_at_call 50; refine (asked_no _ _ H.out _ _).mono ?_; rintro e w' ⟨rfl, rfl⟩))
  go_ret
  exact ⟨rfl, rfl⟩

theorem revoke_no (w : World) (p : Option Addr) (h : NoTab w p) (id root : Int) : Calls Try.prog 20 #[.pointer p, .int .i64 id, .int .i64 root] w fun e w' => e = .returned (.int .i64 1) ∧ w = w' := by
  have H := Lib.hid h
  clear h
  go_enter Try.func20, Try.ntmps20
  go_wp2_with (first
    | (go_at_call 49; refine (none_yes _ _ H.out).mono ?_; rintro e w' ⟨rfl, rfl⟩)
    | (go_at_call 50; refine (asked_no _ _ H.out _ _).mono ?_; rintro e w' ⟨rfl, rfl⟩))
  go_ret
  exact ⟨rfl, rfl⟩

theorem may_no (w : World) (p : Option Addr) (h : NoTab w p) (id root : Int) : Calls Try.prog 21 #[.pointer p, .int .i64 id, .int .i64 root] w fun e w' => e = .returned (.bool false) ∧ w = w' := by
  have H := Lib.hid h
  clear h
  go_enter Try.func21, Try.ntmps21
  go_wp2_with (first
    | (go_at_call 49; refine (none_yes _ _ H.out).mono ?_; rintro e w' ⟨rfl, rfl⟩)
    | (go_at_call 50; refine (asked_no _ _ H.out _ _).mono ?_; rintro e w' ⟨rfl, rfl⟩))
  go_ret
  exact ⟨rfl, rfl⟩

theorem quota_no (w : World) (p : Option Addr) (h : NoTab w p) (id : Int) : Calls Try.prog 22 #[.pointer p, .int .i64 id] w fun e w' => e = .returned (.tuple #[.int .i64 0, .bool false]) ∧ w = w' := by
  have H := Lib.hid h
  clear h
  go_enter Try.func22, Try.ntmps22
  go_wp2_with (first
    | (go_at_call 49; refine (none_yes _ _ H.out).mono ?_; rintro e w' ⟨rfl, rfl⟩)
    | (go_at_call 50; refine (asked_no _ _ H.out _ _).mono ?_; rintro e w' ⟨rfl, rfl⟩))
  go_ret2
  exact ⟨rfl, rfl⟩

theorem fits_no (w : World) (p : Option Addr) (h : NoTab w p) (id used more : Int) : Calls Try.prog 18 #[.pointer p, .int .i64 id, .int .i64 used, .int .i64 more] w fun e w' => e = .returned (.int .i64 1) ∧ w = w' := by
  have H := Lib.hid h
  clear h
  go_enter Try.func18, Try.ntmps18
  go_wp2_with (first
    | (go_at_call 49; refine (none_yes _ _ H.out).mono ?_; rintro e w' ⟨rfl, rfl⟩)
    | (go_at_call 50; refine (asked_no _ _ H.out _ _).mono ?_; rintro e w' ⟨rfl, rfl⟩))
  go_ret
  exact ⟨rfl, rfl⟩

theorem copy_no (w : World) (p : Option Addr) (h : NoTab w p)  : Calls Try.prog 25 #[.pointer p] w fun e w' => e = .returned (.pointer none) ∧ w = w' := by
  have H := Lib.hid h
  clear h
  go_enter Try.func25, Try.ntmps25
  go_wp2_with (first
    | (go_at_call 49; refine (none_yes _ _ H.out).mono ?_; rintro e w' ⟨rfl, rfl⟩)
    | (go_at_call 50; refine (asked_no _ _ H.out _ _).mono ?_; rintro e w' ⟨rfl, rfl⟩))
  go_ret
  exact ⟨rfl, rfl⟩

theorem roots_no (w : World) (p : Option Addr) (h : NoTab w p) (id : Int) : Calls Try.prog 24 #[.pointer p, .int .i64 id] w fun e w' => e = .returned (.slice none 0 0) ∧ w = w' := by
  have H := Lib.hid h
  clear h
  go_enter Try.func24, Try.ntmps24
  go_wp2_with fail
  go_loop [5, 6] (fun v r => ∃ k : Nat, r = .int .i64 ((k : Int) + 1) ∧ k ≤ 6 ∧ v = .slice none 0 0) (fun _ r => 8 - (intOf r).toNat)
  case atStart => exact ⟨0, rfl, by omega, rfl⟩
  case round =>
    obtain ⟨k, rfl, hk, rfl⟩ := hrel
    by_cases hlt : k < 6
    · go_wp2_with (go_at_call 21; refine (may_no _ _ H.out _ _).mono ?_; rintro e w' ⟨rfl, rfl⟩)
      exact ⟨⟨k + 1, by go_num, by omega, rfl⟩, by simp [intOf]; omega⟩
    · go_wp2_with fail
      go_ret
      exact ⟨rfl, rfl⟩

theorem tenants_no (w : World) (p : Option Addr) (h : NoTab w p) : Calls Try.prog 28 #[.pointer p] w fun e w' => e = .returned (.slice none 0 0) ∧ w = w' := by
  have H := Lib.hid h
  clear h
  go_enter Try.func28, Try.ntmps28
  go_wp2_with fail
  go_loop [3, 4] (fun v r => ∃ k : Nat, r = .int .i64 ((k : Int) + 1) ∧ k ≤ 8 ∧ v = .slice none 0 0) (fun _ r => 10 - (intOf r).toNat)
  case atStart => exact ⟨0, rfl, by omega, rfl⟩
  case round =>
    obtain ⟨k, rfl, hk, rfl⟩ := hrel
    by_cases hlt : k < 8
    · go_wp2_with (go_at_call 22; refine (quota_no _ _ H.out _).mono ?_; rintro e w' ⟨rfl, rfl⟩)
      exact ⟨⟨k + 1, by go_num, by omega, rfl⟩, by simp [intOf]; omega⟩
    · go_wp2_with fail
      go_ret
      exact ⟨rfl, rfl⟩


set_option maxRecDepth 100000 in
set_option maxHeartbeats 1000000 in
theorem walk (a : Act) (W : World) : Calls Try.prog 7 #[.agg #[.int .i64 a.kind, .int .i64 a.id, .int .i64 a.root, .int .i64 a.quota, .int .i64 a.used, .int .i64 a.more]] W fun e w' => e = .returned (.bool true) ∧ Chg (fun _ => False) W w' := by
  go_enter Try.func7, Try.ntmps7
  go_wp2_with fail
  obtain ⟨w0, hw0⟩ : ∃ w0, ((W.alloc (.cells #[.int .i64 a.kind, .int .i64 a.id, .int .i64 a.root, .int .i64 a.quota, .int .i64 a.used, .int .i64 a.more] 34)).alloc (.cells #[.pointer none] 51)).alloc (.cells #[.pointer none, .pointer (some ⟨W.heap.size + 1, 0, none⟩)] 22) = w0 := ⟨_, rfl⟩
  rw [hw0]
  have b1 : w0.heap[W.heap.size]? = some (.cells #[.int .i64 a.kind, .int .i64 a.id, .int .i64 a.root, .int .i64 a.quota, .int .i64 a.used, .int .i64 a.more] 34 (0, 0)) := by
    subst hw0; simp only [heap_alloc_get, World.size_alloc]; rw [if_neg (by omega), if_neg (by omega), if_pos trivial]
  have b2 : w0.heap[W.heap.size + 1]? = some (.cells #[.pointer none] 51 (0, 0)) := by
    subst hw0; simp only [heap_alloc_get, World.size_alloc]; rw [if_neg (by omega), if_pos trivial]
  have b3 : w0.heap[W.heap.size + 1 + 1]? = some (.cells #[.pointer none, .pointer (some ⟨W.heap.size + 1, 0, none⟩)] 22 (0, 0)) := by
    subst hw0; simp only [heap_alloc_get, World.size_alloc]; rw [if_pos trivial]
  have hc0 : Chg (fun _ => False) W w0 := by subst hw0; exact (((Chg.refl _ _).alloc _).alloc _).alloc _
  have a1 := cell_of_block b1 (i := 1) rfl
  have a2 := cell_of_block b1 (i := 2) rfl
  have a3 := cell_of_block b1 (i := 3) rfl
  have a4 := cell_of_block b1 (i := 4) rfl
  have a5 := cell_of_block b1 (i := 5) rfl
  have p0 := cell_of_block b3 (i := 0) rfl
  have p1 := cell_of_block b3 (i := 1) rfl
  have hn1 : NoTab w0 (some ⟨W.heap.size + 1, 0, none⟩) := Or.inr ⟨_, rfl, cell_of_block b2 rfl⟩
  have hn0 : NoTab w0 none := Or.inl rfl
  have HN0 := Lib.hid hn0
  have HN1 := Lib.hid hn1
  have HC := Lib.hid hc0
  clear hn0 hn1 hc0 b1 b2 b3 hw0
  go_loop [11] (fun j => ∃ m : Nat, j = .int .i64 m ∧ m ≤ 2) (fun j => 2 - (intOf j).toNat)
  case atStart => exact ⟨0, rfl, by omega⟩
  case round =>
    obtain ⟨m, rfl, hm⟩ := hrel
    match m, hm with
    | 0, _ =>
      have HN := HN0
      go_wp2_with (first
      | (go_at_call 22; refine (quota_no _ _ HN.out _).mono ?_; rintro e w' ⟨rfl, rfl⟩)
      | (go_at_call 16; refine (tenant_no _ _ HN.out _ _).mono ?_; rintro e w' ⟨rfl, rfl⟩)
      | (go_at_call 19; refine (grant_no _ _ HN.out _ _).mono ?_; rintro e w' ⟨rfl, rfl⟩)
      | (go_at_call 20; refine (revoke_no _ _ HN.out _ _).mono ?_; rintro e w' ⟨rfl, rfl⟩)
      | (go_at_call 21; refine (may_no _ _ HN.out _ _).mono ?_; rintro e w' ⟨rfl, rfl⟩)
      | (go_at_call 18; refine (fits_no _ _ HN.out _ _ _).mono ?_; rintro e w' ⟨rfl, rfl⟩)
      | (go_at_call 28; refine (tenants_no _ _ HN.out).mono ?_; rintro e w' ⟨rfl, rfl⟩)
      | (go_at_call 24; refine (roots_no _ _ HN.out _).mono ?_; rintro e w' ⟨rfl, rfl⟩)
      | (go_at_call 25; refine (copy_no _ _ HN.out).mono ?_; rintro e w' ⟨rfl, rfl⟩))
      exact ⟨⟨1, rfl, by omega⟩, by simp [intOf]⟩
    | 1, _ =>
      have HN := HN1
      go_wp2_with (first
      | (go_at_call 22; refine (quota_no _ _ HN.out _).mono ?_; rintro e w' ⟨rfl, rfl⟩)
      | (go_at_call 16; refine (tenant_no _ _ HN.out _ _).mono ?_; rintro e w' ⟨rfl, rfl⟩)
      | (go_at_call 19; refine (grant_no _ _ HN.out _ _).mono ?_; rintro e w' ⟨rfl, rfl⟩)
      | (go_at_call 20; refine (revoke_no _ _ HN.out _ _).mono ?_; rintro e w' ⟨rfl, rfl⟩)
      | (go_at_call 21; refine (may_no _ _ HN.out _ _).mono ?_; rintro e w' ⟨rfl, rfl⟩)
      | (go_at_call 18; refine (fits_no _ _ HN.out _ _ _).mono ?_; rintro e w' ⟨rfl, rfl⟩)
      | (go_at_call 28; refine (tenants_no _ _ HN.out).mono ?_; rintro e w' ⟨rfl, rfl⟩)
      | (go_at_call 24; refine (roots_no _ _ HN.out _).mono ?_; rintro e w' ⟨rfl, rfl⟩)
      | (go_at_call 25; refine (copy_no _ _ HN.out).mono ?_; rintro e w' ⟨rfl, rfl⟩))
      exact ⟨⟨2, rfl, by omega⟩, by simp [intOf]⟩
    | 2, _ =>
      go_wp2_with (go_at_call 17; refine (works_any _).mono ?_; rintro e w5 ⟨rfl, hc5⟩)
      go_ret
      exact ⟨rfl, HC.out.trans' hc5⟩

theorem own : ownKnob Try.prog.godebug = none := by kernel_rfl

set_option maxRecDepth 100000 in
theorem lifted (os : Os) (started : os.Started) (H : Type) (enc : TypeId × Value → H) :
    ReturnsInHanded {} Try.checked os 7 .any (Rows.capsNobodySpec.pre6 enc Try.prog Try.f7 [] false) (Rows.capsNobodySpec.post enc Try.prog Try.f7 false true false false) := by
  refine law_handed (C := Try.checked) (tb := 4) own started (by kernel_rfl) Try.func7
    (ChangeSpec.witness6 (enc := enc) (C := Try.checked) false ⟨#[], #[.agg #[.int .i64 0, .int .i64 0, .int .i64 0, .int .i64 0, .int .i64 0, .int .i64 0]], []⟩ 8 (by kernel_rfl) (by kernel_rfl) (by kernel_rfl) (by kernel_rfl))
    laidOut (by rw [show Try.checked.prog = Try.prog from rfl, Try.params7]; intro t ht; simp at ht; subst ht; exact ⟨by kernel_rfl, of_decide_eq_true (by kernel_rfl)⟩) rfl rfl Try.underlying4 ?_ ?_
  · intro ds hds
    rw [Try.params7] at hds
    match ds, hds with
    | [_], _ => rfl
  · intro W base args ds before hval0 hA0 _ _
    have hval : ∀ (j : Nat) t v, Try.f7.params[j]? = some t → args[j]? = some v → Value.okWide Try.prog W .any base t v := hval0
    have hA : DataW.TrodAll enc Try.prog W 0 (fun _ => true) true Try.f7.params.toList args.toList ds before := hA0
    rw [Try.params7] at hA hval
    obtain ⟨v0, vs0, d0, ds0, p0, q0, hargs, rfl, rfl, h0, r0⟩ := trodAll_cons hA
    obtain ⟨rfl, rfl, rfl⟩ := trodAll_nil r0
    obtain rfl : args = #[v0] := by cases args; simp_all
    obtain ⟨a, rfl, _⟩ := open_act (hval 0 34 v0 rfl rfl) h0
    exact walk a W

theorem over : Rows.capsNobodyRow.holds Try.pinned (OpenSpec.ofChange Rows.capsNobodySpec) :=
  OpenClaim.holds_of_wide 7 Try.f7 rfl rfl rfl rfl rfl rfl rfl ⟨rfl, rfl, rfl, rfl, rfl⟩ rfl rfl rfl rfl rfl (by kernel_rfl) Try.func7 (by kernel_rfl)
    (of_decide_eq_true (by kernel_rfl)) (by unfold Func.isWrapper; first | (rw [if_pos (by decide +kernel)]; kernel_rfl) | (rw [if_neg (by decide +kernel)]; exact ⟨rfl, rfl⟩))
    (fun os started H enc _ => lifted os started H enc)

theorem proved : Rows.CapsNobodySaid := over
#print axioms proved

end Go.Proofs.Ytomceindibnpnaa.capsNobody
