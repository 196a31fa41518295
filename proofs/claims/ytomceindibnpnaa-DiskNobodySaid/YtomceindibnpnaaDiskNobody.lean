/-
  DiskNobody, whole: for every call's numbers the law returns true and changes nothing that was there. No condition.
-/
import Derived.Test.YtomceindibnpnaaDiskNo
import Derived.Test.YtomceindibnpnaaDiskBytes
import Derived.Test.YtomceindibnpnaaRows
import Derived.Deep.RegionHeld3
namespace Go.Proofs.Ytomceindibnpnaa.diskNobody
open Go.ChangeShapes Go.WideShapes Go.ChangeAt Go.RowKit Go.My disks

theorem NoDisk.kept {w w' : World} {p : Option Addr} (h : NoDisk w p) (hc : Chg (fun _ => False) w w') : NoDisk w' p := by
  rcases h with h | ⟨T, h, c⟩
  · exact Or.inl h
  · exact Or.inr ⟨T, h, hc.cell c id⟩

set_option maxRecDepth 100000 in
set_option maxHeartbeats 2000000 in
theorem walk (a : DAct) (W : World) (ok : a.ok W) : Calls Try.prog 13 #[.agg #[.int .i64 a.kind, .int .i64 a.place, .int .i64 a.n, .int .i64 a.long, a.kv]] W fun e w' => e = .returned (.bool true) ∧ Chg (fun _ => False) W w' := by
  go_enter Try.func13, Try.ntmps13
  go_wp2_with fail
  obtain ⟨w0, hw0⟩ : ∃ w0, ((W.alloc (.cells #[.int .i64 a.kind, .int .i64 a.place, .int .i64 a.n, .int .i64 a.long, a.kv] 66)).alloc (.cells #[.slice none 0 0, .map none, .int .i64 0, .bool false, .int .i64 0] 94)).alloc (.cells #[.pointer none, .pointer (some ⟨W.heap.size + 1, 0, none⟩)] 55) = w0 := ⟨_, rfl⟩
  rw [hw0]
  have b1 : w0.heap[W.heap.size]? = some (.cells #[.int .i64 a.kind, .int .i64 a.place, .int .i64 a.n, .int .i64 a.long, a.kv] 66 (0, 0)) := by
    subst hw0; simp only [heap_alloc_get, World.size_alloc]; rw [if_neg (by omega), if_neg (by omega), if_pos trivial]
  have b2 : w0.heap[W.heap.size + 1]? = some (.cells #[.slice none 0 0, .map none, .int .i64 0, .bool false, .int .i64 0] 94 (0, 0)) := by
    subst hw0; simp only [heap_alloc_get, World.size_alloc]; rw [if_neg (by omega), if_pos trivial]
  have b3 : w0.heap[W.heap.size + 1 + 1]? = some (.cells #[.pointer none, .pointer (some ⟨W.heap.size + 1, 0, none⟩)] 55 (0, 0)) := by
    subst hw0; simp only [heap_alloc_get, World.size_alloc]; rw [if_pos trivial]
  have hc0 : Chg (fun _ => False) W w0 := by subst hw0; exact (((Chg.refl _ _).alloc _).alloc _).alloc _
  have hn1 : ∀ w', Chg (fun _ => False) w0 w' → NoDisk w' (some ⟨W.heap.size + 1, 0, none⟩) := fun w' hc => NoDisk.kept (Or.inr ⟨_, rfl, cell_of_block b2 rfl⟩) hc
  have hn0 : ∀ w', Chg (fun _ => False) w0 w' → NoDisk w' none := fun w' hc => Or.inl rfl
  have B1 := Lib.hid b1
  have B3 := Lib.hid b3
  have HN0 := Lib.hid hn0
  have HN1 := Lib.hid hn1
  have HC := Lib.hid hc0
  clear hn0 hn1 hc0 b1 b2 b3 hw0
  go_loopw [11] (fun j w' => ∃ m : Nat, j = .int .i64 m ∧ m ≤ 2 ∧ Chg (fun _ => False) w0 w') (fun j _ => 2 - (intOf j).toNat)
  case atStart => exact ⟨0, rfl, by omega, Chg.refl _ _⟩
  case round =>
    obtain ⟨m, rfl, hm, hcx⟩ := hrel
    have a1 := hcx.cell (cell_of_block B1.out (i := 1) rfl) id
    have a0 := hcx.cell (cell_of_block B1.out (i := 0) rfl) id
    have a3 := hcx.cell (cell_of_block B1.out (i := 3) rfl) id
    have a2 := hcx.cell (cell_of_block B1.out (i := 2) rfl) id
    have a4 := hcx.cell (cell_of_block B1.out (i := 4) rfl) id
    have p0 := hcx.cell (cell_of_block B3.out (i := 0) rfl) id
    have p1 := hcx.cell (cell_of_block B3.out (i := 1) rfl) id
    by_cases hlt : m < 2
    · obtain ⟨p, pc, hN⟩ : ∃ p, wr.cell? ⟨W.heap.size + 1 + 1, m, none⟩ = some (.pointer p) ∧ ∀ w', Chg (fun _ => False) w0 w' → NoDisk w' p := by
        match m, hlt with
        | 0, _ => exact ⟨_, p0, HN0.out⟩
        | 1, _ => exact ⟨_, p1, HN1.out⟩
      clear p0 p1
      have HN := Lib.hid hN
      clear hN
      go_wp2_with (go_at_call 35; refine (read_no _ _ (HN.out _ hcx) _).mono ?_; rintro e w' ⟨rfl, rfl⟩)
      clear pc
      have hch := hcx.drew
      simp only [List.append_eq, List.cons_append, List.nil_append]
      go_region_held3 (fun w' => Chg (fun _ => False) w0 w' ∧ w'.cell? ⟨W.heap.size, 0, none⟩ = some (.int .i64 a.kind) ∧ w'.cell? ⟨W.heap.size, 1, none⟩ = some (.int .i64 a.place) ∧ w'.cell? ⟨W.heap.size, 2, none⟩ = some (.int .i64 a.n) ∧ w'.cell? ⟨W.heap.size, 3, none⟩ = some (.int .i64 a.long) ∧ w'.cell? ⟨W.heap.size, 4, none⟩ = some a.kv) (go_keep)
        (first
        | (go_at_call 47; refine (blocks_no _ _ (HN.out _ (by assumption))).mono ?_; rintro e w' ⟨rfl, rfl⟩)
        | (go_at_call 33; refine (write_no _ _ (HN.out _ (by assumption)) _ _).mono ?_; rintro e w' ⟨rfl, rfl⟩)
        | (go_at_call 30; refine (flush_no _ _ (HN.out _ (by assumption))).mono ?_; rintro e w' ⟨rfl, rfl⟩)
        | (go_at_call 39; refine (fuse_no _ _ (HN.out _ (by assumption)) _).mono ?_; rintro e w' ⟨rfl, rfl⟩)
        | (go_at_call 32; refine (crash_no _ _ (HN.out _ (by assumption)) _).mono ?_; rintro e w' ⟨rfl, rfl⟩)
        | (go_at_call 37; refine (up_no _ _ (HN.out _ (by assumption))).mono ?_; rintro e w' ⟨rfl, rfl⟩)
        | (go_at_call 40; refine (done_no _ _ (HN.out _ (by assumption))).mono ?_; rintro e w' ⟨rfl, rfl⟩)
        | (go_at_call 36; refine (waiting_no _ _ (HN.out _ (by assumption))).mono ?_; rintro e w' ⟨rfl, rfl⟩)
        | (go_at_call 31; refine (image_no _ _ (HN.out _ (by assumption))).mono ?_; rintro e w' ⟨rfl, rfl⟩)
        | (go_at_call 41; refine (copy_no _ _ (HN.out _ (by assumption))).mono ?_; rintro e w' ⟨rfl, rfl⟩)
        | (go_at_call 34; refine (bytesOf_any _ a ok.n ok.long).mono ?_; rintro e w' ⟨v, rfl, -, hc⟩; have hC := Chg.trans' (S := fun _ => False) (a := w0) (by assumption) hc; have e1 := hC.cell (cell_of_block B1.out (i := 1) rfl) id; have e2 := hC.cell (cell_of_block B1.out (i := 2) rfl) id; have e4 := hC.cell (cell_of_block B1.out (i := 4) rfl) id; have e0 := hC.cell (cell_of_block B1.out (i := 0) rfl) id; have e3 := hC.cell (cell_of_block B1.out (i := 3) rfl) id; clear hc))
      all_goals go_wp2_with fail
      all_goals exact ⟨⟨m + 1, by go_num, by omega, by assumption⟩, by simp [intOf]; omega⟩
    · go_wp2_with fail
      go_ret
      exact ⟨rfl, HC.out.trans' hcx⟩

set_option maxRecDepth 100000 in
theorem lifted (os : Os) (started : os.Started) (H : Type) (enc : TypeId × Value → H) :
    ReturnsInHanded {} Try.checked os 13 .any (Rows.diskNobodySpec.pre6 enc Try.prog Try.f13 [] false) (Rows.diskNobodySpec.post enc Try.prog Try.f13 false true false false) := by
  refine law_handed (C := Try.checked) (tb := 4) own started (by kernel_rfl) Try.func13
    (ChangeSpec.witness6 (enc := enc) (C := Try.checked) false ⟨#[], #[.agg #[.int .i64 0, .int .i64 0, .int .i64 0, .int .i64 0, .slice none 0 0]], []⟩ 8 (by kernel_rfl) (by kernel_rfl) (by kernel_rfl) (by kernel_rfl))
    laidOut (by rw [show Try.checked.prog = Try.prog from rfl, Try.params13]; intro t ht; simp at ht; subst ht; exact ⟨by kernel_rfl, of_decide_eq_true (by kernel_rfl)⟩) rfl rfl Try.underlying4 ?_ ?_
  · intro ds hds
    rw [Try.params13] at hds
    match ds, hds with
    | [_], _ => rfl
  · intro W base args ds before hval0 hA0 _ _
    have hval : ∀ (j : Nat) t v, Try.f13.params[j]? = some t → args[j]? = some v → Value.okWide Try.prog W .any base t v := hval0
    have hA : DataW.TrodAll enc Try.prog W 0 (fun _ => true) true Try.f13.params.toList args.toList ds before := hA0
    rw [Try.params13] at hA hval
    obtain ⟨v0, vs0, d0, ds0, p0, q0, hargs, rfl, rfl, h0, r0⟩ := trodAll_cons hA
    obtain ⟨rfl, rfl, rfl⟩ := trodAll_nil r0
    obtain rfl : args = #[v0] := by cases args; simp_all
    obtain ⟨a, rfl, ok⟩ := open_act (hval 0 66 v0 rfl rfl) h0
    exact walk a W ok

theorem over : Rows.diskNobodyRow.holds Try.pinned (OpenSpec.ofChange Rows.diskNobodySpec) :=
  OpenClaim.holds_of_wide 13 Try.f13 rfl rfl rfl rfl rfl rfl rfl ⟨rfl, rfl, rfl, rfl, rfl⟩ rfl rfl rfl rfl rfl (by kernel_rfl) Try.func13 (by kernel_rfl)
    (of_decide_eq_true (by kernel_rfl)) (by unfold Func.isWrapper; first | (rw [if_pos (by decide +kernel)]; kernel_rfl) | (rw [if_neg (by decide +kernel)]; exact ⟨rfl, rfl⟩))
    (fun os started H enc _ => lifted os started H enc)

theorem proved : Rows.DiskNobodySaid := over
#print axioms proved

end Go.Proofs.Ytomceindibnpnaa.diskNobody
