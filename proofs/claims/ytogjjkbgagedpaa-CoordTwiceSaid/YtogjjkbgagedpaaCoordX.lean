/-
  coord's laws: Take of any message that may not come, and of one about what is not known.
-/
import Derived.Test.YtogjjkbgagedpaaCoordW
namespace Go.Proofs.Ytogjjkbgagedpaa.coords
open Go.RowKit Go.Maps Go.My Go.ChangeMaps
set_option maxRecDepth 100000

variable {w w' : World} {c q x qa : Nat} {F F' Fc : Nat → Prop} {lim : Int} {m : List (Int × Nat)} {E : EV} {pv : Value}



set_option maxHeartbeats 1000000 in
theorem take_bad (w : World) (hC : CoIs w c Fc lim m q) (kd f t tx : Int) (y : Bool) (oa : Option Addr) (cap : Nat) (ps : List (List Value)) (h : MsgOk w oa cap ps) (hv : ¬ Up kd f t tx y ps.length) :
    Calls Try.prog 13 #[ptrV c, .agg #[.int .i64 kd, .int .i64 f, .int .i64 t, .int .i64 tx, .bool y, .slice oa ps.length cap]] w fun e w' => e = .returned (saidV 0) ∧ Chg (fun _ => False) w w' := by
  have HC := Lib.hid hC
  have H := Lib.hid h
  have HV := Lib.hid hv
  clear hC h hv
  by_cases ht0 : t = 0
  · have HT0 := Lib.hid ht0
    clear ht0
    have hmf : ∀ (fn : Fn) (first cap : Array Value) (w : World), (Instr.makeFunc fn first cap).run Try.prog w = .ok (.func fn first cap) w := fun _ _ _ _ => rfl
    unfold ptrV
    go_enter Try.func13, Try.ntmps13
    go_wp2_with fail
    obtain ⟨w0, hw0⟩ : ∃ w0, (w.alloc (.cells #[.int .i64 kd, .int .i64 f, .int .i64 t, .int .i64 tx, .bool y, .slice oa ps.length cap] 24)).alloc (.cells #[.slice none 0 0, .int .i64 0, .int .i64 0, .int .i64 0] 36) = w0 := ⟨_, rfl⟩
    rw [hw0]
    have hb0 : w0.heap[w.heap.size]? = some (.cells #[.int .i64 kd, .int .i64 f, .int .i64 t, .int .i64 tx, .bool y, .slice oa ps.length cap] 24 (0, 0)) := by
      subst hw0; simp only [heap_alloc_get, World.size_alloc]; rw [if_neg (by omega), if_pos trivial]
    have hb1 : Arr w0 (w.heap.size + 1) 36 (saidL 0) := by
      subst hw0; unfold Arr; simp only [heap_alloc_get, World.size_alloc]; rw [if_pos trivial]; rfl
    have hc0 : Chg (fun _ => False) w w0 := by subst hw0; exact ((Chg.refl _ _).alloc _).alloc _
    have HB0 := Lib.hid hb0
    have HB1 := Lib.hid hb1
    have HC0 := Lib.hid hc0
    clear hb0 hb1 hc0 hw0
    have b0 := cell_of_block (i := 0) HB0.out rfl
    have b1 := cell_of_block (i := 1) HB0.out rfl
    have b2 := cell_of_block (i := 2) HB0.out rfl
    have b3 := cell_of_block (i := 3) HB0.out rfl
    have b4 := cell_of_block (i := 4) HB0.out rfl
    have b5 := cell_of_block (i := 5) HB0.out rfl
    go_wp2_with (first
      | (go_at_call 34; refine (none_no _ (HC.out.fresh HC0.out)).mono ?_; rintro e w1 ⟨rfl, rfl⟩)
      | (go_at_call 35; refine (wire_bad _ kd f t tx y oa cap ps (H.out.kept HC0.out) HV.out).mono ?_; rintro e w1 ⟨⟨n, rfl, hn⟩, hc1⟩
         have HC1 := Lib.hid (HC0.out.trans' hc1)
         have hd0 := hc1.at HB0.out id
         have d2 : w1.cell? ⟨w.heap.size, 2, none⟩ = some (.int .i64 t) := cell_of_block hd0 rfl
         have HS := Lib.hid (said_store (l0 := 0) (show Arr w1 (w.heap.size + 1) 36 (saidL 0) from hc1.at HB1.out id) 0)
         have hn0 : ¬ n = 0 := fun e => hn e HT0.out
         clear hc1 hd0 b0 b1 b2 b3 b4 b5)
      | (refine wpList_store_mid rfl 36 _ _ rfl (w.heap.size + 1) 0 (saidL 0).toArray rfl rfl HS.out.there HS.out.size HS.out.one ?_; rw [List.toList_toArray]))
    all_goals (try simp only [Exit.inBlock, Exit.then])
    all_goals refine bodyPost_ret (result1 rfl _ rfl HS.out.load) rfl ?_
    all_goals exact ⟨rfl, HC1.out.new HS.out.chg (fun k e => by omega)⟩
  · have htb : (t == 0) = false := by simp [ht0]
    have hmf : ∀ (fn : Fn) (first cap : Array Value) (w : World), (Instr.makeFunc fn first cap).run Try.prog w = .ok (.func fn first cap) w := fun _ _ _ _ => rfl
    unfold ptrV
    go_enter Try.func13, Try.ntmps13
    go_wp2_with fail
    obtain ⟨w0, hw0⟩ : ∃ w0, (w.alloc (.cells #[.int .i64 kd, .int .i64 f, .int .i64 t, .int .i64 tx, .bool y, .slice oa ps.length cap] 24)).alloc (.cells #[.slice none 0 0, .int .i64 0, .int .i64 0, .int .i64 0] 36) = w0 := ⟨_, rfl⟩
    rw [hw0]
    have hb0 : w0.heap[w.heap.size]? = some (.cells #[.int .i64 kd, .int .i64 f, .int .i64 t, .int .i64 tx, .bool y, .slice oa ps.length cap] 24 (0, 0)) := by
      subst hw0; simp only [heap_alloc_get, World.size_alloc]; rw [if_neg (by omega), if_pos trivial]
    have hb1 : Arr w0 (w.heap.size + 1) 36 (saidL 0) := by
      subst hw0; unfold Arr; simp only [heap_alloc_get, World.size_alloc]; rw [if_pos trivial]; rfl
    have hc0 : Chg (fun _ => False) w w0 := by subst hw0; exact ((Chg.refl _ _).alloc _).alloc _
    have HB0 := Lib.hid hb0
    have HB1 := Lib.hid hb1
    have HC0 := Lib.hid hc0
    clear hb0 hb1 hc0 hw0
    have b0 := cell_of_block (i := 0) HB0.out rfl
    have b1 := cell_of_block (i := 1) HB0.out rfl
    have b2 := cell_of_block (i := 2) HB0.out rfl
    have b3 := cell_of_block (i := 3) HB0.out rfl
    have b4 := cell_of_block (i := 4) HB0.out rfl
    have b5 := cell_of_block (i := 5) HB0.out rfl
    go_wp2_with (first
      | (go_at_call 34; refine (none_no _ (HC.out.fresh HC0.out)).mono ?_; rintro e w1 ⟨rfl, rfl⟩)
      | (go_at_call 35; refine (wire_bad _ kd f t tx y oa cap ps (H.out.kept HC0.out) HV.out).mono ?_; rintro e w1 ⟨⟨n, rfl, hn⟩, hc1⟩
         have HC1 := Lib.hid (HC0.out.trans' hc1)
         have hd0 := hc1.at HB0.out id
         have d2 : w1.cell? ⟨w.heap.size, 2, none⟩ = some (.int .i64 t) := cell_of_block hd0 rfl
         have HS := Lib.hid (said_store (l0 := 0) (show Arr w1 (w.heap.size + 1) 36 (saidL 0) from hc1.at HB1.out id) 0)
         skip
         clear hc1 hd0 b0 b1 b2 b3 b4 b5)
      | (refine wpList_store_mid rfl 36 _ _ rfl (w.heap.size + 1) 0 (saidL 0).toArray rfl rfl HS.out.there HS.out.size HS.out.one ?_; rw [List.toList_toArray]))
    all_goals (try simp only [Exit.inBlock, Exit.then])
    all_goals refine bodyPost_ret (result1 rfl _ rfl HS.out.load) rfl ?_
    all_goals exact ⟨rfl, HC1.out.new HS.out.chg (fun k e => by omega)⟩


theorem check_zero (w : World) (oa : Option Addr) (cap : Nat) : Calls Try.prog 55 #[.slice oa 0 cap] w fun e w' => e = .returned (.int .i64 0) ∧ w = w' := by
  go_enter Try.func55, Try.ntmps55
  go_wp2_with fail
  go_loopw [9] (fun j wr => j = .int .i64 0 ∧ w = wr) (fun _ _ => 0)
  · exact ⟨rfl, rfl⟩
  obtain ⟨rfl, rfl⟩ := hrel
  go_wp2_with fail
  go_ret
  exact ⟨rfl, rfl⟩


set_option maxHeartbeats 1000000 in
theorem wire_good (w : World) (kd f tx : Int) (y : Bool) (oa : Option Addr) (cap : Nat) (h : Up kd f 0 tx y 0) :
    Calls Try.prog 35 #[.agg #[.int .i64 kd, .int .i64 f, .int .i64 0, .int .i64 tx, .bool y, .slice oa 0 cap]] w fun e w' => e = .returned (.int .i64 0) ∧ Chg (fun _ => False) w w' := by
  have HG := Lib.hid (show GoesP kd f 0 from Or.inr ⟨by unfold Down; have := h.kind; omega, h.from', rfl⟩)
  have t1 : ¬ tx < 1 := by have := h.txn; omega
  have t2 : ¬ 1099511627776 < tx := by have := h.txn; omega
  have hy := h.yes
  rcases h.kind with rfl | rfl | rfl
  · clear h hy
    cases y
    · go_enter Try.func35, Try.ntmps35
      go_wp2_with (first
        | (go_at_call 57; refine (goes_any _ 2 f 0).mono ?_; rw [decide_eq_true HG.out]; rintro e w1 ⟨rfl, hc1⟩
           have hA := hc1.at (block_alloc_new w _) id
           have q0 := cell_of_block (i := 0) hA rfl
           have q3 := cell_of_block (i := 3) hA rfl
           have q4 := cell_of_block (i := 4) hA rfl
           have q5 := cell_of_block (i := 5) hA rfl
           have HC1 := Lib.hid (((Chg.refl (fun _ => False) w).alloc _).trans' hc1)
           clear hA hc1)
        | (go_at_call 55; refine (check_zero _ _ _).mono ?_; rintro e w1 ⟨rfl, rfl⟩))
      go_ret
      exact ⟨rfl, HC1.out⟩
    · go_enter Try.func35, Try.ntmps35
      go_wp2_with (first
        | (go_at_call 57; refine (goes_any _ 2 f 0).mono ?_; rw [decide_eq_true HG.out]; rintro e w1 ⟨rfl, hc1⟩
           have hA := hc1.at (block_alloc_new w _) id
           have q0 := cell_of_block (i := 0) hA rfl
           have q3 := cell_of_block (i := 3) hA rfl
           have q4 := cell_of_block (i := 4) hA rfl
           have q5 := cell_of_block (i := 5) hA rfl
           have HC1 := Lib.hid (((Chg.refl (fun _ => False) w).alloc _).trans' hc1)
           clear hA hc1)
        | (go_at_call 55; refine (check_zero _ _ _).mono ?_; rintro e w1 ⟨rfl, rfl⟩))
      go_ret
      exact ⟨rfl, HC1.out⟩
  · have hyf : y = false := by
      cases y with
      | false => rfl
      | true => exact absurd (hy rfl) (by decide)
    subst hyf
    clear h hy
    go_enter Try.func35, Try.ntmps35
    go_wp2_with (first
      | (go_at_call 57; refine (goes_any _ 5 f 0).mono ?_; rw [decide_eq_true HG.out]; rintro e w1 ⟨rfl, hc1⟩
         have hA := hc1.at (block_alloc_new w _) id
         have q0 := cell_of_block (i := 0) hA rfl
         have q3 := cell_of_block (i := 3) hA rfl
         have q4 := cell_of_block (i := 4) hA rfl
         have q5 := cell_of_block (i := 5) hA rfl
         have HC1 := Lib.hid (((Chg.refl (fun _ => False) w).alloc _).trans' hc1)
         clear hA hc1)
      | (go_at_call 55; refine (check_zero _ _ _).mono ?_; rintro e w1 ⟨rfl, rfl⟩))
    go_ret
    exact ⟨rfl, HC1.out⟩
  · have hyf : y = false := by
      cases y with
      | false => rfl
      | true => exact absurd (hy rfl) (by decide)
    subst hyf
    clear h hy
    go_enter Try.func35, Try.ntmps35
    go_wp2_with (first
      | (go_at_call 57; refine (goes_any _ 6 f 0).mono ?_; rw [decide_eq_true HG.out]; rintro e w1 ⟨rfl, hc1⟩
         have hA := hc1.at (block_alloc_new w _) id
         have q0 := cell_of_block (i := 0) hA rfl
         have q3 := cell_of_block (i := 3) hA rfl
         have q4 := cell_of_block (i := 4) hA rfl
         have q5 := cell_of_block (i := 5) hA rfl
         have HC1 := Lib.hid (((Chg.refl (fun _ => False) w).alloc _).trans' hc1)
         clear hA hc1)
      | (go_at_call 55; refine (check_zero _ _ _).mono ?_; rintro e w1 ⟨rfl, rfl⟩))
    go_ret
    exact ⟨rfl, HC1.out⟩

/-- The transaction is not known, or it has no such root. -/
structure Unk (w : World) (q : Nat) (txn f : Int) : Prop where
  is : ∃ p : Option Addr, (∀ w', Chg (fun _ => False) w w' → (Instr.lookup 71 (.map (some q)) (.int .i64 txn) false).run Try.prog w' = .ok (.pointer p) w') ∧
    ∀ w', Chg (fun _ => False) w w' → Calls Try.prog 36 #[.pointer p, .int .i64 f] w' fun e w'' => e = .returned (.bool false) ∧ Chg (fun _ => False) w' w''

theorem has_nil (w : World) (f : Int) : Calls Try.prog 36 #[.pointer none, .int .i64 f] w fun e w' => e = .returned (.bool false) ∧ Chg (fun _ => False) w w' := by
  go_enter Try.func36, Try.ntmps36
  go_wp2_with fail
  go_ret
  exact ⟨rfl, (Chg.refl _ _).alloc _⟩

theorem Unk.of_none (hC : CoIs w c Fc lim m q) {txn f : Int} (ht : 1 ≤ txn ∧ txn ≤ 1099511627776) (hm : mget m txn = none) : Unk w q txn f := by
  refine ⟨none, fun w' hc => ?_, fun w' _ => has_nil w' f⟩
  have hlk := (hC.mp.kept hc id).look Try.underlying71 (zero_ent _) false txn (WalkArith.wf_i64 (by omega))
  rw [hm] at hlk
  exact hlk

theorem ack_nil (w : World) (cv : Value) (kd f tx : Int) (y : Bool) (pk : Value) :
    Calls Try.prog 38 #[cv, .pointer none, .agg #[.int .i64 kd, .int .i64 f, .int .i64 0, .int .i64 tx, .bool y, pk]] w fun e w' => e = .returned (saidC 0) ∧ Chg (fun _ => False) w w' := by
  go_enter Try.func38, Try.ntmps38
  go_wp2_with fail
  obtain ⟨w0, hw0⟩ : ∃ w0, (w.alloc (.cells #[.int .i64 kd, .int .i64 f, .int .i64 0, .int .i64 tx, .bool y, pk] 24)).alloc (.cells #[.slice none 0 0, .int .i64 0, .int .i64 0, .int .i64 0] 36) = w0 := ⟨_, rfl⟩
  rw [hw0]
  have hb1 : Arr w0 (w.heap.size + 1) 36 (saidL 0) := by
    subst hw0; unfold Arr; simp only [heap_alloc_get, World.size_alloc]; rw [if_pos trivial]; rfl
  have hc0 : Chg (fun _ => False) w w0 := by subst hw0; exact ((Chg.refl _ _).alloc _).alloc _
  have HB1 := Lib.hid (show Arr w0 (w.heap.size + 1) 36 (saidCl 0) from hb1)
  have HC0 := Lib.hid hc0
  clear hb1 hc0 hw0
  refine bodyPost_ret (result1 rfl _ rfl (run_loadVar_mid (P := Try.prog) _ (w.heap.size + 1) 0 36 (saidCl 0) _ HB1.out.range Try.underlying36 rfl size_said)) rfl ?_
  exact ⟨rfl, HC0.out⟩

end Go.Proofs.Ytogjjkbgagedpaa.coords
