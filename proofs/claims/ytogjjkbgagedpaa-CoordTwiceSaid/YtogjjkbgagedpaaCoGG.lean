/-
  coord, of any plans: Take of a message about what is known.
-/
import Derived.Test.YtogjjkbgagedpaaCoGF
namespace Go.Proofs.Ytogjjkbgagedpaa.coordg
open Go.RowKit Go.Maps Go.My Go.ChangeMaps coords
set_option maxRecDepth 100000

variable {w w' : World} {c q x qa : Nat} {F F' Fc : Nat → Prop} {lim : Int} {m : List (Int × Nat)} {E : EV} {pv : Value}

/-- What is known of a message's transaction, and root. -/
structure Known (w : World) (c q x qa : Nat) (F Fc : Nat → Prop) (lim : Int) (m : List (Int × Nat)) (E : EV) (pv : Value) (tx f : Int) : Prop where
  co : CoIs w c Fc lim m q
  ent : EntIs w x F E pv qa
  look : mget m tx = some x
  has : f ∈ E.ps
  apart : ∀ k, F k → ¬ Fc k

theorem Known.looks {tx f : Int} (h : Known w c q x qa F Fc lim m E pv tx f) (ht : 1 ≤ tx ∧ tx ≤ 1099511627776) : ∀ w', Chg (fun _ => False) w w' → (Instr.lookup 71 (.map (some q)) (.int .i64 tx) false).run Try.prog w' = .ok (.pointer (some ⟨x, 0, none⟩)) w' := by
  intro w' hc
  have hlk := (h.co.mp.kept hc id).look Try.underlying71 (zero_ent _) false tx (WalkArith.wf_i64 (by omega))
  rw [h.look] at hlk
  exact hlk





set_option maxHeartbeats 1000000 in
theorem k_quiet2 (w : World) (f tx : Int) (oa : Option Addr) (cap : Nat) (h : Known w c q x qa F Fc lim m E pv tx f) (y : Bool) (hUp : Up 2 f 0 tx y 0) (hs : E.state = 2) :
    Calls Try.prog 13 #[ptrV c, .agg #[.int .i64 2, .int .i64 f, .int .i64 0, .int .i64 tx, .bool y, .slice oa 0 cap]] w fun e w' => e = .returned (saidV 0) ∧ Chg (fun _ => False) w w' := by
  cases y
  · have HL := Lib.hid (h.looks hUp.txn)
    have HC := Lib.hid h.co
    have HE := Lib.hid h.ent
    have HF := Lib.hid h.has
    have HA := Lib.hid h.apart
    have HUp := Lib.hid hUp
    have HS := Lib.hid hs
    have ht := hUp.txn
    have hrf := hUp.from'
    clear h hUp hs
    have hmf : ∀ (fn : Fn) (first cap : Array Value) (w : World), (Instr.makeFunc fn first cap).run Try.prog w = .ok (.func fn first cap) w := fun _ _ _ _ => rfl
    unfold ptrV
    go_enter Try.func13, Try.ntmps13
    go_wp2_with fail
    obtain ⟨w0, hw0⟩ : ∃ w0, (w.alloc (.cells #[.int .i64 2, .int .i64 f, .int .i64 0, .int .i64 tx, .bool false, .slice oa 0 cap] 24)).alloc (.cells #[.slice none 0 0, .int .i64 0, .int .i64 0, .int .i64 0] 36) = w0 := ⟨_, rfl⟩
    rw [hw0]
    have hb0 : w0.heap[w.heap.size]? = some (.cells #[.int .i64 2, .int .i64 f, .int .i64 0, .int .i64 tx, .bool false, .slice oa 0 cap] 24 (0, 0)) := by
      subst hw0; simp only [heap_alloc_get, World.size_alloc]; rw [if_neg (by omega), if_pos trivial]
    have hb1 : Arr w0 (w.heap.size + 1) 36 (saidL 0) := by
      subst hw0; unfold Arr; simp only [heap_alloc_get, World.size_alloc]; rw [if_pos trivial]; rfl
    have hc0 : Chg (fun _ => False) w w0 := by subst hw0; exact ((Chg.refl _ _).alloc _).alloc _
    have HB0 := Lib.hid hb0
    have HB1 := Lib.hid hb1
    have HC0 := Lib.hid hc0
    clear hb0 hb1 hc0 hw0
    have b0 := cell_of_block (i := 0) HB0.out rfl
    have b1 := cell_of_block (i := 1) HB0.out rfl
    have b2 := cell_of_block (i := 2) HB0.out rfl
    have b3 := cell_of_block (i := 3) HB0.out rfl
    have b4 := cell_of_block (i := 4) HB0.out rfl
    have b5 := cell_of_block (i := 5) HB0.out rfl
    go_wp2_with (first
      | (go_at_call 34; refine (none_no _ (HC.out.fresh HC0.out)).mono ?_; rintro e w1 ⟨rfl, rfl⟩)
      | (go_at_call 35; refine (wire_good _ 2 f tx false oa cap HUp.out).mono ?_; rintro e w1 ⟨rfl, hc1⟩
         have HC1 := Lib.hid (HC0.out.trans' hc1)
         have HD0 := Lib.hid (hc1.at HB0.out id)
         have HD1 := Lib.hid (show Arr w1 (w.heap.size + 1) 36 (saidL 0) from hc1.at HB1.out id)
         have d2 := cell_of_block (i := 2) (hc1.at HB0.out id) rfl
         clear hc1 b0 b1 b2 b3 b4 b5))
    have hCo := HC.out.fresh HC1.out
    have e1 : w1.cell? ⟨c, 1, none⟩ = some (.map (some q)) := cell_of_block hCo.head rfl
    have e3 : w1.cell? ⟨w.heap.size, 3, none⟩ = some (.int .i64 tx) := cell_of_block HD0.out rfl
    have HLk := Lib.hid (HL.out _ HC1.out.drew)
    have HE1 := Lib.hid (HE.out.fresh HC1.out.drew)
    clear hCo d2
    refine wp_region_noPanic ?_
    refine wp_region_held_drew (S := (fun w' => w'.cell? ⟨c, 1, none⟩ = some (.map (some q)) ∧ w'.cell? ⟨w.heap.size, 3, none⟩ = some (.int .i64 tx) ∧ (Instr.lookup 71 (.map (some q)) (.int .i64 tx) false).run Try.prog w' = .ok (.pointer (some ⟨x, 0, none⟩)) w')) (by kernel_rfl) (⟨e1, e3, HLk.out⟩) (fun hHeld => ?_)
    refine take_list (i := 0) (v := ?_) rfl (by kernel_rfl) (by kernel_rfl) (by kernel_rfl) (fun _ _ _ h => h) (Or.inl ⟨by rfl, fun w hSw => ?_⟩) hHeld ?_
    rotate_left
    · (obtain ⟨hSw1, hSw2, hSw3⟩ := hSw; go_simp)
      try with_reducible rfl
    simp only [Act.put, List.setIfInBounds_toArray, List.set_cons_zero, List.set_cons_succ]
    refine take_list (i := 1) (v := ?_) rfl (by kernel_rfl) (by kernel_rfl) (by kernel_rfl) (fun _ _ _ h => h) (Or.inl ⟨by rfl, fun w hSw => ?_⟩) hHeld ?_
    rotate_left
    · (obtain ⟨hSw1, hSw2, hSw3⟩ := hSw; go_simp)
      try with_reducible rfl
    simp only [Act.put, List.setIfInBounds_toArray, List.set_cons_zero, List.set_cons_succ]
    refine take_list (i := 2) (v := ?_) rfl (by kernel_rfl) (by kernel_rfl) (by kernel_rfl) (fun _ _ _ h => h) (Or.inl ⟨by rfl, fun w hSw => ?_⟩) hHeld ?_
    rotate_left
    · (obtain ⟨hSw1, hSw2, hSw3⟩ := hSw; go_simp)
      try with_reducible rfl
    simp only [Act.put, List.setIfInBounds_toArray, List.set_cons_zero, List.set_cons_succ]
    refine take_list (i := 3) (v := ?_) rfl (by kernel_rfl) (by kernel_rfl) (by kernel_rfl) (fun _ _ _ h => h) (Or.inl ⟨by rfl, fun w hSw => ?_⟩) hHeld ?_
    rotate_left
    · (obtain ⟨hSw1, hSw2, hSw3⟩ := hSw; go_simp)
      try with_reducible rfl
    simp only [Act.put, List.setIfInBounds_toArray, List.set_cons_zero, List.set_cons_succ]
    refine take_list (i := 4) (v := ?_) rfl (by kernel_rfl) (by kernel_rfl) (by kernel_rfl) (fun _ _ _ h => h) (Or.inl ⟨by rfl, fun w hSw => ?_⟩) hHeld ?_
    rotate_left
    · (obtain ⟨hSw1, hSw2, hSw3⟩ := hSw; go_simp)
      try with_reducible rfl
    simp only [Act.put, List.setIfInBounds_toArray, List.set_cons_zero, List.set_cons_succ]
    refine take_list (i := 5) (v := ?_) rfl (by kernel_rfl) (by kernel_rfl) (by kernel_rfl) (fun _ _ _ h => h) (Or.inl ⟨by rfl, fun w hSw => ?_⟩) hHeld ?_
    rotate_left
    · (obtain ⟨hSw1, hSw2, hSw3⟩ := hSw; go_simp)
      try with_reducible rfl
    simp only [Act.put, List.setIfInBounds_toArray, List.set_cons_zero, List.set_cons_succ]
    refine take_list (i := 6) (v := ?_) rfl (by kernel_rfl) (by kernel_rfl) (by kernel_rfl) (fun _ _ _ h => h) (Or.inl ⟨by rfl, fun w hSw => ?_⟩) hHeld ?_
    rotate_left
    · (obtain ⟨hSw1, hSw2, hSw3⟩ := hSw; go_simp)
      try with_reducible rfl
    simp only [Act.put, List.setIfInBounds_toArray, List.set_cons_zero, List.set_cons_succ]
    refine take_list (i := 7) (v := ?_) rfl (by kernel_rfl) (by kernel_rfl) (by kernel_rfl) (fun _ _ _ h => h) (Or.inl ⟨by rfl, fun w hSw => ?_⟩) hHeld ?_
    rotate_left
    · (obtain ⟨hSw1, hSw2, hSw3⟩ := hSw; go_simp)
      try with_reducible rfl
    simp only [Act.put, List.setIfInBounds_toArray, List.set_cons_zero, List.set_cons_succ]
    refine wpAnyH_done (by kernel_rfl) ?_ _
    refine NoPanic.normal ?_
    clear hHeld e1 e3
    have f1 : w1.cell? ⟨w.heap.size, 1, none⟩ = some (.int .i64 f) := cell_of_block HD0.out rfl
    go_wp2_with (first
      | (go_at_call 36; refine (has_any _ HE1.out f).mono ?_; rw [decide_eq_true HF.out]; rintro e w2 ⟨rfl, hc2⟩
         have hG := hc2.at (show w1.drew.heap[w.heap.size]? = _ from HD0.out) id
         have g0 := cell_of_block (i := 0) hG rfl
         have g1 := cell_of_block (i := 1) hG rfl
         have g2 := cell_of_block (i := 2) hG rfl
         have g3 := cell_of_block (i := 3) hG rfl
         have g4 := cell_of_block (i := 4) hG rfl
         have g5 := cell_of_block (i := 5) hG rfl
         have HQ1 := Lib.hid (show Arr w2 (w.heap.size + 1) 36 (saidL 0) from hc2.at (show w1.drew.heap[w.heap.size + 1]? = _ from HD1.out) id)
         have HC2 := Lib.hid (HC1.out.drew.trans' hc2)
         have HE2 := Lib.hid (HE1.out.fresh hc2)
         have HCo2 := Lib.hid (HC.out.fresh (HC1.out.drew.trans' hc2))
         have s0 : w2.cell? ⟨x, 0, none⟩ = some (.int .i64 2) := by
           have := cell_of_block (i := 0) HE2.out.head rfl
           rw [HS.out] at this; exact this
         have HSt := Lib.hid (said_to HQ1.out rfl (saidL 0) rfl (one_saidC 0))
         clear hc2 hG f1)
      | (refine wpList_store_mid rfl 36 _ _ rfl (w.heap.size + 1) 0 (saidL 0).toArray rfl rfl HSt.out.there HSt.out.size HSt.out.one ?_; rw [List.toList_toArray]))
    (try simp only [Exit.inBlock, Exit.then])
    refine bodyPost_ret (result1 rfl _ rfl HSt.out.load) rfl ?_
    exact ⟨rfl, HC2.out.new HSt.out.chg (fun k e => by omega)⟩
  · have HL := Lib.hid (h.looks hUp.txn)
    have HC := Lib.hid h.co
    have HE := Lib.hid h.ent
    have HF := Lib.hid h.has
    have HA := Lib.hid h.apart
    have HUp := Lib.hid hUp
    have HS := Lib.hid hs
    have ht := hUp.txn
    have hrf := hUp.from'
    clear h hUp hs
    have hmf : ∀ (fn : Fn) (first cap : Array Value) (w : World), (Instr.makeFunc fn first cap).run Try.prog w = .ok (.func fn first cap) w := fun _ _ _ _ => rfl
    unfold ptrV
    go_enter Try.func13, Try.ntmps13
    go_wp2_with fail
    obtain ⟨w0, hw0⟩ : ∃ w0, (w.alloc (.cells #[.int .i64 2, .int .i64 f, .int .i64 0, .int .i64 tx, .bool true, .slice oa 0 cap] 24)).alloc (.cells #[.slice none 0 0, .int .i64 0, .int .i64 0, .int .i64 0] 36) = w0 := ⟨_, rfl⟩
    rw [hw0]
    have hb0 : w0.heap[w.heap.size]? = some (.cells #[.int .i64 2, .int .i64 f, .int .i64 0, .int .i64 tx, .bool true, .slice oa 0 cap] 24 (0, 0)) := by
      subst hw0; simp only [heap_alloc_get, World.size_alloc]; rw [if_neg (by omega), if_pos trivial]
    have hb1 : Arr w0 (w.heap.size + 1) 36 (saidL 0) := by
      subst hw0; unfold Arr; simp only [heap_alloc_get, World.size_alloc]; rw [if_pos trivial]; rfl
    have hc0 : Chg (fun _ => False) w w0 := by subst hw0; exact ((Chg.refl _ _).alloc _).alloc _
    have HB0 := Lib.hid hb0
    have HB1 := Lib.hid hb1
    have HC0 := Lib.hid hc0
    clear hb0 hb1 hc0 hw0
    have b0 := cell_of_block (i := 0) HB0.out rfl
    have b1 := cell_of_block (i := 1) HB0.out rfl
    have b2 := cell_of_block (i := 2) HB0.out rfl
    have b3 := cell_of_block (i := 3) HB0.out rfl
    have b4 := cell_of_block (i := 4) HB0.out rfl
    have b5 := cell_of_block (i := 5) HB0.out rfl
    go_wp2_with (first
      | (go_at_call 34; refine (none_no _ (HC.out.fresh HC0.out)).mono ?_; rintro e w1 ⟨rfl, rfl⟩)
      | (go_at_call 35; refine (wire_good _ 2 f tx true oa cap HUp.out).mono ?_; rintro e w1 ⟨rfl, hc1⟩
         have HC1 := Lib.hid (HC0.out.trans' hc1)
         have HD0 := Lib.hid (hc1.at HB0.out id)
         have HD1 := Lib.hid (show Arr w1 (w.heap.size + 1) 36 (saidL 0) from hc1.at HB1.out id)
         have d2 := cell_of_block (i := 2) (hc1.at HB0.out id) rfl
         clear hc1 b0 b1 b2 b3 b4 b5))
    have hCo := HC.out.fresh HC1.out
    have e1 : w1.cell? ⟨c, 1, none⟩ = some (.map (some q)) := cell_of_block hCo.head rfl
    have e3 : w1.cell? ⟨w.heap.size, 3, none⟩ = some (.int .i64 tx) := cell_of_block HD0.out rfl
    have HLk := Lib.hid (HL.out _ HC1.out.drew)
    have HE1 := Lib.hid (HE.out.fresh HC1.out.drew)
    clear hCo d2
    refine wp_region_noPanic ?_
    refine wp_region_held_drew (S := (fun w' => w'.cell? ⟨c, 1, none⟩ = some (.map (some q)) ∧ w'.cell? ⟨w.heap.size, 3, none⟩ = some (.int .i64 tx) ∧ (Instr.lookup 71 (.map (some q)) (.int .i64 tx) false).run Try.prog w' = .ok (.pointer (some ⟨x, 0, none⟩)) w')) (by kernel_rfl) (⟨e1, e3, HLk.out⟩) (fun hHeld => ?_)
    refine take_list (i := 0) (v := ?_) rfl (by kernel_rfl) (by kernel_rfl) (by kernel_rfl) (fun _ _ _ h => h) (Or.inl ⟨by rfl, fun w hSw => ?_⟩) hHeld ?_
    rotate_left
    · (obtain ⟨hSw1, hSw2, hSw3⟩ := hSw; go_simp)
      try with_reducible rfl
    simp only [Act.put, List.setIfInBounds_toArray, List.set_cons_zero, List.set_cons_succ]
    refine take_list (i := 1) (v := ?_) rfl (by kernel_rfl) (by kernel_rfl) (by kernel_rfl) (fun _ _ _ h => h) (Or.inl ⟨by rfl, fun w hSw => ?_⟩) hHeld ?_
    rotate_left
    · (obtain ⟨hSw1, hSw2, hSw3⟩ := hSw; go_simp)
      try with_reducible rfl
    simp only [Act.put, List.setIfInBounds_toArray, List.set_cons_zero, List.set_cons_succ]
    refine take_list (i := 2) (v := ?_) rfl (by kernel_rfl) (by kernel_rfl) (by kernel_rfl) (fun _ _ _ h => h) (Or.inl ⟨by rfl, fun w hSw => ?_⟩) hHeld ?_
    rotate_left
    · (obtain ⟨hSw1, hSw2, hSw3⟩ := hSw; go_simp)
      try with_reducible rfl
    simp only [Act.put, List.setIfInBounds_toArray, List.set_cons_zero, List.set_cons_succ]
    refine take_list (i := 3) (v := ?_) rfl (by kernel_rfl) (by kernel_rfl) (by kernel_rfl) (fun _ _ _ h => h) (Or.inl ⟨by rfl, fun w hSw => ?_⟩) hHeld ?_
    rotate_left
    · (obtain ⟨hSw1, hSw2, hSw3⟩ := hSw; go_simp)
      try with_reducible rfl
    simp only [Act.put, List.setIfInBounds_toArray, List.set_cons_zero, List.set_cons_succ]
    refine take_list (i := 4) (v := ?_) rfl (by kernel_rfl) (by kernel_rfl) (by kernel_rfl) (fun _ _ _ h => h) (Or.inl ⟨by rfl, fun w hSw => ?_⟩) hHeld ?_
    rotate_left
    · (obtain ⟨hSw1, hSw2, hSw3⟩ := hSw; go_simp)
      try with_reducible rfl
    simp only [Act.put, List.setIfInBounds_toArray, List.set_cons_zero, List.set_cons_succ]
    refine take_list (i := 5) (v := ?_) rfl (by kernel_rfl) (by kernel_rfl) (by kernel_rfl) (fun _ _ _ h => h) (Or.inl ⟨by rfl, fun w hSw => ?_⟩) hHeld ?_
    rotate_left
    · (obtain ⟨hSw1, hSw2, hSw3⟩ := hSw; go_simp)
      try with_reducible rfl
    simp only [Act.put, List.setIfInBounds_toArray, List.set_cons_zero, List.set_cons_succ]
    refine take_list (i := 6) (v := ?_) rfl (by kernel_rfl) (by kernel_rfl) (by kernel_rfl) (fun _ _ _ h => h) (Or.inl ⟨by rfl, fun w hSw => ?_⟩) hHeld ?_
    rotate_left
    · (obtain ⟨hSw1, hSw2, hSw3⟩ := hSw; go_simp)
      try with_reducible rfl
    simp only [Act.put, List.setIfInBounds_toArray, List.set_cons_zero, List.set_cons_succ]
    refine take_list (i := 7) (v := ?_) rfl (by kernel_rfl) (by kernel_rfl) (by kernel_rfl) (fun _ _ _ h => h) (Or.inl ⟨by rfl, fun w hSw => ?_⟩) hHeld ?_
    rotate_left
    · (obtain ⟨hSw1, hSw2, hSw3⟩ := hSw; go_simp)
      try with_reducible rfl
    simp only [Act.put, List.setIfInBounds_toArray, List.set_cons_zero, List.set_cons_succ]
    refine wpAnyH_done (by kernel_rfl) ?_ _
    refine NoPanic.normal ?_
    clear hHeld e1 e3
    have f1 : w1.cell? ⟨w.heap.size, 1, none⟩ = some (.int .i64 f) := cell_of_block HD0.out rfl
    go_wp2_with (first
      | (go_at_call 36; refine (has_any _ HE1.out f).mono ?_; rw [decide_eq_true HF.out]; rintro e w2 ⟨rfl, hc2⟩
         have hG := hc2.at (show w1.drew.heap[w.heap.size]? = _ from HD0.out) id
         have g0 := cell_of_block (i := 0) hG rfl
         have g1 := cell_of_block (i := 1) hG rfl
         have g2 := cell_of_block (i := 2) hG rfl
         have g3 := cell_of_block (i := 3) hG rfl
         have g4 := cell_of_block (i := 4) hG rfl
         have g5 := cell_of_block (i := 5) hG rfl
         have HQ1 := Lib.hid (show Arr w2 (w.heap.size + 1) 36 (saidL 0) from hc2.at (show w1.drew.heap[w.heap.size + 1]? = _ from HD1.out) id)
         have HC2 := Lib.hid (HC1.out.drew.trans' hc2)
         have HE2 := Lib.hid (HE1.out.fresh hc2)
         have HCo2 := Lib.hid (HC.out.fresh (HC1.out.drew.trans' hc2))
         have s0 : w2.cell? ⟨x, 0, none⟩ = some (.int .i64 2) := by
           have := cell_of_block (i := 0) HE2.out.head rfl
           rw [HS.out] at this; exact this
         have HSt := Lib.hid (said_to HQ1.out rfl (saidL 0) rfl (one_saidC 0))
         clear hc2 hG f1)
      | (refine wpList_store_mid rfl 36 _ _ rfl (w.heap.size + 1) 0 (saidL 0).toArray rfl rfl HSt.out.there HSt.out.size HSt.out.one ?_; rw [List.toList_toArray]))
    (try simp only [Exit.inBlock, Exit.then])
    refine bodyPost_ret (result1 rfl _ rfl HSt.out.load) rfl ?_
    exact ⟨rfl, HC2.out.new HSt.out.chg (fun k e => by omega)⟩

set_option maxHeartbeats 1000000 in
theorem k_quiet6 (w : World) (f tx : Int) (oa : Option Addr) (cap : Nat) (h : Known w c q x qa F Fc lim m E pv tx f) (hUp : Up 6 f 0 tx false 0) (hs12 : E.state = 1 ∨ E.state = 2) :
    Calls Try.prog 13 #[ptrV c, .agg #[.int .i64 6, .int .i64 f, .int .i64 0, .int .i64 tx, .bool false, .slice oa 0 cap]] w fun e w' => e = .returned (saidV 0) ∧ Chg (fun _ => False) w w' := by
  rcases hs12 with hs | hs
  · have HL := Lib.hid (h.looks hUp.txn)
    have HC := Lib.hid h.co
    have HE := Lib.hid h.ent
    have HF := Lib.hid h.has
    have HA := Lib.hid h.apart
    have HUp := Lib.hid hUp
    have HS := Lib.hid hs
    have ht := hUp.txn
    have hrf := hUp.from'
    clear h hUp hs
    have hmf : ∀ (fn : Fn) (first cap : Array Value) (w : World), (Instr.makeFunc fn first cap).run Try.prog w = .ok (.func fn first cap) w := fun _ _ _ _ => rfl
    unfold ptrV
    go_enter Try.func13, Try.ntmps13
    go_wp2_with fail
    obtain ⟨w0, hw0⟩ : ∃ w0, (w.alloc (.cells #[.int .i64 6, .int .i64 f, .int .i64 0, .int .i64 tx, .bool false, .slice oa 0 cap] 24)).alloc (.cells #[.slice none 0 0, .int .i64 0, .int .i64 0, .int .i64 0] 36) = w0 := ⟨_, rfl⟩
    rw [hw0]
    have hb0 : w0.heap[w.heap.size]? = some (.cells #[.int .i64 6, .int .i64 f, .int .i64 0, .int .i64 tx, .bool false, .slice oa 0 cap] 24 (0, 0)) := by
      subst hw0; simp only [heap_alloc_get, World.size_alloc]; rw [if_neg (by omega), if_pos trivial]
    have hb1 : Arr w0 (w.heap.size + 1) 36 (saidL 0) := by
      subst hw0; unfold Arr; simp only [heap_alloc_get, World.size_alloc]; rw [if_pos trivial]; rfl
    have hc0 : Chg (fun _ => False) w w0 := by subst hw0; exact ((Chg.refl _ _).alloc _).alloc _
    have HB0 := Lib.hid hb0
    have HB1 := Lib.hid hb1
    have HC0 := Lib.hid hc0
    clear hb0 hb1 hc0 hw0
    have b0 := cell_of_block (i := 0) HB0.out rfl
    have b1 := cell_of_block (i := 1) HB0.out rfl
    have b2 := cell_of_block (i := 2) HB0.out rfl
    have b3 := cell_of_block (i := 3) HB0.out rfl
    have b4 := cell_of_block (i := 4) HB0.out rfl
    have b5 := cell_of_block (i := 5) HB0.out rfl
    go_wp2_with (first
      | (go_at_call 34; refine (none_no _ (HC.out.fresh HC0.out)).mono ?_; rintro e w1 ⟨rfl, rfl⟩)
      | (go_at_call 35; refine (wire_good _ 6 f tx false oa cap HUp.out).mono ?_; rintro e w1 ⟨rfl, hc1⟩
         have HC1 := Lib.hid (HC0.out.trans' hc1)
         have HD0 := Lib.hid (hc1.at HB0.out id)
         have HD1 := Lib.hid (show Arr w1 (w.heap.size + 1) 36 (saidL 0) from hc1.at HB1.out id)
         have d2 := cell_of_block (i := 2) (hc1.at HB0.out id) rfl
         clear hc1 b0 b1 b2 b3 b4 b5))
    have hCo := HC.out.fresh HC1.out
    have e1 : w1.cell? ⟨c, 1, none⟩ = some (.map (some q)) := cell_of_block hCo.head rfl
    have e3 : w1.cell? ⟨w.heap.size, 3, none⟩ = some (.int .i64 tx) := cell_of_block HD0.out rfl
    have HLk := Lib.hid (HL.out _ HC1.out.drew)
    have HE1 := Lib.hid (HE.out.fresh HC1.out.drew)
    clear hCo d2
    refine wp_region_noPanic ?_
    refine wp_region_held_drew (S := (fun w' => w'.cell? ⟨c, 1, none⟩ = some (.map (some q)) ∧ w'.cell? ⟨w.heap.size, 3, none⟩ = some (.int .i64 tx) ∧ (Instr.lookup 71 (.map (some q)) (.int .i64 tx) false).run Try.prog w' = .ok (.pointer (some ⟨x, 0, none⟩)) w')) (by kernel_rfl) (⟨e1, e3, HLk.out⟩) (fun hHeld => ?_)
    refine take_list (i := 0) (v := ?_) rfl (by kernel_rfl) (by kernel_rfl) (by kernel_rfl) (fun _ _ _ h => h) (Or.inl ⟨by rfl, fun w hSw => ?_⟩) hHeld ?_
    rotate_left
    · (obtain ⟨hSw1, hSw2, hSw3⟩ := hSw; go_simp)
      try with_reducible rfl
    simp only [Act.put, List.setIfInBounds_toArray, List.set_cons_zero, List.set_cons_succ]
    refine take_list (i := 1) (v := ?_) rfl (by kernel_rfl) (by kernel_rfl) (by kernel_rfl) (fun _ _ _ h => h) (Or.inl ⟨by rfl, fun w hSw => ?_⟩) hHeld ?_
    rotate_left
    · (obtain ⟨hSw1, hSw2, hSw3⟩ := hSw; go_simp)
      try with_reducible rfl
    simp only [Act.put, List.setIfInBounds_toArray, List.set_cons_zero, List.set_cons_succ]
    refine take_list (i := 2) (v := ?_) rfl (by kernel_rfl) (by kernel_rfl) (by kernel_rfl) (fun _ _ _ h => h) (Or.inl ⟨by rfl, fun w hSw => ?_⟩) hHeld ?_
    rotate_left
    · (obtain ⟨hSw1, hSw2, hSw3⟩ := hSw; go_simp)
      try with_reducible rfl
    simp only [Act.put, List.setIfInBounds_toArray, List.set_cons_zero, List.set_cons_succ]
    refine take_list (i := 3) (v := ?_) rfl (by kernel_rfl) (by kernel_rfl) (by kernel_rfl) (fun _ _ _ h => h) (Or.inl ⟨by rfl, fun w hSw => ?_⟩) hHeld ?_
    rotate_left
    · (obtain ⟨hSw1, hSw2, hSw3⟩ := hSw; go_simp)
      try with_reducible rfl
    simp only [Act.put, List.setIfInBounds_toArray, List.set_cons_zero, List.set_cons_succ]
    refine take_list (i := 4) (v := ?_) rfl (by kernel_rfl) (by kernel_rfl) (by kernel_rfl) (fun _ _ _ h => h) (Or.inl ⟨by rfl, fun w hSw => ?_⟩) hHeld ?_
    rotate_left
    · (obtain ⟨hSw1, hSw2, hSw3⟩ := hSw; go_simp)
      try with_reducible rfl
    simp only [Act.put, List.setIfInBounds_toArray, List.set_cons_zero, List.set_cons_succ]
    refine take_list (i := 5) (v := ?_) rfl (by kernel_rfl) (by kernel_rfl) (by kernel_rfl) (fun _ _ _ h => h) (Or.inl ⟨by rfl, fun w hSw => ?_⟩) hHeld ?_
    rotate_left
    · (obtain ⟨hSw1, hSw2, hSw3⟩ := hSw; go_simp)
      try with_reducible rfl
    simp only [Act.put, List.setIfInBounds_toArray, List.set_cons_zero, List.set_cons_succ]
    refine take_list (i := 6) (v := ?_) rfl (by kernel_rfl) (by kernel_rfl) (by kernel_rfl) (fun _ _ _ h => h) (Or.inl ⟨by rfl, fun w hSw => ?_⟩) hHeld ?_
    rotate_left
    · (obtain ⟨hSw1, hSw2, hSw3⟩ := hSw; go_simp)
      try with_reducible rfl
    simp only [Act.put, List.setIfInBounds_toArray, List.set_cons_zero, List.set_cons_succ]
    refine take_list (i := 7) (v := ?_) rfl (by kernel_rfl) (by kernel_rfl) (by kernel_rfl) (fun _ _ _ h => h) (Or.inl ⟨by rfl, fun w hSw => ?_⟩) hHeld ?_
    rotate_left
    · (obtain ⟨hSw1, hSw2, hSw3⟩ := hSw; go_simp)
      try with_reducible rfl
    simp only [Act.put, List.setIfInBounds_toArray, List.set_cons_zero, List.set_cons_succ]
    refine wpAnyH_done (by kernel_rfl) ?_ _
    refine NoPanic.normal ?_
    clear hHeld e1 e3
    have f1 : w1.cell? ⟨w.heap.size, 1, none⟩ = some (.int .i64 f) := cell_of_block HD0.out rfl
    go_wp2_with (first
      | (go_at_call 36; refine (has_any _ HE1.out f).mono ?_; rw [decide_eq_true HF.out]; rintro e w2 ⟨rfl, hc2⟩
         have hG := hc2.at (show w1.drew.heap[w.heap.size]? = _ from HD0.out) id
         have g0 := cell_of_block (i := 0) hG rfl
         have g1 := cell_of_block (i := 1) hG rfl
         have g2 := cell_of_block (i := 2) hG rfl
         have g3 := cell_of_block (i := 3) hG rfl
         have g4 := cell_of_block (i := 4) hG rfl
         have g5 := cell_of_block (i := 5) hG rfl
         have HQ1 := Lib.hid (show Arr w2 (w.heap.size + 1) 36 (saidL 0) from hc2.at (show w1.drew.heap[w.heap.size + 1]? = _ from HD1.out) id)
         have HC2 := Lib.hid (HC1.out.drew.trans' hc2)
         have HE2 := Lib.hid (HE1.out.fresh hc2)
         have HCo2 := Lib.hid (HC.out.fresh (HC1.out.drew.trans' hc2))
         have s0 : w2.cell? ⟨x, 0, none⟩ = some (.int .i64 1) := by
           have := cell_of_block (i := 0) HE2.out.head rfl
           rw [HS.out] at this; exact this
         have HSt := Lib.hid (said_to HQ1.out rfl (saidL 0) rfl (one_saidC 0))
         clear hc2 hG f1)
      | (refine wpList_store_mid rfl 36 _ _ rfl (w.heap.size + 1) 0 (saidL 0).toArray rfl rfl HSt.out.there HSt.out.size HSt.out.one ?_; rw [List.toList_toArray]))
    (try simp only [Exit.inBlock, Exit.then])
    refine bodyPost_ret (result1 rfl _ rfl HSt.out.load) rfl ?_
    exact ⟨rfl, HC2.out.new HSt.out.chg (fun k e => by omega)⟩
  · have HL := Lib.hid (h.looks hUp.txn)
    have HC := Lib.hid h.co
    have HE := Lib.hid h.ent
    have HF := Lib.hid h.has
    have HA := Lib.hid h.apart
    have HUp := Lib.hid hUp
    have HS := Lib.hid hs
    have ht := hUp.txn
    have hrf := hUp.from'
    clear h hUp hs
    have hmf : ∀ (fn : Fn) (first cap : Array Value) (w : World), (Instr.makeFunc fn first cap).run Try.prog w = .ok (.func fn first cap) w := fun _ _ _ _ => rfl
    unfold ptrV
    go_enter Try.func13, Try.ntmps13
    go_wp2_with fail
    obtain ⟨w0, hw0⟩ : ∃ w0, (w.alloc (.cells #[.int .i64 6, .int .i64 f, .int .i64 0, .int .i64 tx, .bool false, .slice oa 0 cap] 24)).alloc (.cells #[.slice none 0 0, .int .i64 0, .int .i64 0, .int .i64 0] 36) = w0 := ⟨_, rfl⟩
    rw [hw0]
    have hb0 : w0.heap[w.heap.size]? = some (.cells #[.int .i64 6, .int .i64 f, .int .i64 0, .int .i64 tx, .bool false, .slice oa 0 cap] 24 (0, 0)) := by
      subst hw0; simp only [heap_alloc_get, World.size_alloc]; rw [if_neg (by omega), if_pos trivial]
    have hb1 : Arr w0 (w.heap.size + 1) 36 (saidL 0) := by
      subst hw0; unfold Arr; simp only [heap_alloc_get, World.size_alloc]; rw [if_pos trivial]; rfl
    have hc0 : Chg (fun _ => False) w w0 := by subst hw0; exact ((Chg.refl _ _).alloc _).alloc _
    have HB0 := Lib.hid hb0
    have HB1 := Lib.hid hb1
    have HC0 := Lib.hid hc0
    clear hb0 hb1 hc0 hw0
    have b0 := cell_of_block (i := 0) HB0.out rfl
    have b1 := cell_of_block (i := 1) HB0.out rfl
    have b2 := cell_of_block (i := 2) HB0.out rfl
    have b3 := cell_of_block (i := 3) HB0.out rfl
    have b4 := cell_of_block (i := 4) HB0.out rfl
    have b5 := cell_of_block (i := 5) HB0.out rfl
    go_wp2_with (first
      | (go_at_call 34; refine (none_no _ (HC.out.fresh HC0.out)).mono ?_; rintro e w1 ⟨rfl, rfl⟩)
      | (go_at_call 35; refine (wire_good _ 6 f tx false oa cap HUp.out).mono ?_; rintro e w1 ⟨rfl, hc1⟩
         have HC1 := Lib.hid (HC0.out.trans' hc1)
         have HD0 := Lib.hid (hc1.at HB0.out id)
         have HD1 := Lib.hid (show Arr w1 (w.heap.size + 1) 36 (saidL 0) from hc1.at HB1.out id)
         have d2 := cell_of_block (i := 2) (hc1.at HB0.out id) rfl
         clear hc1 b0 b1 b2 b3 b4 b5))
    have hCo := HC.out.fresh HC1.out
    have e1 : w1.cell? ⟨c, 1, none⟩ = some (.map (some q)) := cell_of_block hCo.head rfl
    have e3 : w1.cell? ⟨w.heap.size, 3, none⟩ = some (.int .i64 tx) := cell_of_block HD0.out rfl
    have HLk := Lib.hid (HL.out _ HC1.out.drew)
    have HE1 := Lib.hid (HE.out.fresh HC1.out.drew)
    clear hCo d2
    refine wp_region_noPanic ?_
    refine wp_region_held_drew (S := (fun w' => w'.cell? ⟨c, 1, none⟩ = some (.map (some q)) ∧ w'.cell? ⟨w.heap.size, 3, none⟩ = some (.int .i64 tx) ∧ (Instr.lookup 71 (.map (some q)) (.int .i64 tx) false).run Try.prog w' = .ok (.pointer (some ⟨x, 0, none⟩)) w')) (by kernel_rfl) (⟨e1, e3, HLk.out⟩) (fun hHeld => ?_)
    refine take_list (i := 0) (v := ?_) rfl (by kernel_rfl) (by kernel_rfl) (by kernel_rfl) (fun _ _ _ h => h) (Or.inl ⟨by rfl, fun w hSw => ?_⟩) hHeld ?_
    rotate_left
    · (obtain ⟨hSw1, hSw2, hSw3⟩ := hSw; go_simp)
      try with_reducible rfl
    simp only [Act.put, List.setIfInBounds_toArray, List.set_cons_zero, List.set_cons_succ]
    refine take_list (i := 1) (v := ?_) rfl (by kernel_rfl) (by kernel_rfl) (by kernel_rfl) (fun _ _ _ h => h) (Or.inl ⟨by rfl, fun w hSw => ?_⟩) hHeld ?_
    rotate_left
    · (obtain ⟨hSw1, hSw2, hSw3⟩ := hSw; go_simp)
      try with_reducible rfl
    simp only [Act.put, List.setIfInBounds_toArray, List.set_cons_zero, List.set_cons_succ]
    refine take_list (i := 2) (v := ?_) rfl (by kernel_rfl) (by kernel_rfl) (by kernel_rfl) (fun _ _ _ h => h) (Or.inl ⟨by rfl, fun w hSw => ?_⟩) hHeld ?_
    rotate_left
    · (obtain ⟨hSw1, hSw2, hSw3⟩ := hSw; go_simp)
      try with_reducible rfl
    simp only [Act.put, List.setIfInBounds_toArray, List.set_cons_zero, List.set_cons_succ]
    refine take_list (i := 3) (v := ?_) rfl (by kernel_rfl) (by kernel_rfl) (by kernel_rfl) (fun _ _ _ h => h) (Or.inl ⟨by rfl, fun w hSw => ?_⟩) hHeld ?_
    rotate_left
    · (obtain ⟨hSw1, hSw2, hSw3⟩ := hSw; go_simp)
      try with_reducible rfl
    simp only [Act.put, List.setIfInBounds_toArray, List.set_cons_zero, List.set_cons_succ]
    refine take_list (i := 4) (v := ?_) rfl (by kernel_rfl) (by kernel_rfl) (by kernel_rfl) (fun _ _ _ h => h) (Or.inl ⟨by rfl, fun w hSw => ?_⟩) hHeld ?_
    rotate_left
    · (obtain ⟨hSw1, hSw2, hSw3⟩ := hSw; go_simp)
      try with_reducible rfl
    simp only [Act.put, List.setIfInBounds_toArray, List.set_cons_zero, List.set_cons_succ]
    refine take_list (i := 5) (v := ?_) rfl (by kernel_rfl) (by kernel_rfl) (by kernel_rfl) (fun _ _ _ h => h) (Or.inl ⟨by rfl, fun w hSw => ?_⟩) hHeld ?_
    rotate_left
    · (obtain ⟨hSw1, hSw2, hSw3⟩ := hSw; go_simp)
      try with_reducible rfl
    simp only [Act.put, List.setIfInBounds_toArray, List.set_cons_zero, List.set_cons_succ]
    refine take_list (i := 6) (v := ?_) rfl (by kernel_rfl) (by kernel_rfl) (by kernel_rfl) (fun _ _ _ h => h) (Or.inl ⟨by rfl, fun w hSw => ?_⟩) hHeld ?_
    rotate_left
    · (obtain ⟨hSw1, hSw2, hSw3⟩ := hSw; go_simp)
      try with_reducible rfl
    simp only [Act.put, List.setIfInBounds_toArray, List.set_cons_zero, List.set_cons_succ]
    refine take_list (i := 7) (v := ?_) rfl (by kernel_rfl) (by kernel_rfl) (by kernel_rfl) (fun _ _ _ h => h) (Or.inl ⟨by rfl, fun w hSw => ?_⟩) hHeld ?_
    rotate_left
    · (obtain ⟨hSw1, hSw2, hSw3⟩ := hSw; go_simp)
      try with_reducible rfl
    simp only [Act.put, List.setIfInBounds_toArray, List.set_cons_zero, List.set_cons_succ]
    refine wpAnyH_done (by kernel_rfl) ?_ _
    refine NoPanic.normal ?_
    clear hHeld e1 e3
    have f1 : w1.cell? ⟨w.heap.size, 1, none⟩ = some (.int .i64 f) := cell_of_block HD0.out rfl
    go_wp2_with (first
      | (go_at_call 36; refine (has_any _ HE1.out f).mono ?_; rw [decide_eq_true HF.out]; rintro e w2 ⟨rfl, hc2⟩
         have hG := hc2.at (show w1.drew.heap[w.heap.size]? = _ from HD0.out) id
         have g0 := cell_of_block (i := 0) hG rfl
         have g1 := cell_of_block (i := 1) hG rfl
         have g2 := cell_of_block (i := 2) hG rfl
         have g3 := cell_of_block (i := 3) hG rfl
         have g4 := cell_of_block (i := 4) hG rfl
         have g5 := cell_of_block (i := 5) hG rfl
         have HQ1 := Lib.hid (show Arr w2 (w.heap.size + 1) 36 (saidL 0) from hc2.at (show w1.drew.heap[w.heap.size + 1]? = _ from HD1.out) id)
         have HC2 := Lib.hid (HC1.out.drew.trans' hc2)
         have HE2 := Lib.hid (HE1.out.fresh hc2)
         have HCo2 := Lib.hid (HC.out.fresh (HC1.out.drew.trans' hc2))
         have s0 : w2.cell? ⟨x, 0, none⟩ = some (.int .i64 2) := by
           have := cell_of_block (i := 0) HE2.out.head rfl
           rw [HS.out] at this; exact this
         have HSt := Lib.hid (said_to HQ1.out rfl (saidL 0) rfl (one_saidC 0))
         clear hc2 hG f1)
      | (refine wpList_store_mid rfl 36 _ _ rfl (w.heap.size + 1) 0 (saidL 0).toArray rfl rfl HSt.out.there HSt.out.size HSt.out.one ?_; rw [List.toList_toArray]))
    (try simp only [Exit.inBlock, Exit.then])
    refine bodyPost_ret (result1 rfl _ rfl HSt.out.load) rfl ?_
    exact ⟨rfl, HC2.out.new HSt.out.chg (fun k e => by omega)⟩


set_option maxHeartbeats 1000000 in
theorem k_commit2 (w : World) (f tx : Int) (oa : Option Addr) (cap : Nat) (h : Known w c q x qa F Fc lim m E pv tx f) (y : Bool) (hUp : Up 2 f 0 tx y 0) (hs : E.state = 3) :
    Calls Try.prog 13 #[ptrV c, .agg #[.int .i64 2, .int .i64 f, .int .i64 0, .int .i64 tx, .bool y, .slice oa 0 cap]] w fun e w' => ∃ gm, e = .returned (saidM gm) ∧ w'.heap[gm]? = some (.cells (msgC 3 0 f tx false).toArray 24 (0, 0)) ∧ Chg (fun _ => False) w w' := by
  cases y
  · have HL := Lib.hid (h.looks hUp.txn)
    have HC := Lib.hid h.co
    have HE := Lib.hid h.ent
    have HF := Lib.hid h.has
    have HA := Lib.hid h.apart
    have HUp := Lib.hid hUp
    have HS := Lib.hid hs
    have ht := hUp.txn
    have hrf := hUp.from'
    clear h hUp hs
    have hmf : ∀ (fn : Fn) (first cap : Array Value) (w : World), (Instr.makeFunc fn first cap).run Try.prog w = .ok (.func fn first cap) w := fun _ _ _ _ => rfl
    unfold ptrV
    go_enter Try.func13, Try.ntmps13
    go_wp2_with fail
    obtain ⟨w0, hw0⟩ : ∃ w0, (w.alloc (.cells #[.int .i64 2, .int .i64 f, .int .i64 0, .int .i64 tx, .bool false, .slice oa 0 cap] 24)).alloc (.cells #[.slice none 0 0, .int .i64 0, .int .i64 0, .int .i64 0] 36) = w0 := ⟨_, rfl⟩
    rw [hw0]
    have hb0 : w0.heap[w.heap.size]? = some (.cells #[.int .i64 2, .int .i64 f, .int .i64 0, .int .i64 tx, .bool false, .slice oa 0 cap] 24 (0, 0)) := by
      subst hw0; simp only [heap_alloc_get, World.size_alloc]; rw [if_neg (by omega), if_pos trivial]
    have hb1 : Arr w0 (w.heap.size + 1) 36 (saidL 0) := by
      subst hw0; unfold Arr; simp only [heap_alloc_get, World.size_alloc]; rw [if_pos trivial]; rfl
    have hc0 : Chg (fun _ => False) w w0 := by subst hw0; exact ((Chg.refl _ _).alloc _).alloc _
    have HB0 := Lib.hid hb0
    have HB1 := Lib.hid hb1
    have HC0 := Lib.hid hc0
    clear hb0 hb1 hc0 hw0
    have b0 := cell_of_block (i := 0) HB0.out rfl
    have b1 := cell_of_block (i := 1) HB0.out rfl
    have b2 := cell_of_block (i := 2) HB0.out rfl
    have b3 := cell_of_block (i := 3) HB0.out rfl
    have b4 := cell_of_block (i := 4) HB0.out rfl
    have b5 := cell_of_block (i := 5) HB0.out rfl
    go_wp2_with (first
      | (go_at_call 34; refine (none_no _ (HC.out.fresh HC0.out)).mono ?_; rintro e w1 ⟨rfl, rfl⟩)
      | (go_at_call 35; refine (wire_good _ 2 f tx false oa cap HUp.out).mono ?_; rintro e w1 ⟨rfl, hc1⟩
         have HC1 := Lib.hid (HC0.out.trans' hc1)
         have HD0 := Lib.hid (hc1.at HB0.out id)
         have HD1 := Lib.hid (show Arr w1 (w.heap.size + 1) 36 (saidL 0) from hc1.at HB1.out id)
         have d2 := cell_of_block (i := 2) (hc1.at HB0.out id) rfl
         clear hc1 b0 b1 b2 b3 b4 b5))
    have hCo := HC.out.fresh HC1.out
    have e1 : w1.cell? ⟨c, 1, none⟩ = some (.map (some q)) := cell_of_block hCo.head rfl
    have e3 : w1.cell? ⟨w.heap.size, 3, none⟩ = some (.int .i64 tx) := cell_of_block HD0.out rfl
    have HLk := Lib.hid (HL.out _ HC1.out.drew)
    have HE1 := Lib.hid (HE.out.fresh HC1.out.drew)
    clear hCo d2
    refine wp_region_noPanic ?_
    refine wp_region_held_drew (S := (fun w' => w'.cell? ⟨c, 1, none⟩ = some (.map (some q)) ∧ w'.cell? ⟨w.heap.size, 3, none⟩ = some (.int .i64 tx) ∧ (Instr.lookup 71 (.map (some q)) (.int .i64 tx) false).run Try.prog w' = .ok (.pointer (some ⟨x, 0, none⟩)) w')) (by kernel_rfl) (⟨e1, e3, HLk.out⟩) (fun hHeld => ?_)
    refine take_list (i := 0) (v := ?_) rfl (by kernel_rfl) (by kernel_rfl) (by kernel_rfl) (fun _ _ _ h => h) (Or.inl ⟨by rfl, fun w hSw => ?_⟩) hHeld ?_
    rotate_left
    · (obtain ⟨hSw1, hSw2, hSw3⟩ := hSw; go_simp)
      try with_reducible rfl
    simp only [Act.put, List.setIfInBounds_toArray, List.set_cons_zero, List.set_cons_succ]
    refine take_list (i := 1) (v := ?_) rfl (by kernel_rfl) (by kernel_rfl) (by kernel_rfl) (fun _ _ _ h => h) (Or.inl ⟨by rfl, fun w hSw => ?_⟩) hHeld ?_
    rotate_left
    · (obtain ⟨hSw1, hSw2, hSw3⟩ := hSw; go_simp)
      try with_reducible rfl
    simp only [Act.put, List.setIfInBounds_toArray, List.set_cons_zero, List.set_cons_succ]
    refine take_list (i := 2) (v := ?_) rfl (by kernel_rfl) (by kernel_rfl) (by kernel_rfl) (fun _ _ _ h => h) (Or.inl ⟨by rfl, fun w hSw => ?_⟩) hHeld ?_
    rotate_left
    · (obtain ⟨hSw1, hSw2, hSw3⟩ := hSw; go_simp)
      try with_reducible rfl
    simp only [Act.put, List.setIfInBounds_toArray, List.set_cons_zero, List.set_cons_succ]
    refine take_list (i := 3) (v := ?_) rfl (by kernel_rfl) (by kernel_rfl) (by kernel_rfl) (fun _ _ _ h => h) (Or.inl ⟨by rfl, fun w hSw => ?_⟩) hHeld ?_
    rotate_left
    · (obtain ⟨hSw1, hSw2, hSw3⟩ := hSw; go_simp)
      try with_reducible rfl
    simp only [Act.put, List.setIfInBounds_toArray, List.set_cons_zero, List.set_cons_succ]
    refine take_list (i := 4) (v := ?_) rfl (by kernel_rfl) (by kernel_rfl) (by kernel_rfl) (fun _ _ _ h => h) (Or.inl ⟨by rfl, fun w hSw => ?_⟩) hHeld ?_
    rotate_left
    · (obtain ⟨hSw1, hSw2, hSw3⟩ := hSw; go_simp)
      try with_reducible rfl
    simp only [Act.put, List.setIfInBounds_toArray, List.set_cons_zero, List.set_cons_succ]
    refine take_list (i := 5) (v := ?_) rfl (by kernel_rfl) (by kernel_rfl) (by kernel_rfl) (fun _ _ _ h => h) (Or.inl ⟨by rfl, fun w hSw => ?_⟩) hHeld ?_
    rotate_left
    · (obtain ⟨hSw1, hSw2, hSw3⟩ := hSw; go_simp)
      try with_reducible rfl
    simp only [Act.put, List.setIfInBounds_toArray, List.set_cons_zero, List.set_cons_succ]
    refine take_list (i := 6) (v := ?_) rfl (by kernel_rfl) (by kernel_rfl) (by kernel_rfl) (fun _ _ _ h => h) (Or.inl ⟨by rfl, fun w hSw => ?_⟩) hHeld ?_
    rotate_left
    · (obtain ⟨hSw1, hSw2, hSw3⟩ := hSw; go_simp)
      try with_reducible rfl
    simp only [Act.put, List.setIfInBounds_toArray, List.set_cons_zero, List.set_cons_succ]
    refine take_list (i := 7) (v := ?_) rfl (by kernel_rfl) (by kernel_rfl) (by kernel_rfl) (fun _ _ _ h => h) (Or.inl ⟨by rfl, fun w hSw => ?_⟩) hHeld ?_
    rotate_left
    · (obtain ⟨hSw1, hSw2, hSw3⟩ := hSw; go_simp)
      try with_reducible rfl
    simp only [Act.put, List.setIfInBounds_toArray, List.set_cons_zero, List.set_cons_succ]
    refine wpAnyH_done (by kernel_rfl) ?_ _
    refine NoPanic.normal ?_
    clear hHeld e1 e3
    have f1 : w1.cell? ⟨w.heap.size, 1, none⟩ = some (.int .i64 f) := cell_of_block HD0.out rfl
    go_wp2_with (first
      | (go_at_call 36; refine (has_any _ HE1.out f).mono ?_; rw [decide_eq_true HF.out]; rintro e w2 ⟨rfl, hc2⟩
         have hG := hc2.at (show w1.drew.heap[w.heap.size]? = _ from HD0.out) id
         have g0 := cell_of_block (i := 0) hG rfl
         have g1 := cell_of_block (i := 1) hG rfl
         have g2 := cell_of_block (i := 2) hG rfl
         have g3 := cell_of_block (i := 3) hG rfl
         have g4 := cell_of_block (i := 4) hG rfl
         have g5 := cell_of_block (i := 5) hG rfl
         have HQ1 := Lib.hid (show Arr w2 (w.heap.size + 1) 36 (saidL 0) from hc2.at (show w1.drew.heap[w.heap.size + 1]? = _ from HD1.out) id)
         have HC2 := Lib.hid (HC1.out.drew.trans' hc2)
         have HE2 := Lib.hid (HE1.out.fresh hc2)
         have HCo2 := Lib.hid (HC.out.fresh (HC1.out.drew.trans' hc2))
         have s0 : w2.cell? ⟨x, 0, none⟩ = some (.int .i64 3) := by
           have := cell_of_block (i := 0) HE2.out.head rfl
           rw [HS.out] at this; exact this
         skip
         clear hc2 hG f1)
      | (go_at_call 37; refine (back_any _ _ 3 f tx g1 g3).mono ?_; rintro e w3 ⟨gm, rfl, hgm, hgb, hc3⟩
         have HSt := Lib.hid (said_to (hc3.at HQ1.out id) rfl (saidMl gm) rfl (one_saidM _))
         have HGm := Lib.hid hgm
         have HGb := Lib.hid hgb
         have HC3 := Lib.hid (HC2.out.trans' hc3)
         have hlt2 : w.heap.size + 1 < w2.heap.size := lt_of_block HQ1.out
         have HL2 := Lib.hid hlt2
         unfold saidM
         clear hgm hgb hc3 hlt2)
      | (refine wpList_store_mid rfl 36 _ _ rfl (w.heap.size + 1) 0 (saidMl gm).toArray rfl rfl HSt.out.there HSt.out.size HSt.out.one ?_; rw [List.toList_toArray]))
    (try simp only [Exit.inBlock, Exit.then])
    refine bodyPost_ret (result1 rfl _ rfl HSt.out.load) rfl ?_
    exact ⟨gm, rfl, HSt.out.chg.at HGb.out (fun e => by have := HGm.out; have := HL2.out; omega), HC3.out.new HSt.out.chg (fun k e => by omega)⟩
  · have HL := Lib.hid (h.looks hUp.txn)
    have HC := Lib.hid h.co
    have HE := Lib.hid h.ent
    have HF := Lib.hid h.has
    have HA := Lib.hid h.apart
    have HUp := Lib.hid hUp
    have HS := Lib.hid hs
    have ht := hUp.txn
    have hrf := hUp.from'
    clear h hUp hs
    have hmf : ∀ (fn : Fn) (first cap : Array Value) (w : World), (Instr.makeFunc fn first cap).run Try.prog w = .ok (.func fn first cap) w := fun _ _ _ _ => rfl
    unfold ptrV
    go_enter Try.func13, Try.ntmps13
    go_wp2_with fail
    obtain ⟨w0, hw0⟩ : ∃ w0, (w.alloc (.cells #[.int .i64 2, .int .i64 f, .int .i64 0, .int .i64 tx, .bool true, .slice oa 0 cap] 24)).alloc (.cells #[.slice none 0 0, .int .i64 0, .int .i64 0, .int .i64 0] 36) = w0 := ⟨_, rfl⟩
    rw [hw0]
    have hb0 : w0.heap[w.heap.size]? = some (.cells #[.int .i64 2, .int .i64 f, .int .i64 0, .int .i64 tx, .bool true, .slice oa 0 cap] 24 (0, 0)) := by
      subst hw0; simp only [heap_alloc_get, World.size_alloc]; rw [if_neg (by omega), if_pos trivial]
    have hb1 : Arr w0 (w.heap.size + 1) 36 (saidL 0) := by
      subst hw0; unfold Arr; simp only [heap_alloc_get, World.size_alloc]; rw [if_pos trivial]; rfl
    have hc0 : Chg (fun _ => False) w w0 := by subst hw0; exact ((Chg.refl _ _).alloc _).alloc _
    have HB0 := Lib.hid hb0
    have HB1 := Lib.hid hb1
    have HC0 := Lib.hid hc0
    clear hb0 hb1 hc0 hw0
    have b0 := cell_of_block (i := 0) HB0.out rfl
    have b1 := cell_of_block (i := 1) HB0.out rfl
    have b2 := cell_of_block (i := 2) HB0.out rfl
    have b3 := cell_of_block (i := 3) HB0.out rfl
    have b4 := cell_of_block (i := 4) HB0.out rfl
    have b5 := cell_of_block (i := 5) HB0.out rfl
    go_wp2_with (first
      | (go_at_call 34; refine (none_no _ (HC.out.fresh HC0.out)).mono ?_; rintro e w1 ⟨rfl, rfl⟩)
      | (go_at_call 35; refine (wire_good _ 2 f tx true oa cap HUp.out).mono ?_; rintro e w1 ⟨rfl, hc1⟩
         have HC1 := Lib.hid (HC0.out.trans' hc1)
         have HD0 := Lib.hid (hc1.at HB0.out id)
         have HD1 := Lib.hid (show Arr w1 (w.heap.size + 1) 36 (saidL 0) from hc1.at HB1.out id)
         have d2 := cell_of_block (i := 2) (hc1.at HB0.out id) rfl
         clear hc1 b0 b1 b2 b3 b4 b5))
    have hCo := HC.out.fresh HC1.out
    have e1 : w1.cell? ⟨c, 1, none⟩ = some (.map (some q)) := cell_of_block hCo.head rfl
    have e3 : w1.cell? ⟨w.heap.size, 3, none⟩ = some (.int .i64 tx) := cell_of_block HD0.out rfl
    have HLk := Lib.hid (HL.out _ HC1.out.drew)
    have HE1 := Lib.hid (HE.out.fresh HC1.out.drew)
    clear hCo d2
    refine wp_region_noPanic ?_
    refine wp_region_held_drew (S := (fun w' => w'.cell? ⟨c, 1, none⟩ = some (.map (some q)) ∧ w'.cell? ⟨w.heap.size, 3, none⟩ = some (.int .i64 tx) ∧ (Instr.lookup 71 (.map (some q)) (.int .i64 tx) false).run Try.prog w' = .ok (.pointer (some ⟨x, 0, none⟩)) w')) (by kernel_rfl) (⟨e1, e3, HLk.out⟩) (fun hHeld => ?_)
    refine take_list (i := 0) (v := ?_) rfl (by kernel_rfl) (by kernel_rfl) (by kernel_rfl) (fun _ _ _ h => h) (Or.inl ⟨by rfl, fun w hSw => ?_⟩) hHeld ?_
    rotate_left
    · (obtain ⟨hSw1, hSw2, hSw3⟩ := hSw; go_simp)
      try with_reducible rfl
    simp only [Act.put, List.setIfInBounds_toArray, List.set_cons_zero, List.set_cons_succ]
    refine take_list (i := 1) (v := ?_) rfl (by kernel_rfl) (by kernel_rfl) (by kernel_rfl) (fun _ _ _ h => h) (Or.inl ⟨by rfl, fun w hSw => ?_⟩) hHeld ?_
    rotate_left
    · (obtain ⟨hSw1, hSw2, hSw3⟩ := hSw; go_simp)
      try with_reducible rfl
    simp only [Act.put, List.setIfInBounds_toArray, List.set_cons_zero, List.set_cons_succ]
    refine take_list (i := 2) (v := ?_) rfl (by kernel_rfl) (by kernel_rfl) (by kernel_rfl) (fun _ _ _ h => h) (Or.inl ⟨by rfl, fun w hSw => ?_⟩) hHeld ?_
    rotate_left
    · (obtain ⟨hSw1, hSw2, hSw3⟩ := hSw; go_simp)
      try with_reducible rfl
    simp only [Act.put, List.setIfInBounds_toArray, List.set_cons_zero, List.set_cons_succ]
    refine take_list (i := 3) (v := ?_) rfl (by kernel_rfl) (by kernel_rfl) (by kernel_rfl) (fun _ _ _ h => h) (Or.inl ⟨by rfl, fun w hSw => ?_⟩) hHeld ?_
    rotate_left
    · (obtain ⟨hSw1, hSw2, hSw3⟩ := hSw; go_simp)
      try with_reducible rfl
    simp only [Act.put, List.setIfInBounds_toArray, List.set_cons_zero, List.set_cons_succ]
    refine take_list (i := 4) (v := ?_) rfl (by kernel_rfl) (by kernel_rfl) (by kernel_rfl) (fun _ _ _ h => h) (Or.inl ⟨by rfl, fun w hSw => ?_⟩) hHeld ?_
    rotate_left
    · (obtain ⟨hSw1, hSw2, hSw3⟩ := hSw; go_simp)
      try with_reducible rfl
    simp only [Act.put, List.setIfInBounds_toArray, List.set_cons_zero, List.set_cons_succ]
    refine take_list (i := 5) (v := ?_) rfl (by kernel_rfl) (by kernel_rfl) (by kernel_rfl) (fun _ _ _ h => h) (Or.inl ⟨by rfl, fun w hSw => ?_⟩) hHeld ?_
    rotate_left
    · (obtain ⟨hSw1, hSw2, hSw3⟩ := hSw; go_simp)
      try with_reducible rfl
    simp only [Act.put, List.setIfInBounds_toArray, List.set_cons_zero, List.set_cons_succ]
    refine take_list (i := 6) (v := ?_) rfl (by kernel_rfl) (by kernel_rfl) (by kernel_rfl) (fun _ _ _ h => h) (Or.inl ⟨by rfl, fun w hSw => ?_⟩) hHeld ?_
    rotate_left
    · (obtain ⟨hSw1, hSw2, hSw3⟩ := hSw; go_simp)
      try with_reducible rfl
    simp only [Act.put, List.setIfInBounds_toArray, List.set_cons_zero, List.set_cons_succ]
    refine take_list (i := 7) (v := ?_) rfl (by kernel_rfl) (by kernel_rfl) (by kernel_rfl) (fun _ _ _ h => h) (Or.inl ⟨by rfl, fun w hSw => ?_⟩) hHeld ?_
    rotate_left
    · (obtain ⟨hSw1, hSw2, hSw3⟩ := hSw; go_simp)
      try with_reducible rfl
    simp only [Act.put, List.setIfInBounds_toArray, List.set_cons_zero, List.set_cons_succ]
    refine wpAnyH_done (by kernel_rfl) ?_ _
    refine NoPanic.normal ?_
    clear hHeld e1 e3
    have f1 : w1.cell? ⟨w.heap.size, 1, none⟩ = some (.int .i64 f) := cell_of_block HD0.out rfl
    go_wp2_with (first
      | (go_at_call 36; refine (has_any _ HE1.out f).mono ?_; rw [decide_eq_true HF.out]; rintro e w2 ⟨rfl, hc2⟩
         have hG := hc2.at (show w1.drew.heap[w.heap.size]? = _ from HD0.out) id
         have g0 := cell_of_block (i := 0) hG rfl
         have g1 := cell_of_block (i := 1) hG rfl
         have g2 := cell_of_block (i := 2) hG rfl
         have g3 := cell_of_block (i := 3) hG rfl
         have g4 := cell_of_block (i := 4) hG rfl
         have g5 := cell_of_block (i := 5) hG rfl
         have HQ1 := Lib.hid (show Arr w2 (w.heap.size + 1) 36 (saidL 0) from hc2.at (show w1.drew.heap[w.heap.size + 1]? = _ from HD1.out) id)
         have HC2 := Lib.hid (HC1.out.drew.trans' hc2)
         have HE2 := Lib.hid (HE1.out.fresh hc2)
         have HCo2 := Lib.hid (HC.out.fresh (HC1.out.drew.trans' hc2))
         have s0 : w2.cell? ⟨x, 0, none⟩ = some (.int .i64 3) := by
           have := cell_of_block (i := 0) HE2.out.head rfl
           rw [HS.out] at this; exact this
         skip
         clear hc2 hG f1)
      | (go_at_call 37; refine (back_any _ _ 3 f tx g1 g3).mono ?_; rintro e w3 ⟨gm, rfl, hgm, hgb, hc3⟩
         have HSt := Lib.hid (said_to (hc3.at HQ1.out id) rfl (saidMl gm) rfl (one_saidM _))
         have HGm := Lib.hid hgm
         have HGb := Lib.hid hgb
         have HC3 := Lib.hid (HC2.out.trans' hc3)
         have hlt2 : w.heap.size + 1 < w2.heap.size := lt_of_block HQ1.out
         have HL2 := Lib.hid hlt2
         unfold saidM
         clear hgm hgb hc3 hlt2)
      | (refine wpList_store_mid rfl 36 _ _ rfl (w.heap.size + 1) 0 (saidMl gm).toArray rfl rfl HSt.out.there HSt.out.size HSt.out.one ?_; rw [List.toList_toArray]))
    (try simp only [Exit.inBlock, Exit.then])
    refine bodyPost_ret (result1 rfl _ rfl HSt.out.load) rfl ?_
    exact ⟨gm, rfl, HSt.out.chg.at HGb.out (fun e => by have := HGm.out; have := HL2.out; omega), HC3.out.new HSt.out.chg (fun k e => by omega)⟩

set_option maxHeartbeats 1000000 in
theorem k_commit6 (w : World) (f tx : Int) (oa : Option Addr) (cap : Nat) (h : Known w c q x qa F Fc lim m E pv tx f) (hUp : Up 6 f 0 tx false 0) (hs : E.state = 3) :
    Calls Try.prog 13 #[ptrV c, .agg #[.int .i64 6, .int .i64 f, .int .i64 0, .int .i64 tx, .bool false, .slice oa 0 cap]] w fun e w' => ∃ gm, e = .returned (saidM gm) ∧ w'.heap[gm]? = some (.cells (msgC 3 0 f tx false).toArray 24 (0, 0)) ∧ Chg (fun _ => False) w w' := by
  have HL := Lib.hid (h.looks hUp.txn)
  have HC := Lib.hid h.co
  have HE := Lib.hid h.ent
  have HF := Lib.hid h.has
  have HA := Lib.hid h.apart
  have HUp := Lib.hid hUp
  have HS := Lib.hid hs
  have ht := hUp.txn
  have hrf := hUp.from'
  clear h hUp hs
  have hmf : ∀ (fn : Fn) (first cap : Array Value) (w : World), (Instr.makeFunc fn first cap).run Try.prog w = .ok (.func fn first cap) w := fun _ _ _ _ => rfl
  unfold ptrV
  go_enter Try.func13, Try.ntmps13
  go_wp2_with fail
  obtain ⟨w0, hw0⟩ : ∃ w0, (w.alloc (.cells #[.int .i64 6, .int .i64 f, .int .i64 0, .int .i64 tx, .bool false, .slice oa 0 cap] 24)).alloc (.cells #[.slice none 0 0, .int .i64 0, .int .i64 0, .int .i64 0] 36) = w0 := ⟨_, rfl⟩
  rw [hw0]
  have hb0 : w0.heap[w.heap.size]? = some (.cells #[.int .i64 6, .int .i64 f, .int .i64 0, .int .i64 tx, .bool false, .slice oa 0 cap] 24 (0, 0)) := by
    subst hw0; simp only [heap_alloc_get, World.size_alloc]; rw [if_neg (by omega), if_pos trivial]
  have hb1 : Arr w0 (w.heap.size + 1) 36 (saidL 0) := by
    subst hw0; unfold Arr; simp only [heap_alloc_get, World.size_alloc]; rw [if_pos trivial]; rfl
  have hc0 : Chg (fun _ => False) w w0 := by subst hw0; exact ((Chg.refl _ _).alloc _).alloc _
  have HB0 := Lib.hid hb0
  have HB1 := Lib.hid hb1
  have HC0 := Lib.hid hc0
  clear hb0 hb1 hc0 hw0
  have b0 := cell_of_block (i := 0) HB0.out rfl
  have b1 := cell_of_block (i := 1) HB0.out rfl
  have b2 := cell_of_block (i := 2) HB0.out rfl
  have b3 := cell_of_block (i := 3) HB0.out rfl
  have b4 := cell_of_block (i := 4) HB0.out rfl
  have b5 := cell_of_block (i := 5) HB0.out rfl
  go_wp2_with (first
    | (go_at_call 34; refine (none_no _ (HC.out.fresh HC0.out)).mono ?_; rintro e w1 ⟨rfl, rfl⟩)
    | (go_at_call 35; refine (wire_good _ 6 f tx false oa cap HUp.out).mono ?_; rintro e w1 ⟨rfl, hc1⟩
       have HC1 := Lib.hid (HC0.out.trans' hc1)
       have HD0 := Lib.hid (hc1.at HB0.out id)
       have HD1 := Lib.hid (show Arr w1 (w.heap.size + 1) 36 (saidL 0) from hc1.at HB1.out id)
       have d2 := cell_of_block (i := 2) (hc1.at HB0.out id) rfl
       clear hc1 b0 b1 b2 b3 b4 b5))
  have hCo := HC.out.fresh HC1.out
  have e1 : w1.cell? ⟨c, 1, none⟩ = some (.map (some q)) := cell_of_block hCo.head rfl
  have e3 : w1.cell? ⟨w.heap.size, 3, none⟩ = some (.int .i64 tx) := cell_of_block HD0.out rfl
  have HLk := Lib.hid (HL.out _ HC1.out.drew)
  have HE1 := Lib.hid (HE.out.fresh HC1.out.drew)
  clear hCo d2
  refine wp_region_noPanic ?_
  refine wp_region_held_drew (S := (fun w' => w'.cell? ⟨c, 1, none⟩ = some (.map (some q)) ∧ w'.cell? ⟨w.heap.size, 3, none⟩ = some (.int .i64 tx) ∧ (Instr.lookup 71 (.map (some q)) (.int .i64 tx) false).run Try.prog w' = .ok (.pointer (some ⟨x, 0, none⟩)) w')) (by kernel_rfl) (⟨e1, e3, HLk.out⟩) (fun hHeld => ?_)
  refine take_list (i := 0) (v := ?_) rfl (by kernel_rfl) (by kernel_rfl) (by kernel_rfl) (fun _ _ _ h => h) (Or.inl ⟨by rfl, fun w hSw => ?_⟩) hHeld ?_
  rotate_left
  · (obtain ⟨hSw1, hSw2, hSw3⟩ := hSw; go_simp)
    try with_reducible rfl
  simp only [Act.put, List.setIfInBounds_toArray, List.set_cons_zero, List.set_cons_succ]
  refine take_list (i := 1) (v := ?_) rfl (by kernel_rfl) (by kernel_rfl) (by kernel_rfl) (fun _ _ _ h => h) (Or.inl ⟨by rfl, fun w hSw => ?_⟩) hHeld ?_
  rotate_left
  · (obtain ⟨hSw1, hSw2, hSw3⟩ := hSw; go_simp)
    try with_reducible rfl
  simp only [Act.put, List.setIfInBounds_toArray, List.set_cons_zero, List.set_cons_succ]
  refine take_list (i := 2) (v := ?_) rfl (by kernel_rfl) (by kernel_rfl) (by kernel_rfl) (fun _ _ _ h => h) (Or.inl ⟨by rfl, fun w hSw => ?_⟩) hHeld ?_
  rotate_left
  · (obtain ⟨hSw1, hSw2, hSw3⟩ := hSw; go_simp)
    try with_reducible rfl
  simp only [Act.put, List.setIfInBounds_toArray, List.set_cons_zero, List.set_cons_succ]
  refine take_list (i := 3) (v := ?_) rfl (by kernel_rfl) (by kernel_rfl) (by kernel_rfl) (fun _ _ _ h => h) (Or.inl ⟨by rfl, fun w hSw => ?_⟩) hHeld ?_
  rotate_left
  · (obtain ⟨hSw1, hSw2, hSw3⟩ := hSw; go_simp)
    try with_reducible rfl
  simp only [Act.put, List.setIfInBounds_toArray, List.set_cons_zero, List.set_cons_succ]
  refine take_list (i := 4) (v := ?_) rfl (by kernel_rfl) (by kernel_rfl) (by kernel_rfl) (fun _ _ _ h => h) (Or.inl ⟨by rfl, fun w hSw => ?_⟩) hHeld ?_
  rotate_left
  · (obtain ⟨hSw1, hSw2, hSw3⟩ := hSw; go_simp)
    try with_reducible rfl
  simp only [Act.put, List.setIfInBounds_toArray, List.set_cons_zero, List.set_cons_succ]
  refine take_list (i := 5) (v := ?_) rfl (by kernel_rfl) (by kernel_rfl) (by kernel_rfl) (fun _ _ _ h => h) (Or.inl ⟨by rfl, fun w hSw => ?_⟩) hHeld ?_
  rotate_left
  · (obtain ⟨hSw1, hSw2, hSw3⟩ := hSw; go_simp)
    try with_reducible rfl
  simp only [Act.put, List.setIfInBounds_toArray, List.set_cons_zero, List.set_cons_succ]
  refine take_list (i := 6) (v := ?_) rfl (by kernel_rfl) (by kernel_rfl) (by kernel_rfl) (fun _ _ _ h => h) (Or.inl ⟨by rfl, fun w hSw => ?_⟩) hHeld ?_
  rotate_left
  · (obtain ⟨hSw1, hSw2, hSw3⟩ := hSw; go_simp)
    try with_reducible rfl
  simp only [Act.put, List.setIfInBounds_toArray, List.set_cons_zero, List.set_cons_succ]
  refine take_list (i := 7) (v := ?_) rfl (by kernel_rfl) (by kernel_rfl) (by kernel_rfl) (fun _ _ _ h => h) (Or.inl ⟨by rfl, fun w hSw => ?_⟩) hHeld ?_
  rotate_left
  · (obtain ⟨hSw1, hSw2, hSw3⟩ := hSw; go_simp)
    try with_reducible rfl
  simp only [Act.put, List.setIfInBounds_toArray, List.set_cons_zero, List.set_cons_succ]
  refine wpAnyH_done (by kernel_rfl) ?_ _
  refine NoPanic.normal ?_
  clear hHeld e1 e3
  have f1 : w1.cell? ⟨w.heap.size, 1, none⟩ = some (.int .i64 f) := cell_of_block HD0.out rfl
  go_wp2_with (first
    | (go_at_call 36; refine (has_any _ HE1.out f).mono ?_; rw [decide_eq_true HF.out]; rintro e w2 ⟨rfl, hc2⟩
       have hG := hc2.at (show w1.drew.heap[w.heap.size]? = _ from HD0.out) id
       have g0 := cell_of_block (i := 0) hG rfl
       have g1 := cell_of_block (i := 1) hG rfl
       have g2 := cell_of_block (i := 2) hG rfl
       have g3 := cell_of_block (i := 3) hG rfl
       have g4 := cell_of_block (i := 4) hG rfl
       have g5 := cell_of_block (i := 5) hG rfl
       have HQ1 := Lib.hid (show Arr w2 (w.heap.size + 1) 36 (saidL 0) from hc2.at (show w1.drew.heap[w.heap.size + 1]? = _ from HD1.out) id)
       have HC2 := Lib.hid (HC1.out.drew.trans' hc2)
       have HE2 := Lib.hid (HE1.out.fresh hc2)
       have HCo2 := Lib.hid (HC.out.fresh (HC1.out.drew.trans' hc2))
       have s0 : w2.cell? ⟨x, 0, none⟩ = some (.int .i64 3) := by
         have := cell_of_block (i := 0) HE2.out.head rfl
         rw [HS.out] at this; exact this
       skip
       clear hc2 hG f1)
    | (go_at_call 37; refine (back_any _ _ 3 f tx g1 g3).mono ?_; rintro e w3 ⟨gm, rfl, hgm, hgb, hc3⟩
       have HSt := Lib.hid (said_to (hc3.at HQ1.out id) rfl (saidMl gm) rfl (one_saidM _))
       have HGm := Lib.hid hgm
       have HGb := Lib.hid hgb
       have HC3 := Lib.hid (HC2.out.trans' hc3)
       have hlt2 : w.heap.size + 1 < w2.heap.size := lt_of_block HQ1.out
       have HL2 := Lib.hid hlt2
       unfold saidM
       clear hgm hgb hc3 hlt2)
    | (refine wpList_store_mid rfl 36 _ _ rfl (w.heap.size + 1) 0 (saidMl gm).toArray rfl rfl HSt.out.there HSt.out.size HSt.out.one ?_; rw [List.toList_toArray]))
  (try simp only [Exit.inBlock, Exit.then])
  refine bodyPost_ret (result1 rfl _ rfl HSt.out.load) rfl ?_
  exact ⟨gm, rfl, HSt.out.chg.at HGb.out (fun e => by have := HGm.out; have := HL2.out; omega), HC3.out.new HSt.out.chg (fun k e => by omega)⟩


set_option maxHeartbeats 1000000 in
theorem k_ackno (w : World) (f tx : Int) (oa : Option Addr) (cap : Nat) (h : Known w c q x qa F Fc lim m E pv tx f) (hUp : Up 5 f 0 tx false 0) (hs12 : E.state = 1 ∨ E.state = 2) :
    Calls Try.prog 13 #[ptrV c, .agg #[.int .i64 5, .int .i64 f, .int .i64 0, .int .i64 tx, .bool false, .slice oa 0 cap]] w fun e w' => e = .returned (saidV 0) ∧ Chg (fun _ => False) w w' := by
  rcases hs12 with hs | hs
  · have HL := Lib.hid (h.looks hUp.txn)
    have HC := Lib.hid h.co
    have HE := Lib.hid h.ent
    have HF := Lib.hid h.has
    have HA := Lib.hid h.apart
    have HUp := Lib.hid hUp
    have HS := Lib.hid hs
    have ht := hUp.txn
    have hrf := hUp.from'
    clear h hUp hs
    have hmf : ∀ (fn : Fn) (first cap : Array Value) (w : World), (Instr.makeFunc fn first cap).run Try.prog w = .ok (.func fn first cap) w := fun _ _ _ _ => rfl
    unfold ptrV
    go_enter Try.func13, Try.ntmps13
    go_wp2_with fail
    obtain ⟨w0, hw0⟩ : ∃ w0, (w.alloc (.cells #[.int .i64 5, .int .i64 f, .int .i64 0, .int .i64 tx, .bool false, .slice oa 0 cap] 24)).alloc (.cells #[.slice none 0 0, .int .i64 0, .int .i64 0, .int .i64 0] 36) = w0 := ⟨_, rfl⟩
    rw [hw0]
    have hb0 : w0.heap[w.heap.size]? = some (.cells #[.int .i64 5, .int .i64 f, .int .i64 0, .int .i64 tx, .bool false, .slice oa 0 cap] 24 (0, 0)) := by
      subst hw0; simp only [heap_alloc_get, World.size_alloc]; rw [if_neg (by omega), if_pos trivial]
    have hb1 : Arr w0 (w.heap.size + 1) 36 (saidL 0) := by
      subst hw0; unfold Arr; simp only [heap_alloc_get, World.size_alloc]; rw [if_pos trivial]; rfl
    have hc0 : Chg (fun _ => False) w w0 := by subst hw0; exact ((Chg.refl _ _).alloc _).alloc _
    have HB0 := Lib.hid hb0
    have HB1 := Lib.hid hb1
    have HC0 := Lib.hid hc0
    clear hb0 hb1 hc0 hw0
    have b0 := cell_of_block (i := 0) HB0.out rfl
    have b1 := cell_of_block (i := 1) HB0.out rfl
    have b2 := cell_of_block (i := 2) HB0.out rfl
    have b3 := cell_of_block (i := 3) HB0.out rfl
    have b4 := cell_of_block (i := 4) HB0.out rfl
    have b5 := cell_of_block (i := 5) HB0.out rfl
    go_wp2_with (first
      | (go_at_call 34; refine (none_no _ (HC.out.fresh HC0.out)).mono ?_; rintro e w1 ⟨rfl, rfl⟩)
      | (go_at_call 35; refine (wire_good _ 5 f tx false oa cap HUp.out).mono ?_; rintro e w1 ⟨rfl, hc1⟩
         have HC1 := Lib.hid (HC0.out.trans' hc1)
         have HD0 := Lib.hid (hc1.at HB0.out id)
         have HD1 := Lib.hid (show Arr w1 (w.heap.size + 1) 36 (saidL 0) from hc1.at HB1.out id)
         have d2 := cell_of_block (i := 2) (hc1.at HB0.out id) rfl
         clear hc1 b0 b1 b2 b3 b4 b5))
    have hCo := HC.out.fresh HC1.out
    have e1 : w1.cell? ⟨c, 1, none⟩ = some (.map (some q)) := cell_of_block hCo.head rfl
    have e3 : w1.cell? ⟨w.heap.size, 3, none⟩ = some (.int .i64 tx) := cell_of_block HD0.out rfl
    have HLk := Lib.hid (HL.out _ HC1.out.drew)
    have HE1 := Lib.hid (HE.out.fresh HC1.out.drew)
    clear hCo d2
    refine wp_region_noPanic ?_
    refine wp_region_held_drew (S := (fun w' => w'.cell? ⟨c, 1, none⟩ = some (.map (some q)) ∧ w'.cell? ⟨w.heap.size, 3, none⟩ = some (.int .i64 tx) ∧ (Instr.lookup 71 (.map (some q)) (.int .i64 tx) false).run Try.prog w' = .ok (.pointer (some ⟨x, 0, none⟩)) w')) (by kernel_rfl) (⟨e1, e3, HLk.out⟩) (fun hHeld => ?_)
    refine take_list (i := 0) (v := ?_) rfl (by kernel_rfl) (by kernel_rfl) (by kernel_rfl) (fun _ _ _ h => h) (Or.inl ⟨by rfl, fun w hSw => ?_⟩) hHeld ?_
    rotate_left
    · (obtain ⟨hSw1, hSw2, hSw3⟩ := hSw; go_simp)
      try with_reducible rfl
    simp only [Act.put, List.setIfInBounds_toArray, List.set_cons_zero, List.set_cons_succ]
    refine take_list (i := 1) (v := ?_) rfl (by kernel_rfl) (by kernel_rfl) (by kernel_rfl) (fun _ _ _ h => h) (Or.inl ⟨by rfl, fun w hSw => ?_⟩) hHeld ?_
    rotate_left
    · (obtain ⟨hSw1, hSw2, hSw3⟩ := hSw; go_simp)
      try with_reducible rfl
    simp only [Act.put, List.setIfInBounds_toArray, List.set_cons_zero, List.set_cons_succ]
    refine take_list (i := 2) (v := ?_) rfl (by kernel_rfl) (by kernel_rfl) (by kernel_rfl) (fun _ _ _ h => h) (Or.inl ⟨by rfl, fun w hSw => ?_⟩) hHeld ?_
    rotate_left
    · (obtain ⟨hSw1, hSw2, hSw3⟩ := hSw; go_simp)
      try with_reducible rfl
    simp only [Act.put, List.setIfInBounds_toArray, List.set_cons_zero, List.set_cons_succ]
    refine take_list (i := 3) (v := ?_) rfl (by kernel_rfl) (by kernel_rfl) (by kernel_rfl) (fun _ _ _ h => h) (Or.inl ⟨by rfl, fun w hSw => ?_⟩) hHeld ?_
    rotate_left
    · (obtain ⟨hSw1, hSw2, hSw3⟩ := hSw; go_simp)
      try with_reducible rfl
    simp only [Act.put, List.setIfInBounds_toArray, List.set_cons_zero, List.set_cons_succ]
    refine take_list (i := 4) (v := ?_) rfl (by kernel_rfl) (by kernel_rfl) (by kernel_rfl) (fun _ _ _ h => h) (Or.inl ⟨by rfl, fun w hSw => ?_⟩) hHeld ?_
    rotate_left
    · (obtain ⟨hSw1, hSw2, hSw3⟩ := hSw; go_simp)
      try with_reducible rfl
    simp only [Act.put, List.setIfInBounds_toArray, List.set_cons_zero, List.set_cons_succ]
    refine take_list (i := 5) (v := ?_) rfl (by kernel_rfl) (by kernel_rfl) (by kernel_rfl) (fun _ _ _ h => h) (Or.inl ⟨by rfl, fun w hSw => ?_⟩) hHeld ?_
    rotate_left
    · (obtain ⟨hSw1, hSw2, hSw3⟩ := hSw; go_simp)
      try with_reducible rfl
    simp only [Act.put, List.setIfInBounds_toArray, List.set_cons_zero, List.set_cons_succ]
    refine take_list (i := 6) (v := ?_) rfl (by kernel_rfl) (by kernel_rfl) (by kernel_rfl) (fun _ _ _ h => h) (Or.inl ⟨by rfl, fun w hSw => ?_⟩) hHeld ?_
    rotate_left
    · (obtain ⟨hSw1, hSw2, hSw3⟩ := hSw; go_simp)
      try with_reducible rfl
    simp only [Act.put, List.setIfInBounds_toArray, List.set_cons_zero, List.set_cons_succ]
    refine take_list (i := 7) (v := ?_) rfl (by kernel_rfl) (by kernel_rfl) (by kernel_rfl) (fun _ _ _ h => h) (Or.inl ⟨by rfl, fun w hSw => ?_⟩) hHeld ?_
    rotate_left
    · (obtain ⟨hSw1, hSw2, hSw3⟩ := hSw; go_simp)
      try with_reducible rfl
    simp only [Act.put, List.setIfInBounds_toArray, List.set_cons_zero, List.set_cons_succ]
    refine wpAnyH_done (by kernel_rfl) ?_ _
    refine NoPanic.normal ?_
    clear hHeld e1 e3
    have f1 : w1.cell? ⟨w.heap.size, 1, none⟩ = some (.int .i64 f) := cell_of_block HD0.out rfl
    go_wp2_with (first
      | (go_at_call 36; refine (has_any _ HE1.out f).mono ?_; rw [decide_eq_true HF.out]; rintro e w2 ⟨rfl, hc2⟩
         have hG := hc2.at (show w1.drew.heap[w.heap.size]? = _ from HD0.out) id
         have g0 := cell_of_block (i := 0) hG rfl
         have g1 := cell_of_block (i := 1) hG rfl
         have g2 := cell_of_block (i := 2) hG rfl
         have g3 := cell_of_block (i := 3) hG rfl
         have g4 := cell_of_block (i := 4) hG rfl
         have g5 := cell_of_block (i := 5) hG rfl
         have HQ1 := Lib.hid (show Arr w2 (w.heap.size + 1) 36 (saidL 0) from hc2.at (show w1.drew.heap[w.heap.size + 1]? = _ from HD1.out) id)
         have HC2 := Lib.hid (HC1.out.drew.trans' hc2)
         have HE2 := Lib.hid (HE1.out.fresh hc2)
         have HCo2 := Lib.hid (HC.out.fresh (HC1.out.drew.trans' hc2))
         have s0 : w2.cell? ⟨x, 0, none⟩ = some (.int .i64 1) := by
           have := cell_of_block (i := 0) HE2.out.head rfl
           rw [HS.out] at this; exact this
         skip
         clear hc2 hG f1)
      | (go_at_call 38; refine (ack_other _ HE2.out _ f tx oa cap (by rw [HS.out]; decide)).mono ?_; rintro e w3 ⟨rfl, hc3⟩
         have HSt := Lib.hid (said_to (hc3.at HQ1.out id) rfl (saidL 0) rfl (one_saidC 0))
         have HC3 := Lib.hid (HC2.out.trans' hc3)
         unfold saidC
         clear hc3)
      | (refine wpList_store_mid rfl 36 _ _ rfl (w.heap.size + 1) 0 (saidL 0).toArray rfl rfl HSt.out.there HSt.out.size HSt.out.one ?_; rw [List.toList_toArray]))
    (try simp only [Exit.inBlock, Exit.then])
    refine bodyPost_ret (result1 rfl _ rfl HSt.out.load) rfl ?_
    exact ⟨rfl, HC3.out.new HSt.out.chg (fun k e => by omega)⟩
  · have HL := Lib.hid (h.looks hUp.txn)
    have HC := Lib.hid h.co
    have HE := Lib.hid h.ent
    have HF := Lib.hid h.has
    have HA := Lib.hid h.apart
    have HUp := Lib.hid hUp
    have HS := Lib.hid hs
    have ht := hUp.txn
    have hrf := hUp.from'
    clear h hUp hs
    have hmf : ∀ (fn : Fn) (first cap : Array Value) (w : World), (Instr.makeFunc fn first cap).run Try.prog w = .ok (.func fn first cap) w := fun _ _ _ _ => rfl
    unfold ptrV
    go_enter Try.func13, Try.ntmps13
    go_wp2_with fail
    obtain ⟨w0, hw0⟩ : ∃ w0, (w.alloc (.cells #[.int .i64 5, .int .i64 f, .int .i64 0, .int .i64 tx, .bool false, .slice oa 0 cap] 24)).alloc (.cells #[.slice none 0 0, .int .i64 0, .int .i64 0, .int .i64 0] 36) = w0 := ⟨_, rfl⟩
    rw [hw0]
    have hb0 : w0.heap[w.heap.size]? = some (.cells #[.int .i64 5, .int .i64 f, .int .i64 0, .int .i64 tx, .bool false, .slice oa 0 cap] 24 (0, 0)) := by
      subst hw0; simp only [heap_alloc_get, World.size_alloc]; rw [if_neg (by omega), if_pos trivial]
    have hb1 : Arr w0 (w.heap.size + 1) 36 (saidL 0) := by
      subst hw0; unfold Arr; simp only [heap_alloc_get, World.size_alloc]; rw [if_pos trivial]; rfl
    have hc0 : Chg (fun _ => False) w w0 := by subst hw0; exact ((Chg.refl _ _).alloc _).alloc _
    have HB0 := Lib.hid hb0
    have HB1 := Lib.hid hb1
    have HC0 := Lib.hid hc0
    clear hb0 hb1 hc0 hw0
    have b0 := cell_of_block (i := 0) HB0.out rfl
    have b1 := cell_of_block (i := 1) HB0.out rfl
    have b2 := cell_of_block (i := 2) HB0.out rfl
    have b3 := cell_of_block (i := 3) HB0.out rfl
    have b4 := cell_of_block (i := 4) HB0.out rfl
    have b5 := cell_of_block (i := 5) HB0.out rfl
    go_wp2_with (first
      | (go_at_call 34; refine (none_no _ (HC.out.fresh HC0.out)).mono ?_; rintro e w1 ⟨rfl, rfl⟩)
      | (go_at_call 35; refine (wire_good _ 5 f tx false oa cap HUp.out).mono ?_; rintro e w1 ⟨rfl, hc1⟩
         have HC1 := Lib.hid (HC0.out.trans' hc1)
         have HD0 := Lib.hid (hc1.at HB0.out id)
         have HD1 := Lib.hid (show Arr w1 (w.heap.size + 1) 36 (saidL 0) from hc1.at HB1.out id)
         have d2 := cell_of_block (i := 2) (hc1.at HB0.out id) rfl
         clear hc1 b0 b1 b2 b3 b4 b5))
    have hCo := HC.out.fresh HC1.out
    have e1 : w1.cell? ⟨c, 1, none⟩ = some (.map (some q)) := cell_of_block hCo.head rfl
    have e3 : w1.cell? ⟨w.heap.size, 3, none⟩ = some (.int .i64 tx) := cell_of_block HD0.out rfl
    have HLk := Lib.hid (HL.out _ HC1.out.drew)
    have HE1 := Lib.hid (HE.out.fresh HC1.out.drew)
    clear hCo d2
    refine wp_region_noPanic ?_
    refine wp_region_held_drew (S := (fun w' => w'.cell? ⟨c, 1, none⟩ = some (.map (some q)) ∧ w'.cell? ⟨w.heap.size, 3, none⟩ = some (.int .i64 tx) ∧ (Instr.lookup 71 (.map (some q)) (.int .i64 tx) false).run Try.prog w' = .ok (.pointer (some ⟨x, 0, none⟩)) w')) (by kernel_rfl) (⟨e1, e3, HLk.out⟩) (fun hHeld => ?_)
    refine take_list (i := 0) (v := ?_) rfl (by kernel_rfl) (by kernel_rfl) (by kernel_rfl) (fun _ _ _ h => h) (Or.inl ⟨by rfl, fun w hSw => ?_⟩) hHeld ?_
    rotate_left
    · (obtain ⟨hSw1, hSw2, hSw3⟩ := hSw; go_simp)
      try with_reducible rfl
    simp only [Act.put, List.setIfInBounds_toArray, List.set_cons_zero, List.set_cons_succ]
    refine take_list (i := 1) (v := ?_) rfl (by kernel_rfl) (by kernel_rfl) (by kernel_rfl) (fun _ _ _ h => h) (Or.inl ⟨by rfl, fun w hSw => ?_⟩) hHeld ?_
    rotate_left
    · (obtain ⟨hSw1, hSw2, hSw3⟩ := hSw; go_simp)
      try with_reducible rfl
    simp only [Act.put, List.setIfInBounds_toArray, List.set_cons_zero, List.set_cons_succ]
    refine take_list (i := 2) (v := ?_) rfl (by kernel_rfl) (by kernel_rfl) (by kernel_rfl) (fun _ _ _ h => h) (Or.inl ⟨by rfl, fun w hSw => ?_⟩) hHeld ?_
    rotate_left
    · (obtain ⟨hSw1, hSw2, hSw3⟩ := hSw; go_simp)
      try with_reducible rfl
    simp only [Act.put, List.setIfInBounds_toArray, List.set_cons_zero, List.set_cons_succ]
    refine take_list (i := 3) (v := ?_) rfl (by kernel_rfl) (by kernel_rfl) (by kernel_rfl) (fun _ _ _ h => h) (Or.inl ⟨by rfl, fun w hSw => ?_⟩) hHeld ?_
    rotate_left
    · (obtain ⟨hSw1, hSw2, hSw3⟩ := hSw; go_simp)
      try with_reducible rfl
    simp only [Act.put, List.setIfInBounds_toArray, List.set_cons_zero, List.set_cons_succ]
    refine take_list (i := 4) (v := ?_) rfl (by kernel_rfl) (by kernel_rfl) (by kernel_rfl) (fun _ _ _ h => h) (Or.inl ⟨by rfl, fun w hSw => ?_⟩) hHeld ?_
    rotate_left
    · (obtain ⟨hSw1, hSw2, hSw3⟩ := hSw; go_simp)
      try with_reducible rfl
    simp only [Act.put, List.setIfInBounds_toArray, List.set_cons_zero, List.set_cons_succ]
    refine take_list (i := 5) (v := ?_) rfl (by kernel_rfl) (by kernel_rfl) (by kernel_rfl) (fun _ _ _ h => h) (Or.inl ⟨by rfl, fun w hSw => ?_⟩) hHeld ?_
    rotate_left
    · (obtain ⟨hSw1, hSw2, hSw3⟩ := hSw; go_simp)
      try with_reducible rfl
    simp only [Act.put, List.setIfInBounds_toArray, List.set_cons_zero, List.set_cons_succ]
    refine take_list (i := 6) (v := ?_) rfl (by kernel_rfl) (by kernel_rfl) (by kernel_rfl) (fun _ _ _ h => h) (Or.inl ⟨by rfl, fun w hSw => ?_⟩) hHeld ?_
    rotate_left
    · (obtain ⟨hSw1, hSw2, hSw3⟩ := hSw; go_simp)
      try with_reducible rfl
    simp only [Act.put, List.setIfInBounds_toArray, List.set_cons_zero, List.set_cons_succ]
    refine take_list (i := 7) (v := ?_) rfl (by kernel_rfl) (by kernel_rfl) (by kernel_rfl) (fun _ _ _ h => h) (Or.inl ⟨by rfl, fun w hSw => ?_⟩) hHeld ?_
    rotate_left
    · (obtain ⟨hSw1, hSw2, hSw3⟩ := hSw; go_simp)
      try with_reducible rfl
    simp only [Act.put, List.setIfInBounds_toArray, List.set_cons_zero, List.set_cons_succ]
    refine wpAnyH_done (by kernel_rfl) ?_ _
    refine NoPanic.normal ?_
    clear hHeld e1 e3
    have f1 : w1.cell? ⟨w.heap.size, 1, none⟩ = some (.int .i64 f) := cell_of_block HD0.out rfl
    go_wp2_with (first
      | (go_at_call 36; refine (has_any _ HE1.out f).mono ?_; rw [decide_eq_true HF.out]; rintro e w2 ⟨rfl, hc2⟩
         have hG := hc2.at (show w1.drew.heap[w.heap.size]? = _ from HD0.out) id
         have g0 := cell_of_block (i := 0) hG rfl
         have g1 := cell_of_block (i := 1) hG rfl
         have g2 := cell_of_block (i := 2) hG rfl
         have g3 := cell_of_block (i := 3) hG rfl
         have g4 := cell_of_block (i := 4) hG rfl
         have g5 := cell_of_block (i := 5) hG rfl
         have HQ1 := Lib.hid (show Arr w2 (w.heap.size + 1) 36 (saidL 0) from hc2.at (show w1.drew.heap[w.heap.size + 1]? = _ from HD1.out) id)
         have HC2 := Lib.hid (HC1.out.drew.trans' hc2)
         have HE2 := Lib.hid (HE1.out.fresh hc2)
         have HCo2 := Lib.hid (HC.out.fresh (HC1.out.drew.trans' hc2))
         have s0 : w2.cell? ⟨x, 0, none⟩ = some (.int .i64 2) := by
           have := cell_of_block (i := 0) HE2.out.head rfl
           rw [HS.out] at this; exact this
         skip
         clear hc2 hG f1)
      | (go_at_call 38; refine (ack_other _ HE2.out _ f tx oa cap (by rw [HS.out]; decide)).mono ?_; rintro e w3 ⟨rfl, hc3⟩
         have HSt := Lib.hid (said_to (hc3.at HQ1.out id) rfl (saidL 0) rfl (one_saidC 0))
         have HC3 := Lib.hid (HC2.out.trans' hc3)
         unfold saidC
         clear hc3)
      | (refine wpList_store_mid rfl 36 _ _ rfl (w.heap.size + 1) 0 (saidL 0).toArray rfl rfl HSt.out.there HSt.out.size HSt.out.one ?_; rw [List.toList_toArray]))
    (try simp only [Exit.inBlock, Exit.then])
    refine bodyPost_ret (result1 rfl _ rfl HSt.out.load) rfl ?_
    exact ⟨rfl, HC3.out.new HSt.out.chg (fun k e => by omega)⟩

set_option maxHeartbeats 1000000 in
theorem k_ack (w : World) (f tx : Int) (oa : Option Addr) (cap : Nat) (h : Known w c q x qa F Fc lim m E pv tx f) (hUp : Up 5 f 0 tx false 0) (hs : E.state = 3) :
    Calls Try.prog 13 #[ptrV c, .agg #[.int .i64 5, .int .i64 f, .int .i64 0, .int .i64 tx, .bool false, .slice oa 0 cap]] w fun e w' => e = .returned (saidC (if lacksOf (E.yes f) E.ps.length = [] then tx else 0)) ∧ EntIs w' x F (E.yes f) pv qa ∧ CoIs w' c Fc lim (if lacksOf (E.yes f) E.ps.length = [] then mdel m tx else m) q ∧ Chg (fun k => F k ∨ Fc k) w w' := by
  obtain ⟨lg, hlg⟩ : ∃ lg, (if lacksOf (E.yes f) E.ps.length = [] then tx else 0) = lg := ⟨_, rfl⟩
  obtain ⟨m', hm'⟩ : ∃ m', (if lacksOf (E.yes f) E.ps.length = [] then mdel m tx else m) = m' := ⟨_, rfl⟩
  rw [hlg, hm']
  have HLg := Lib.hid hlg
  have HM' := Lib.hid hm'
  clear hlg hm'
  have HL := Lib.hid (h.looks hUp.txn)
  have HC := Lib.hid h.co
  have HE := Lib.hid h.ent
  have HF := Lib.hid h.has
  have HA := Lib.hid h.apart
  have HUp := Lib.hid hUp
  have HS := Lib.hid hs
  have ht := hUp.txn
  have hrf := hUp.from'
  clear h hUp hs
  have hmf : ∀ (fn : Fn) (first cap : Array Value) (w : World), (Instr.makeFunc fn first cap).run Try.prog w = .ok (.func fn first cap) w := fun _ _ _ _ => rfl
  unfold ptrV
  go_enter Try.func13, Try.ntmps13
  go_wp2_with fail
  obtain ⟨w0, hw0⟩ : ∃ w0, (w.alloc (.cells #[.int .i64 5, .int .i64 f, .int .i64 0, .int .i64 tx, .bool false, .slice oa 0 cap] 24)).alloc (.cells #[.slice none 0 0, .int .i64 0, .int .i64 0, .int .i64 0] 36) = w0 := ⟨_, rfl⟩
  rw [hw0]
  have hb0 : w0.heap[w.heap.size]? = some (.cells #[.int .i64 5, .int .i64 f, .int .i64 0, .int .i64 tx, .bool false, .slice oa 0 cap] 24 (0, 0)) := by
    subst hw0; simp only [heap_alloc_get, World.size_alloc]; rw [if_neg (by omega), if_pos trivial]
  have hb1 : Arr w0 (w.heap.size + 1) 36 (saidL 0) := by
    subst hw0; unfold Arr; simp only [heap_alloc_get, World.size_alloc]; rw [if_pos trivial]; rfl
  have hc0 : Chg (fun _ => False) w w0 := by subst hw0; exact ((Chg.refl _ _).alloc _).alloc _
  have HB0 := Lib.hid hb0
  have HB1 := Lib.hid hb1
  have HC0 := Lib.hid hc0
  clear hb0 hb1 hc0 hw0
  have b0 := cell_of_block (i := 0) HB0.out rfl
  have b1 := cell_of_block (i := 1) HB0.out rfl
  have b2 := cell_of_block (i := 2) HB0.out rfl
  have b3 := cell_of_block (i := 3) HB0.out rfl
  have b4 := cell_of_block (i := 4) HB0.out rfl
  have b5 := cell_of_block (i := 5) HB0.out rfl
  go_wp2_with (first
    | (go_at_call 34; refine (none_no _ (HC.out.fresh HC0.out)).mono ?_; rintro e w1 ⟨rfl, rfl⟩)
    | (go_at_call 35; refine (wire_good _ 5 f tx false oa cap HUp.out).mono ?_; rintro e w1 ⟨rfl, hc1⟩
       have HC1 := Lib.hid (HC0.out.trans' hc1)
       have HD0 := Lib.hid (hc1.at HB0.out id)
       have HD1 := Lib.hid (show Arr w1 (w.heap.size + 1) 36 (saidL 0) from hc1.at HB1.out id)
       have d2 := cell_of_block (i := 2) (hc1.at HB0.out id) rfl
       clear hc1 b0 b1 b2 b3 b4 b5))
  have hCo := HC.out.fresh HC1.out
  have e1 : w1.cell? ⟨c, 1, none⟩ = some (.map (some q)) := cell_of_block hCo.head rfl
  have e3 : w1.cell? ⟨w.heap.size, 3, none⟩ = some (.int .i64 tx) := cell_of_block HD0.out rfl
  have HLk := Lib.hid (HL.out _ HC1.out.drew)
  have HE1 := Lib.hid (HE.out.fresh HC1.out.drew)
  clear hCo d2
  refine wp_region_noPanic ?_
  refine wp_region_held_drew (S := (fun w' => w'.cell? ⟨c, 1, none⟩ = some (.map (some q)) ∧ w'.cell? ⟨w.heap.size, 3, none⟩ = some (.int .i64 tx) ∧ (Instr.lookup 71 (.map (some q)) (.int .i64 tx) false).run Try.prog w' = .ok (.pointer (some ⟨x, 0, none⟩)) w')) (by kernel_rfl) (⟨e1, e3, HLk.out⟩) (fun hHeld => ?_)
  refine take_list (i := 0) (v := ?_) rfl (by kernel_rfl) (by kernel_rfl) (by kernel_rfl) (fun _ _ _ h => h) (Or.inl ⟨by rfl, fun w hSw => ?_⟩) hHeld ?_
  rotate_left
  · (obtain ⟨hSw1, hSw2, hSw3⟩ := hSw; go_simp)
    try with_reducible rfl
  simp only [Act.put, List.setIfInBounds_toArray, List.set_cons_zero, List.set_cons_succ]
  refine take_list (i := 1) (v := ?_) rfl (by kernel_rfl) (by kernel_rfl) (by kernel_rfl) (fun _ _ _ h => h) (Or.inl ⟨by rfl, fun w hSw => ?_⟩) hHeld ?_
  rotate_left
  · (obtain ⟨hSw1, hSw2, hSw3⟩ := hSw; go_simp)
    try with_reducible rfl
  simp only [Act.put, List.setIfInBounds_toArray, List.set_cons_zero, List.set_cons_succ]
  refine take_list (i := 2) (v := ?_) rfl (by kernel_rfl) (by kernel_rfl) (by kernel_rfl) (fun _ _ _ h => h) (Or.inl ⟨by rfl, fun w hSw => ?_⟩) hHeld ?_
  rotate_left
  · (obtain ⟨hSw1, hSw2, hSw3⟩ := hSw; go_simp)
    try with_reducible rfl
  simp only [Act.put, List.setIfInBounds_toArray, List.set_cons_zero, List.set_cons_succ]
  refine take_list (i := 3) (v := ?_) rfl (by kernel_rfl) (by kernel_rfl) (by kernel_rfl) (fun _ _ _ h => h) (Or.inl ⟨by rfl, fun w hSw => ?_⟩) hHeld ?_
  rotate_left
  · (obtain ⟨hSw1, hSw2, hSw3⟩ := hSw; go_simp)
    try with_reducible rfl
  simp only [Act.put, List.setIfInBounds_toArray, List.set_cons_zero, List.set_cons_succ]
  refine take_list (i := 4) (v := ?_) rfl (by kernel_rfl) (by kernel_rfl) (by kernel_rfl) (fun _ _ _ h => h) (Or.inl ⟨by rfl, fun w hSw => ?_⟩) hHeld ?_
  rotate_left
  · (obtain ⟨hSw1, hSw2, hSw3⟩ := hSw; go_simp)
    try with_reducible rfl
  simp only [Act.put, List.setIfInBounds_toArray, List.set_cons_zero, List.set_cons_succ]
  refine take_list (i := 5) (v := ?_) rfl (by kernel_rfl) (by kernel_rfl) (by kernel_rfl) (fun _ _ _ h => h) (Or.inl ⟨by rfl, fun w hSw => ?_⟩) hHeld ?_
  rotate_left
  · (obtain ⟨hSw1, hSw2, hSw3⟩ := hSw; go_simp)
    try with_reducible rfl
  simp only [Act.put, List.setIfInBounds_toArray, List.set_cons_zero, List.set_cons_succ]
  refine take_list (i := 6) (v := ?_) rfl (by kernel_rfl) (by kernel_rfl) (by kernel_rfl) (fun _ _ _ h => h) (Or.inl ⟨by rfl, fun w hSw => ?_⟩) hHeld ?_
  rotate_left
  · (obtain ⟨hSw1, hSw2, hSw3⟩ := hSw; go_simp)
    try with_reducible rfl
  simp only [Act.put, List.setIfInBounds_toArray, List.set_cons_zero, List.set_cons_succ]
  refine take_list (i := 7) (v := ?_) rfl (by kernel_rfl) (by kernel_rfl) (by kernel_rfl) (fun _ _ _ h => h) (Or.inl ⟨by rfl, fun w hSw => ?_⟩) hHeld ?_
  rotate_left
  · (obtain ⟨hSw1, hSw2, hSw3⟩ := hSw; go_simp)
    try with_reducible rfl
  simp only [Act.put, List.setIfInBounds_toArray, List.set_cons_zero, List.set_cons_succ]
  refine wpAnyH_done (by kernel_rfl) ?_ _
  refine NoPanic.normal ?_
  clear hHeld e1 e3
  have f1 : w1.cell? ⟨w.heap.size, 1, none⟩ = some (.int .i64 f) := cell_of_block HD0.out rfl
  go_wp2_with (first
    | (go_at_call 36; refine (has_any _ HE1.out f).mono ?_; rw [decide_eq_true HF.out]; rintro e w2 ⟨rfl, hc2⟩
       have hG := hc2.at (show w1.drew.heap[w.heap.size]? = _ from HD0.out) id
       have g0 := cell_of_block (i := 0) hG rfl
       have g1 := cell_of_block (i := 1) hG rfl
       have g2 := cell_of_block (i := 2) hG rfl
       have g3 := cell_of_block (i := 3) hG rfl
       have g4 := cell_of_block (i := 4) hG rfl
       have g5 := cell_of_block (i := 5) hG rfl
       have HQ1 := Lib.hid (show Arr w2 (w.heap.size + 1) 36 (saidL 0) from hc2.at (show w1.drew.heap[w.heap.size + 1]? = _ from HD1.out) id)
       have HC2 := Lib.hid (HC1.out.drew.trans' hc2)
       have HE2 := Lib.hid (HE1.out.fresh hc2)
       have HCo2 := Lib.hid (HC.out.fresh (HC1.out.drew.trans' hc2))
       have s0 : w2.cell? ⟨x, 0, none⟩ = some (.int .i64 3) := by
         have := cell_of_block (i := 0) HE2.out.head rfl
         rw [HS.out] at this; exact this
       skip
       clear hc2 hG f1)
    | (go_at_call 38; refine (ack_yes _ HCo2.out HE2.out f tx oa cap HS.out HF.out ht HA.out).mono ?_; rw [HLg.out, HM'.out]; rintro e w3 ⟨rfl, hE3, hC3, hc3⟩
       have hq1 := hc3.at HQ1.out (fun hF => by rcases hF with hF | hF; exact absurd (HE.out.lt _ hF) (by omega); exact absurd (HC.out.lt _ hF) (by omega))
       have HSt := Lib.hid (said_to hq1 rfl (saidCl lg) rfl (one_saidC _))
       have HE3 := Lib.hid hE3
       have HCo3 := Lib.hid hC3
       have HC3 := Lib.hid hc3
       unfold saidC
       clear hE3 hC3 hc3 hq1)
    | (refine wpList_store_mid rfl 36 _ _ rfl (w.heap.size + 1) 0 (saidCl lg).toArray rfl rfl HSt.out.there HSt.out.size HSt.out.one ?_; rw [List.toList_toArray]))
  (try simp only [Exit.inBlock, Exit.then])
  refine bodyPost_ret (result1 rfl _ rfl HSt.out.load) rfl ?_
  have hns : ∀ k, k < w.heap.size → ¬ k = w.heap.size + 1 := fun k hk e => by omega
  exact ⟨rfl, HE3.out.kept HSt.out.chg (fun k hk => hns k (HE.out.lt k hk)), HCo3.out.kept HSt.out.chg (fun k hk => hns k (HC.out.lt k hk)), ((HC2.out.mono (fun _ _ h => h.elim) : Chg (fun k => F k ∨ Fc k) w w2).trans' HC3.out).trans HSt.out.chg (fun k hk e => (hns k hk e).elim)⟩

set_option maxHeartbeats 1000000 in
theorem k_yes (w : World) (f tx : Int) (oa : Option Addr) (cap : Nat) (h : Known w c q x qa F Fc lim m E pv tx f) (hUp : Up 2 f 0 tx true 0) (hs : E.state = 1) :
    Calls Try.prog 13 #[ptrV c, .agg #[.int .i64 2, .int .i64 f, .int .i64 0, .int .i64 tx, .bool true, .slice oa 0 cap]] w fun e w' => e = .returned (saidV (if lacksOf (E.yes f) E.ps.length = [] then tx else 0)) ∧ EntIs w' x F (E.voted f) pv qa ∧ CoIs w' c Fc lim m q ∧ Chg F w w' := by
  obtain ⟨lg, hlg⟩ : ∃ lg, (if lacksOf (E.yes f) E.ps.length = [] then tx else 0) = lg := ⟨_, rfl⟩
  rw [hlg]
  have HLg := Lib.hid hlg
  clear hlg
  have HL := Lib.hid (h.looks hUp.txn)
  have HC := Lib.hid h.co
  have HE := Lib.hid h.ent
  have HF := Lib.hid h.has
  have HA := Lib.hid h.apart
  have HUp := Lib.hid hUp
  have HS := Lib.hid hs
  have ht := hUp.txn
  have hrf := hUp.from'
  clear h hUp hs
  have hmf : ∀ (fn : Fn) (first cap : Array Value) (w : World), (Instr.makeFunc fn first cap).run Try.prog w = .ok (.func fn first cap) w := fun _ _ _ _ => rfl
  unfold ptrV
  go_enter Try.func13, Try.ntmps13
  go_wp2_with fail
  obtain ⟨w0, hw0⟩ : ∃ w0, (w.alloc (.cells #[.int .i64 2, .int .i64 f, .int .i64 0, .int .i64 tx, .bool true, .slice oa 0 cap] 24)).alloc (.cells #[.slice none 0 0, .int .i64 0, .int .i64 0, .int .i64 0] 36) = w0 := ⟨_, rfl⟩
  rw [hw0]
  have hb0 : w0.heap[w.heap.size]? = some (.cells #[.int .i64 2, .int .i64 f, .int .i64 0, .int .i64 tx, .bool true, .slice oa 0 cap] 24 (0, 0)) := by
    subst hw0; simp only [heap_alloc_get, World.size_alloc]; rw [if_neg (by omega), if_pos trivial]
  have hb1 : Arr w0 (w.heap.size + 1) 36 (saidL 0) := by
    subst hw0; unfold Arr; simp only [heap_alloc_get, World.size_alloc]; rw [if_pos trivial]; rfl
  have hc0 : Chg (fun _ => False) w w0 := by subst hw0; exact ((Chg.refl _ _).alloc _).alloc _
  have HB0 := Lib.hid hb0
  have HB1 := Lib.hid hb1
  have HC0 := Lib.hid hc0
  clear hb0 hb1 hc0 hw0
  have b0 := cell_of_block (i := 0) HB0.out rfl
  have b1 := cell_of_block (i := 1) HB0.out rfl
  have b2 := cell_of_block (i := 2) HB0.out rfl
  have b3 := cell_of_block (i := 3) HB0.out rfl
  have b4 := cell_of_block (i := 4) HB0.out rfl
  have b5 := cell_of_block (i := 5) HB0.out rfl
  go_wp2_with (first
    | (go_at_call 34; refine (none_no _ (HC.out.fresh HC0.out)).mono ?_; rintro e w1 ⟨rfl, rfl⟩)
    | (go_at_call 35; refine (wire_good _ 2 f tx true oa cap HUp.out).mono ?_; rintro e w1 ⟨rfl, hc1⟩
       have HC1 := Lib.hid (HC0.out.trans' hc1)
       have HD0 := Lib.hid (hc1.at HB0.out id)
       have HD1 := Lib.hid (show Arr w1 (w.heap.size + 1) 36 (saidL 0) from hc1.at HB1.out id)
       have d2 := cell_of_block (i := 2) (hc1.at HB0.out id) rfl
       clear hc1 b0 b1 b2 b3 b4 b5))
  have hCo := HC.out.fresh HC1.out
  have e1 : w1.cell? ⟨c, 1, none⟩ = some (.map (some q)) := cell_of_block hCo.head rfl
  have e3 : w1.cell? ⟨w.heap.size, 3, none⟩ = some (.int .i64 tx) := cell_of_block HD0.out rfl
  have HLk := Lib.hid (HL.out _ HC1.out.drew)
  have HE1 := Lib.hid (HE.out.fresh HC1.out.drew)
  clear hCo d2
  refine wp_region_noPanic ?_
  refine wp_region_held_drew (S := (fun w' => w'.cell? ⟨c, 1, none⟩ = some (.map (some q)) ∧ w'.cell? ⟨w.heap.size, 3, none⟩ = some (.int .i64 tx) ∧ (Instr.lookup 71 (.map (some q)) (.int .i64 tx) false).run Try.prog w' = .ok (.pointer (some ⟨x, 0, none⟩)) w')) (by kernel_rfl) (⟨e1, e3, HLk.out⟩) (fun hHeld => ?_)
  refine take_list (i := 0) (v := ?_) rfl (by kernel_rfl) (by kernel_rfl) (by kernel_rfl) (fun _ _ _ h => h) (Or.inl ⟨by rfl, fun w hSw => ?_⟩) hHeld ?_
  rotate_left
  · (obtain ⟨hSw1, hSw2, hSw3⟩ := hSw; go_simp)
    try with_reducible rfl
  simp only [Act.put, List.setIfInBounds_toArray, List.set_cons_zero, List.set_cons_succ]
  refine take_list (i := 1) (v := ?_) rfl (by kernel_rfl) (by kernel_rfl) (by kernel_rfl) (fun _ _ _ h => h) (Or.inl ⟨by rfl, fun w hSw => ?_⟩) hHeld ?_
  rotate_left
  · (obtain ⟨hSw1, hSw2, hSw3⟩ := hSw; go_simp)
    try with_reducible rfl
  simp only [Act.put, List.setIfInBounds_toArray, List.set_cons_zero, List.set_cons_succ]
  refine take_list (i := 2) (v := ?_) rfl (by kernel_rfl) (by kernel_rfl) (by kernel_rfl) (fun _ _ _ h => h) (Or.inl ⟨by rfl, fun w hSw => ?_⟩) hHeld ?_
  rotate_left
  · (obtain ⟨hSw1, hSw2, hSw3⟩ := hSw; go_simp)
    try with_reducible rfl
  simp only [Act.put, List.setIfInBounds_toArray, List.set_cons_zero, List.set_cons_succ]
  refine take_list (i := 3) (v := ?_) rfl (by kernel_rfl) (by kernel_rfl) (by kernel_rfl) (fun _ _ _ h => h) (Or.inl ⟨by rfl, fun w hSw => ?_⟩) hHeld ?_
  rotate_left
  · (obtain ⟨hSw1, hSw2, hSw3⟩ := hSw; go_simp)
    try with_reducible rfl
  simp only [Act.put, List.setIfInBounds_toArray, List.set_cons_zero, List.set_cons_succ]
  refine take_list (i := 4) (v := ?_) rfl (by kernel_rfl) (by kernel_rfl) (by kernel_rfl) (fun _ _ _ h => h) (Or.inl ⟨by rfl, fun w hSw => ?_⟩) hHeld ?_
  rotate_left
  · (obtain ⟨hSw1, hSw2, hSw3⟩ := hSw; go_simp)
    try with_reducible rfl
  simp only [Act.put, List.setIfInBounds_toArray, List.set_cons_zero, List.set_cons_succ]
  refine take_list (i := 5) (v := ?_) rfl (by kernel_rfl) (by kernel_rfl) (by kernel_rfl) (fun _ _ _ h => h) (Or.inl ⟨by rfl, fun w hSw => ?_⟩) hHeld ?_
  rotate_left
  · (obtain ⟨hSw1, hSw2, hSw3⟩ := hSw; go_simp)
    try with_reducible rfl
  simp only [Act.put, List.setIfInBounds_toArray, List.set_cons_zero, List.set_cons_succ]
  refine take_list (i := 6) (v := ?_) rfl (by kernel_rfl) (by kernel_rfl) (by kernel_rfl) (fun _ _ _ h => h) (Or.inl ⟨by rfl, fun w hSw => ?_⟩) hHeld ?_
  rotate_left
  · (obtain ⟨hSw1, hSw2, hSw3⟩ := hSw; go_simp)
    try with_reducible rfl
  simp only [Act.put, List.setIfInBounds_toArray, List.set_cons_zero, List.set_cons_succ]
  refine take_list (i := 7) (v := ?_) rfl (by kernel_rfl) (by kernel_rfl) (by kernel_rfl) (fun _ _ _ h => h) (Or.inl ⟨by rfl, fun w hSw => ?_⟩) hHeld ?_
  rotate_left
  · (obtain ⟨hSw1, hSw2, hSw3⟩ := hSw; go_simp)
    try with_reducible rfl
  simp only [Act.put, List.setIfInBounds_toArray, List.set_cons_zero, List.set_cons_succ]
  refine wpAnyH_done (by kernel_rfl) ?_ _
  refine NoPanic.normal ?_
  clear hHeld e1 e3
  have f1 : w1.cell? ⟨w.heap.size, 1, none⟩ = some (.int .i64 f) := cell_of_block HD0.out rfl
  go_wp2_with (first
    | (go_at_call 36; refine (has_any _ HE1.out f).mono ?_; rw [decide_eq_true HF.out]; rintro e w2 ⟨rfl, hc2⟩
       have hG := hc2.at (show w1.drew.heap[w.heap.size]? = _ from HD0.out) id
       have g0 := cell_of_block (i := 0) hG rfl
       have g1 := cell_of_block (i := 1) hG rfl
       have g2 := cell_of_block (i := 2) hG rfl
       have g3 := cell_of_block (i := 3) hG rfl
       have g4 := cell_of_block (i := 4) hG rfl
       have g5 := cell_of_block (i := 5) hG rfl
       have HQ1 := Lib.hid (show Arr w2 (w.heap.size + 1) 36 (saidL 0) from hc2.at (show w1.drew.heap[w.heap.size + 1]? = _ from HD1.out) id)
       have HC2 := Lib.hid (HC1.out.drew.trans' hc2)
       have HE2 := Lib.hid (HE1.out.fresh hc2)
       have HCo2 := Lib.hid (HC.out.fresh (HC1.out.drew.trans' hc2))
       have s0 : w2.cell? ⟨x, 0, none⟩ = some (.int .i64 1) := by
         have := cell_of_block (i := 0) HE2.out.head rfl
         rw [HS.out] at this; exact this
       skip
       clear hc2 hG f1)
    | (go_at_call 39; refine (vote_yes _ HE2.out _ f tx oa cap HF.out).mono ?_; rw [HLg.out]; rintro e w3 ⟨rfl, hE3, hc3⟩
       have hq1 := hc3.at HQ1.out (fun hF => by have := HE.out.lt _ hF; omega)
       have HSt := Lib.hid (said_store (l0 := 0) hq1 lg)
       have HE3 := Lib.hid hE3
       have HC3 := Lib.hid hc3
       unfold saidV
       clear hE3 hc3 hq1)
    | (refine wpList_store_mid rfl 36 _ _ rfl (w.heap.size + 1) 0 (saidL lg).toArray rfl rfl HSt.out.there HSt.out.size HSt.out.one ?_; rw [List.toList_toArray]))
  (try simp only [Exit.inBlock, Exit.then])
  refine bodyPost_ret (result1 rfl _ rfl HSt.out.load) rfl ?_
  have hns : ∀ k, k < w.heap.size → ¬ k = w.heap.size + 1 := fun k hk e => by omega
  refine ⟨rfl, HE3.out.kept HSt.out.chg (fun k hk => hns k (HE.out.lt k hk)), (HCo2.out.kept HC3.out (fun k hk hF => HA.out k hF hk)).kept HSt.out.chg (fun k hk => hns k (HC.out.lt k hk)), ((HC2.out.mono (fun _ _ h => h.elim)).trans' HC3.out).trans HSt.out.chg (fun k hk e => (hns k hk e).elim)⟩

set_option maxHeartbeats 1000000 in
theorem k_no (w : World) (f tx : Int) (oa : Option Addr) (cap : Nat) (h : Known w c q x qa F Fc lim m E pv tx f) (hUp : Up 2 f 0 tx false 0) (hs : E.state = 1) :
    Calls Try.prog 13 #[ptrV c, .agg #[.int .i64 2, .int .i64 f, .int .i64 0, .int .i64 tx, .bool false, .slice oa 0 cap]] w fun e w' => ∃ v, e = .returned (.agg #[v, .int .i64 0, .int .i64 0, .int .i64 tx]) ∧ Msgs w' w.heap.size v 4 tx (E.ps.filter (· != f)) ∧ CoIs w' c Fc lim (mdel m tx) q ∧ Chg Fc w w' := by
  have HL := Lib.hid (h.looks hUp.txn)
  have HC := Lib.hid h.co
  have HE := Lib.hid h.ent
  have HF := Lib.hid h.has
  have HA := Lib.hid h.apart
  have HUp := Lib.hid hUp
  have HS := Lib.hid hs
  have ht := hUp.txn
  have hrf := hUp.from'
  clear h hUp hs
  have hmf : ∀ (fn : Fn) (first cap : Array Value) (w : World), (Instr.makeFunc fn first cap).run Try.prog w = .ok (.func fn first cap) w := fun _ _ _ _ => rfl
  unfold ptrV
  go_enter Try.func13, Try.ntmps13
  go_wp2_with fail
  obtain ⟨w0, hw0⟩ : ∃ w0, (w.alloc (.cells #[.int .i64 2, .int .i64 f, .int .i64 0, .int .i64 tx, .bool false, .slice oa 0 cap] 24)).alloc (.cells #[.slice none 0 0, .int .i64 0, .int .i64 0, .int .i64 0] 36) = w0 := ⟨_, rfl⟩
  rw [hw0]
  have hb0 : w0.heap[w.heap.size]? = some (.cells #[.int .i64 2, .int .i64 f, .int .i64 0, .int .i64 tx, .bool false, .slice oa 0 cap] 24 (0, 0)) := by
    subst hw0; simp only [heap_alloc_get, World.size_alloc]; rw [if_neg (by omega), if_pos trivial]
  have hb1 : Arr w0 (w.heap.size + 1) 36 (saidL 0) := by
    subst hw0; unfold Arr; simp only [heap_alloc_get, World.size_alloc]; rw [if_pos trivial]; rfl
  have hc0 : Chg (fun _ => False) w w0 := by subst hw0; exact ((Chg.refl _ _).alloc _).alloc _
  have HB0 := Lib.hid hb0
  have HB1 := Lib.hid hb1
  have HC0 := Lib.hid hc0
  clear hb0 hb1 hc0 hw0
  have b0 := cell_of_block (i := 0) HB0.out rfl
  have b1 := cell_of_block (i := 1) HB0.out rfl
  have b2 := cell_of_block (i := 2) HB0.out rfl
  have b3 := cell_of_block (i := 3) HB0.out rfl
  have b4 := cell_of_block (i := 4) HB0.out rfl
  have b5 := cell_of_block (i := 5) HB0.out rfl
  go_wp2_with (first
    | (go_at_call 34; refine (none_no _ (HC.out.fresh HC0.out)).mono ?_; rintro e w1 ⟨rfl, rfl⟩)
    | (go_at_call 35; refine (wire_good _ 2 f tx false oa cap HUp.out).mono ?_; rintro e w1 ⟨rfl, hc1⟩
       have HC1 := Lib.hid (HC0.out.trans' hc1)
       have HD0 := Lib.hid (hc1.at HB0.out id)
       have HD1 := Lib.hid (show Arr w1 (w.heap.size + 1) 36 (saidL 0) from hc1.at HB1.out id)
       have d2 := cell_of_block (i := 2) (hc1.at HB0.out id) rfl
       clear hc1 b0 b1 b2 b3 b4 b5))
  have hCo := HC.out.fresh HC1.out
  have e1 : w1.cell? ⟨c, 1, none⟩ = some (.map (some q)) := cell_of_block hCo.head rfl
  have e3 : w1.cell? ⟨w.heap.size, 3, none⟩ = some (.int .i64 tx) := cell_of_block HD0.out rfl
  have HLk := Lib.hid (HL.out _ HC1.out.drew)
  have HE1 := Lib.hid (HE.out.fresh HC1.out.drew)
  clear hCo d2
  refine wp_region_noPanic ?_
  refine wp_region_held_drew (S := (fun w' => w'.cell? ⟨c, 1, none⟩ = some (.map (some q)) ∧ w'.cell? ⟨w.heap.size, 3, none⟩ = some (.int .i64 tx) ∧ (Instr.lookup 71 (.map (some q)) (.int .i64 tx) false).run Try.prog w' = .ok (.pointer (some ⟨x, 0, none⟩)) w')) (by kernel_rfl) (⟨e1, e3, HLk.out⟩) (fun hHeld => ?_)
  refine take_list (i := 0) (v := ?_) rfl (by kernel_rfl) (by kernel_rfl) (by kernel_rfl) (fun _ _ _ h => h) (Or.inl ⟨by rfl, fun w hSw => ?_⟩) hHeld ?_
  rotate_left
  · (obtain ⟨hSw1, hSw2, hSw3⟩ := hSw; go_simp)
    try with_reducible rfl
  simp only [Act.put, List.setIfInBounds_toArray, List.set_cons_zero, List.set_cons_succ]
  refine take_list (i := 1) (v := ?_) rfl (by kernel_rfl) (by kernel_rfl) (by kernel_rfl) (fun _ _ _ h => h) (Or.inl ⟨by rfl, fun w hSw => ?_⟩) hHeld ?_
  rotate_left
  · (obtain ⟨hSw1, hSw2, hSw3⟩ := hSw; go_simp)
    try with_reducible rfl
  simp only [Act.put, List.setIfInBounds_toArray, List.set_cons_zero, List.set_cons_succ]
  refine take_list (i := 2) (v := ?_) rfl (by kernel_rfl) (by kernel_rfl) (by kernel_rfl) (fun _ _ _ h => h) (Or.inl ⟨by rfl, fun w hSw => ?_⟩) hHeld ?_
  rotate_left
  · (obtain ⟨hSw1, hSw2, hSw3⟩ := hSw; go_simp)
    try with_reducible rfl
  simp only [Act.put, List.setIfInBounds_toArray, List.set_cons_zero, List.set_cons_succ]
  refine take_list (i := 3) (v := ?_) rfl (by kernel_rfl) (by kernel_rfl) (by kernel_rfl) (fun _ _ _ h => h) (Or.inl ⟨by rfl, fun w hSw => ?_⟩) hHeld ?_
  rotate_left
  · (obtain ⟨hSw1, hSw2, hSw3⟩ := hSw; go_simp)
    try with_reducible rfl
  simp only [Act.put, List.setIfInBounds_toArray, List.set_cons_zero, List.set_cons_succ]
  refine take_list (i := 4) (v := ?_) rfl (by kernel_rfl) (by kernel_rfl) (by kernel_rfl) (fun _ _ _ h => h) (Or.inl ⟨by rfl, fun w hSw => ?_⟩) hHeld ?_
  rotate_left
  · (obtain ⟨hSw1, hSw2, hSw3⟩ := hSw; go_simp)
    try with_reducible rfl
  simp only [Act.put, List.setIfInBounds_toArray, List.set_cons_zero, List.set_cons_succ]
  refine take_list (i := 5) (v := ?_) rfl (by kernel_rfl) (by kernel_rfl) (by kernel_rfl) (fun _ _ _ h => h) (Or.inl ⟨by rfl, fun w hSw => ?_⟩) hHeld ?_
  rotate_left
  · (obtain ⟨hSw1, hSw2, hSw3⟩ := hSw; go_simp)
    try with_reducible rfl
  simp only [Act.put, List.setIfInBounds_toArray, List.set_cons_zero, List.set_cons_succ]
  refine take_list (i := 6) (v := ?_) rfl (by kernel_rfl) (by kernel_rfl) (by kernel_rfl) (fun _ _ _ h => h) (Or.inl ⟨by rfl, fun w hSw => ?_⟩) hHeld ?_
  rotate_left
  · (obtain ⟨hSw1, hSw2, hSw3⟩ := hSw; go_simp)
    try with_reducible rfl
  simp only [Act.put, List.setIfInBounds_toArray, List.set_cons_zero, List.set_cons_succ]
  refine take_list (i := 7) (v := ?_) rfl (by kernel_rfl) (by kernel_rfl) (by kernel_rfl) (fun _ _ _ h => h) (Or.inl ⟨by rfl, fun w hSw => ?_⟩) hHeld ?_
  rotate_left
  · (obtain ⟨hSw1, hSw2, hSw3⟩ := hSw; go_simp)
    try with_reducible rfl
  simp only [Act.put, List.setIfInBounds_toArray, List.set_cons_zero, List.set_cons_succ]
  refine wpAnyH_done (by kernel_rfl) ?_ _
  refine NoPanic.normal ?_
  clear hHeld e1 e3
  have f1 : w1.cell? ⟨w.heap.size, 1, none⟩ = some (.int .i64 f) := cell_of_block HD0.out rfl
  go_wp2_with (first
    | (go_at_call 36; refine (has_any _ HE1.out f).mono ?_; rw [decide_eq_true HF.out]; rintro e w2 ⟨rfl, hc2⟩
       have hG := hc2.at (show w1.drew.heap[w.heap.size]? = _ from HD0.out) id
       have g0 := cell_of_block (i := 0) hG rfl
       have g1 := cell_of_block (i := 1) hG rfl
       have g2 := cell_of_block (i := 2) hG rfl
       have g3 := cell_of_block (i := 3) hG rfl
       have g4 := cell_of_block (i := 4) hG rfl
       have g5 := cell_of_block (i := 5) hG rfl
       have HQ1 := Lib.hid (show Arr w2 (w.heap.size + 1) 36 (saidL 0) from hc2.at (show w1.drew.heap[w.heap.size + 1]? = _ from HD1.out) id)
       have HC2 := Lib.hid (HC1.out.drew.trans' hc2)
       have HE2 := Lib.hid (HE1.out.fresh hc2)
       have HCo2 := Lib.hid (HC.out.fresh (HC1.out.drew.trans' hc2))
       have s0 : w2.cell? ⟨x, 0, none⟩ = some (.int .i64 1) := by
         have := cell_of_block (i := 0) HE2.out.head rfl
         rw [HS.out] at this; exact this
       skip
       clear hc2 hG f1)
    | (go_at_call 39; refine (vote_no _ HCo2.out HE2.out f tx oa cap ht HA.out).mono ?_; rintro e w3 ⟨v, rfl, hm3, hC3, hc3⟩
       have hq1 := hc3.at HQ1.out (fun hF => by have := HC.out.lt _ hF; omega)
       obtain ⟨T, ho3, hT1, hT2⟩ := hm3.is
       obtain ⟨ov, cv, hv3, -⟩ := ho3.slice
       rw [List.length_map] at hv3
       subst hv3
       have HSt := Lib.hid (said_to hq1 rfl [.slice ov T.length cv, .int .i64 0, .int .i64 0, .int .i64 tx] rfl (by intro v hv; simp only [List.mem_cons, List.not_mem_nil, or_false] at hv; rcases hv with rfl | rfl | rfl | rfl <;> rfl))
       have HO3 := Lib.hid ho3
       have HT3 := Lib.hid (And.intro hT1 hT2)
       have HCo3 := Lib.hid hC3
       have HC3 := Lib.hid hc3
       have HS2 := Lib.hid HC2.out.size
       have HQ2 := Lib.hid HQ1.out.lt
       clear hC3 hc3 hq1 hm3 ho3 hT1 hT2)
    | (refine wpList_store_mid rfl 36 _ _ rfl (w.heap.size + 1) 0 ([.slice ov T.length cv, .int .i64 0, .int .i64 0, .int .i64 tx]).toArray rfl rfl HSt.out.there HSt.out.size HSt.out.one ?_; rw [List.toList_toArray]))
  (try simp only [Exit.inBlock, Exit.then])
  refine bodyPost_ret (result1 rfl _ rfl HSt.out.load) rfl ?_
  have hns : ∀ k, k < w.heap.size → ¬ k = w.heap.size + 1 := fun k hk e => by omega
  refine ⟨_, rfl, ⟨T, OwnRecs.weaken (HO3.out.kept HSt.out.chg (fun k hk e => ?_)) HS2.out, HT3.out.1, HT3.out.2⟩, HCo3.out.kept HSt.out.chg (fun k hk => hns k (HC.out.lt k hk)), ((HC2.out.mono (fun _ _ h => h.elim)).trans' HC3.out).trans HSt.out.chg (fun k hk e => (hns k hk e).elim)⟩
  have h1 := (HO3.out.lt hk).1
  have h2 := HQ2.out
  omega

end Go.Proofs.Ytogjjkbgagedpaa.coordg
