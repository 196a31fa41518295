/-
  coord's laws: Take of a message about what is not known.
-/
import Derived.Test.YtogjjkbgagedpaaCoordX
namespace Go.Proofs.Ytogjjkbgagedpaa.coords
open Go.RowKit Go.Maps Go.My Go.ChangeMaps
set_option maxRecDepth 100000

variable {w w' : World} {c q x qa : Nat} {F F' Fc : Nat → Prop} {lim : Int} {m : List (Int × Nat)} {E : EV} {pv : Value}



set_option maxHeartbeats 1000000 in
theorem take_unk_back (w : World) (hC : CoIs w c Fc lim m q) (kd f tx : Int) (y : Bool) (oa : Option Addr) (cap : Nat) (h : Up kd f 0 tx y 0) (hU : Unk w q tx f) (hb : (kd = 2 ∧ y = true) ∨ (kd = 6 ∧ y = false)) :
    Calls Try.prog 13 #[ptrV c, .agg #[.int .i64 kd, .int .i64 f, .int .i64 0, .int .i64 tx, .bool y, .slice oa 0 cap]] w fun e w' => ∃ gm, e = .returned (saidM gm) ∧ w'.heap[gm]? = some (.cells (msgC 4 0 f tx false).toArray 24 (0, 0)) ∧ Chg (fun _ => False) w w' := by
  obtain ⟨p, hlook, hhas⟩ := hU.is
  have HL := Lib.hid hlook
  have HH := Lib.hid hhas
  have HC := Lib.hid hC
  have HUp := Lib.hid h
  clear hC h hU hlook hhas
  rcases hb with ⟨rfl, rfl⟩ | ⟨rfl, rfl⟩
  · have hmf : ∀ (fn : Fn) (first cap : Array Value) (w : World), (Instr.makeFunc fn first cap).run Try.prog w = .ok (.func fn first cap) w := fun _ _ _ _ => rfl
    unfold ptrV
    go_enter Try.func13, Try.ntmps13
    go_wp2_with fail
    obtain ⟨w0, hw0⟩ : ∃ w0, (w.alloc (.cells #[.int .i64 2, .int .i64 f, .int .i64 0, .int .i64 tx, .bool true, .slice oa 0 cap] 24)).alloc (.cells #[.slice none 0 0, .int .i64 0, .int .i64 0, .int .i64 0] 36) = w0 := ⟨_, rfl⟩
    rw [hw0]
    have hb0 : w0.heap[w.heap.size]? = some (.cells #[.int .i64 2, .int .i64 f, .int .i64 0, .int .i64 tx, .bool true, .slice oa 0 cap] 24 (0, 0)) := by
      subst hw0; simp only [heap_alloc_get, World.size_alloc]; rw [if_neg (by omega), if_pos trivial]
    have hb1 : Arr w0 (w.heap.size + 1) 36 (saidL 0) := by
      subst hw0; unfold Arr; simp only [heap_alloc_get, World.size_alloc]; rw [if_pos trivial]; rfl
    have hc0 : Chg (fun _ => False) w w0 := by subst hw0; exact ((Chg.refl _ _).alloc _).alloc _
    have HB0 := Lib.hid hb0
    have HB1 := Lib.hid hb1
    have HC0 := Lib.hid hc0
    clear hb0 hb1 hc0 hw0
    have b0 := cell_of_block (i := 0) HB0.out rfl
    have b1 := cell_of_block (i := 1) HB0.out rfl
    have b2 := cell_of_block (i := 2) HB0.out rfl
    have b3 := cell_of_block (i := 3) HB0.out rfl
    have b4 := cell_of_block (i := 4) HB0.out rfl
    have b5 := cell_of_block (i := 5) HB0.out rfl
    go_wp2_with (first
      | (go_at_call 34; refine (none_no _ (HC.out.fresh HC0.out)).mono ?_; rintro e w1 ⟨rfl, rfl⟩)
      | (go_at_call 35; refine (wire_good _ 2 f tx true oa cap HUp.out).mono ?_; rintro e w1 ⟨rfl, hc1⟩
         have HC1 := Lib.hid (HC0.out.trans' hc1)
         have HD0 := Lib.hid (hc1.at HB0.out id)
         have HD1 := Lib.hid (show Arr w1 (w.heap.size + 1) 36 (saidL 0) from hc1.at HB1.out id)
         have d2 := cell_of_block (i := 2) (hc1.at HB0.out id) rfl
         clear hc1 b0 b1 b2 b3 b4 b5))
    have hCo := HC.out.fresh HC1.out
    have e1 : w1.cell? ⟨c, 1, none⟩ = some (.map (some q)) := cell_of_block hCo.head rfl
    have e3 : w1.cell? ⟨w.heap.size, 3, none⟩ = some (.int .i64 tx) := cell_of_block HD0.out rfl
    have HLk := Lib.hid (HL.out _ HC1.out.drew)
    clear hCo d2
    refine wp_region_noPanic ?_
    refine wp_region_held_drew (S := (fun w' => w'.cell? ⟨c, 1, none⟩ = some (.map (some q)) ∧ w'.cell? ⟨w.heap.size, 3, none⟩ = some (.int .i64 tx) ∧ (Instr.lookup 71 (.map (some q)) (.int .i64 tx) false).run Try.prog w' = .ok (.pointer p) w')) (by kernel_rfl) (⟨e1, e3, HLk.out⟩) (fun hHeld => ?_)
    refine take_list (i := 0) (v := ?_) rfl (by kernel_rfl) (by kernel_rfl) (by kernel_rfl) (fun _ _ _ h => h) (Or.inl ⟨by rfl, fun w hSw => ?_⟩) hHeld ?_
    rotate_left
    · (obtain ⟨hSw1, hSw2, hSw3⟩ := hSw; go_simp)
      try with_reducible rfl
    simp only [Act.put, List.setIfInBounds_toArray, List.set_cons_zero, List.set_cons_succ]
    refine take_list (i := 1) (v := ?_) rfl (by kernel_rfl) (by kernel_rfl) (by kernel_rfl) (fun _ _ _ h => h) (Or.inl ⟨by rfl, fun w hSw => ?_⟩) hHeld ?_
    rotate_left
    · (obtain ⟨hSw1, hSw2, hSw3⟩ := hSw; go_simp)
      try with_reducible rfl
    simp only [Act.put, List.setIfInBounds_toArray, List.set_cons_zero, List.set_cons_succ]
    refine take_list (i := 2) (v := ?_) rfl (by kernel_rfl) (by kernel_rfl) (by kernel_rfl) (fun _ _ _ h => h) (Or.inl ⟨by rfl, fun w hSw => ?_⟩) hHeld ?_
    rotate_left
    · (obtain ⟨hSw1, hSw2, hSw3⟩ := hSw; go_simp)
      try with_reducible rfl
    simp only [Act.put, List.setIfInBounds_toArray, List.set_cons_zero, List.set_cons_succ]
    refine take_list (i := 3) (v := ?_) rfl (by kernel_rfl) (by kernel_rfl) (by kernel_rfl) (fun _ _ _ h => h) (Or.inl ⟨by rfl, fun w hSw => ?_⟩) hHeld ?_
    rotate_left
    · (obtain ⟨hSw1, hSw2, hSw3⟩ := hSw; go_simp)
      try with_reducible rfl
    simp only [Act.put, List.setIfInBounds_toArray, List.set_cons_zero, List.set_cons_succ]
    refine take_list (i := 4) (v := ?_) rfl (by kernel_rfl) (by kernel_rfl) (by kernel_rfl) (fun _ _ _ h => h) (Or.inl ⟨by rfl, fun w hSw => ?_⟩) hHeld ?_
    rotate_left
    · (obtain ⟨hSw1, hSw2, hSw3⟩ := hSw; go_simp)
      try with_reducible rfl
    simp only [Act.put, List.setIfInBounds_toArray, List.set_cons_zero, List.set_cons_succ]
    refine take_list (i := 5) (v := ?_) rfl (by kernel_rfl) (by kernel_rfl) (by kernel_rfl) (fun _ _ _ h => h) (Or.inl ⟨by rfl, fun w hSw => ?_⟩) hHeld ?_
    rotate_left
    · (obtain ⟨hSw1, hSw2, hSw3⟩ := hSw; go_simp)
      try with_reducible rfl
    simp only [Act.put, List.setIfInBounds_toArray, List.set_cons_zero, List.set_cons_succ]
    refine take_list (i := 6) (v := ?_) rfl (by kernel_rfl) (by kernel_rfl) (by kernel_rfl) (fun _ _ _ h => h) (Or.inl ⟨by rfl, fun w hSw => ?_⟩) hHeld ?_
    rotate_left
    · (obtain ⟨hSw1, hSw2, hSw3⟩ := hSw; go_simp)
      try with_reducible rfl
    simp only [Act.put, List.setIfInBounds_toArray, List.set_cons_zero, List.set_cons_succ]
    refine take_list (i := 7) (v := ?_) rfl (by kernel_rfl) (by kernel_rfl) (by kernel_rfl) (fun _ _ _ h => h) (Or.inl ⟨by rfl, fun w hSw => ?_⟩) hHeld ?_
    rotate_left
    · (obtain ⟨hSw1, hSw2, hSw3⟩ := hSw; go_simp)
      try with_reducible rfl
    simp only [Act.put, List.setIfInBounds_toArray, List.set_cons_zero, List.set_cons_succ]
    refine wpAnyH_done (by kernel_rfl) ?_ _
    refine NoPanic.normal ?_
    clear hHeld e1 e3
    have f1 : w1.cell? ⟨w.heap.size, 1, none⟩ = some (.int .i64 f) := cell_of_block HD0.out rfl
    go_wp2_with (first
      | (go_at_call 36; refine (HH.out _ HC1.out.drew).mono ?_; rintro e w2 ⟨rfl, hc2⟩
         have hG := hc2.at (show w1.drew.heap[w.heap.size]? = _ from HD0.out) id
         have g0 := cell_of_block (i := 0) hG rfl
         have g1 := cell_of_block (i := 1) hG rfl
         have g2 := cell_of_block (i := 2) hG rfl
         have g3 := cell_of_block (i := 3) hG rfl
         have g4 := cell_of_block (i := 4) hG rfl
         have g5 := cell_of_block (i := 5) hG rfl
         have HQ1 := Lib.hid (show Arr w2 (w.heap.size + 1) 36 (saidL 0) from hc2.at (show w1.drew.heap[w.heap.size + 1]? = _ from HD1.out) id)
         have HC2 := Lib.hid (HC1.out.drew.trans' hc2)
         skip
         clear hc2 hG f1)
      | (go_at_call 37; refine (back_any _ _ 4 f tx g1 g3).mono ?_; rintro e w3 ⟨gm, rfl, hgm, hgb, hc3⟩
         have HSt := Lib.hid (said_to (hc3.at HQ1.out id) rfl (saidMl gm) rfl (one_saidM _))
         have HGm := Lib.hid hgm
         have HGb := Lib.hid hgb
         have HC3 := Lib.hid (HC2.out.trans' hc3)
         have hlt2 : w.heap.size + 1 < w2.heap.size := lt_of_block HQ1.out
         have HL2 := Lib.hid hlt2
         unfold saidM
         clear hgm hgb hc3 hlt2)
      | (refine wpList_store_mid rfl 36 _ _ rfl (w.heap.size + 1) 0 (saidMl gm).toArray rfl rfl HSt.out.there HSt.out.size HSt.out.one ?_; rw [List.toList_toArray]))
    (try simp only [Exit.inBlock, Exit.then])
    refine bodyPost_ret (result1 rfl _ rfl HSt.out.load) rfl ?_
    exact ⟨gm, rfl, HSt.out.chg.at HGb.out (fun e => by have := HGm.out; have := HL2.out; omega), HC3.out.new HSt.out.chg (fun k e => by omega)⟩
  · have hmf : ∀ (fn : Fn) (first cap : Array Value) (w : World), (Instr.makeFunc fn first cap).run Try.prog w = .ok (.func fn first cap) w := fun _ _ _ _ => rfl
    unfold ptrV
    go_enter Try.func13, Try.ntmps13
    go_wp2_with fail
    obtain ⟨w0, hw0⟩ : ∃ w0, (w.alloc (.cells #[.int .i64 6, .int .i64 f, .int .i64 0, .int .i64 tx, .bool false, .slice oa 0 cap] 24)).alloc (.cells #[.slice none 0 0, .int .i64 0, .int .i64 0, .int .i64 0] 36) = w0 := ⟨_, rfl⟩
    rw [hw0]
    have hb0 : w0.heap[w.heap.size]? = some (.cells #[.int .i64 6, .int .i64 f, .int .i64 0, .int .i64 tx, .bool false, .slice oa 0 cap] 24 (0, 0)) := by
      subst hw0; simp only [heap_alloc_get, World.size_alloc]; rw [if_neg (by omega), if_pos trivial]
    have hb1 : Arr w0 (w.heap.size + 1) 36 (saidL 0) := by
      subst hw0; unfold Arr; simp only [heap_alloc_get, World.size_alloc]; rw [if_pos trivial]; rfl
    have hc0 : Chg (fun _ => False) w w0 := by subst hw0; exact ((Chg.refl _ _).alloc _).alloc _
    have HB0 := Lib.hid hb0
    have HB1 := Lib.hid hb1
    have HC0 := Lib.hid hc0
    clear hb0 hb1 hc0 hw0
    have b0 := cell_of_block (i := 0) HB0.out rfl
    have b1 := cell_of_block (i := 1) HB0.out rfl
    have b2 := cell_of_block (i := 2) HB0.out rfl
    have b3 := cell_of_block (i := 3) HB0.out rfl
    have b4 := cell_of_block (i := 4) HB0.out rfl
    have b5 := cell_of_block (i := 5) HB0.out rfl
    go_wp2_with (first
      | (go_at_call 34; refine (none_no _ (HC.out.fresh HC0.out)).mono ?_; rintro e w1 ⟨rfl, rfl⟩)
      | (go_at_call 35; refine (wire_good _ 6 f tx false oa cap HUp.out).mono ?_; rintro e w1 ⟨rfl, hc1⟩
         have HC1 := Lib.hid (HC0.out.trans' hc1)
         have HD0 := Lib.hid (hc1.at HB0.out id)
         have HD1 := Lib.hid (show Arr w1 (w.heap.size + 1) 36 (saidL 0) from hc1.at HB1.out id)
         have d2 := cell_of_block (i := 2) (hc1.at HB0.out id) rfl
         clear hc1 b0 b1 b2 b3 b4 b5))
    have hCo := HC.out.fresh HC1.out
    have e1 : w1.cell? ⟨c, 1, none⟩ = some (.map (some q)) := cell_of_block hCo.head rfl
    have e3 : w1.cell? ⟨w.heap.size, 3, none⟩ = some (.int .i64 tx) := cell_of_block HD0.out rfl
    have HLk := Lib.hid (HL.out _ HC1.out.drew)
    clear hCo d2
    refine wp_region_noPanic ?_
    refine wp_region_held_drew (S := (fun w' => w'.cell? ⟨c, 1, none⟩ = some (.map (some q)) ∧ w'.cell? ⟨w.heap.size, 3, none⟩ = some (.int .i64 tx) ∧ (Instr.lookup 71 (.map (some q)) (.int .i64 tx) false).run Try.prog w' = .ok (.pointer p) w')) (by kernel_rfl) (⟨e1, e3, HLk.out⟩) (fun hHeld => ?_)
    refine take_list (i := 0) (v := ?_) rfl (by kernel_rfl) (by kernel_rfl) (by kernel_rfl) (fun _ _ _ h => h) (Or.inl ⟨by rfl, fun w hSw => ?_⟩) hHeld ?_
    rotate_left
    · (obtain ⟨hSw1, hSw2, hSw3⟩ := hSw; go_simp)
      try with_reducible rfl
    simp only [Act.put, List.setIfInBounds_toArray, List.set_cons_zero, List.set_cons_succ]
    refine take_list (i := 1) (v := ?_) rfl (by kernel_rfl) (by kernel_rfl) (by kernel_rfl) (fun _ _ _ h => h) (Or.inl ⟨by rfl, fun w hSw => ?_⟩) hHeld ?_
    rotate_left
    · (obtain ⟨hSw1, hSw2, hSw3⟩ := hSw; go_simp)
      try with_reducible rfl
    simp only [Act.put, List.setIfInBounds_toArray, List.set_cons_zero, List.set_cons_succ]
    refine take_list (i := 2) (v := ?_) rfl (by kernel_rfl) (by kernel_rfl) (by kernel_rfl) (fun _ _ _ h => h) (Or.inl ⟨by rfl, fun w hSw => ?_⟩) hHeld ?_
    rotate_left
    · (obtain ⟨hSw1, hSw2, hSw3⟩ := hSw; go_simp)
      try with_reducible rfl
    simp only [Act.put, List.setIfInBounds_toArray, List.set_cons_zero, List.set_cons_succ]
    refine take_list (i := 3) (v := ?_) rfl (by kernel_rfl) (by kernel_rfl) (by kernel_rfl) (fun _ _ _ h => h) (Or.inl ⟨by rfl, fun w hSw => ?_⟩) hHeld ?_
    rotate_left
    · (obtain ⟨hSw1, hSw2, hSw3⟩ := hSw; go_simp)
      try with_reducible rfl
    simp only [Act.put, List.setIfInBounds_toArray, List.set_cons_zero, List.set_cons_succ]
    refine take_list (i := 4) (v := ?_) rfl (by kernel_rfl) (by kernel_rfl) (by kernel_rfl) (fun _ _ _ h => h) (Or.inl ⟨by rfl, fun w hSw => ?_⟩) hHeld ?_
    rotate_left
    · (obtain ⟨hSw1, hSw2, hSw3⟩ := hSw; go_simp)
      try with_reducible rfl
    simp only [Act.put, List.setIfInBounds_toArray, List.set_cons_zero, List.set_cons_succ]
    refine take_list (i := 5) (v := ?_) rfl (by kernel_rfl) (by kernel_rfl) (by kernel_rfl) (fun _ _ _ h => h) (Or.inl ⟨by rfl, fun w hSw => ?_⟩) hHeld ?_
    rotate_left
    · (obtain ⟨hSw1, hSw2, hSw3⟩ := hSw; go_simp)
      try with_reducible rfl
    simp only [Act.put, List.setIfInBounds_toArray, List.set_cons_zero, List.set_cons_succ]
    refine take_list (i := 6) (v := ?_) rfl (by kernel_rfl) (by kernel_rfl) (by kernel_rfl) (fun _ _ _ h => h) (Or.inl ⟨by rfl, fun w hSw => ?_⟩) hHeld ?_
    rotate_left
    · (obtain ⟨hSw1, hSw2, hSw3⟩ := hSw; go_simp)
      try with_reducible rfl
    simp only [Act.put, List.setIfInBounds_toArray, List.set_cons_zero, List.set_cons_succ]
    refine take_list (i := 7) (v := ?_) rfl (by kernel_rfl) (by kernel_rfl) (by kernel_rfl) (fun _ _ _ h => h) (Or.inl ⟨by rfl, fun w hSw => ?_⟩) hHeld ?_
    rotate_left
    · (obtain ⟨hSw1, hSw2, hSw3⟩ := hSw; go_simp)
      try with_reducible rfl
    simp only [Act.put, List.setIfInBounds_toArray, List.set_cons_zero, List.set_cons_succ]
    refine wpAnyH_done (by kernel_rfl) ?_ _
    refine NoPanic.normal ?_
    clear hHeld e1 e3
    have f1 : w1.cell? ⟨w.heap.size, 1, none⟩ = some (.int .i64 f) := cell_of_block HD0.out rfl
    go_wp2_with (first
      | (go_at_call 36; refine (HH.out _ HC1.out.drew).mono ?_; rintro e w2 ⟨rfl, hc2⟩
         have hG := hc2.at (show w1.drew.heap[w.heap.size]? = _ from HD0.out) id
         have g0 := cell_of_block (i := 0) hG rfl
         have g1 := cell_of_block (i := 1) hG rfl
         have g2 := cell_of_block (i := 2) hG rfl
         have g3 := cell_of_block (i := 3) hG rfl
         have g4 := cell_of_block (i := 4) hG rfl
         have g5 := cell_of_block (i := 5) hG rfl
         have HQ1 := Lib.hid (show Arr w2 (w.heap.size + 1) 36 (saidL 0) from hc2.at (show w1.drew.heap[w.heap.size + 1]? = _ from HD1.out) id)
         have HC2 := Lib.hid (HC1.out.drew.trans' hc2)
         skip
         clear hc2 hG f1)
      | (go_at_call 37; refine (back_any _ _ 4 f tx g1 g3).mono ?_; rintro e w3 ⟨gm, rfl, hgm, hgb, hc3⟩
         have HSt := Lib.hid (said_to (hc3.at HQ1.out id) rfl (saidMl gm) rfl (one_saidM _))
         have HGm := Lib.hid hgm
         have HGb := Lib.hid hgb
         have HC3 := Lib.hid (HC2.out.trans' hc3)
         have hlt2 : w.heap.size + 1 < w2.heap.size := lt_of_block HQ1.out
         have HL2 := Lib.hid hlt2
         unfold saidM
         clear hgm hgb hc3 hlt2)
      | (refine wpList_store_mid rfl 36 _ _ rfl (w.heap.size + 1) 0 (saidMl gm).toArray rfl rfl HSt.out.there HSt.out.size HSt.out.one ?_; rw [List.toList_toArray]))
    (try simp only [Exit.inBlock, Exit.then])
    refine bodyPost_ret (result1 rfl _ rfl HSt.out.load) rfl ?_
    exact ⟨gm, rfl, HSt.out.chg.at HGb.out (fun e => by have := HGm.out; have := HL2.out; omega), HC3.out.new HSt.out.chg (fun k e => by omega)⟩


set_option maxHeartbeats 1000000 in
theorem take_unk_quiet (w : World) (hC : CoIs w c Fc lim m q) (kd f tx : Int) (y : Bool) (oa : Option Addr) (cap : Nat) (h : Up kd f 0 tx y 0) (hU : Unk w q tx f) (hb : (kd = 2 ∧ y = false) ∨ (kd = 5 ∧ y = false)) :
    Calls Try.prog 13 #[ptrV c, .agg #[.int .i64 kd, .int .i64 f, .int .i64 0, .int .i64 tx, .bool y, .slice oa 0 cap]] w fun e w' => e = .returned (saidV 0) ∧ Chg (fun _ => False) w w' := by
  obtain ⟨p, hlook, hhas⟩ := hU.is
  have HL := Lib.hid hlook
  have HH := Lib.hid hhas
  have HC := Lib.hid hC
  have HUp := Lib.hid h
  clear hC h hU hlook hhas
  rcases hb with ⟨rfl, rfl⟩ | ⟨rfl, rfl⟩
  · have hmf : ∀ (fn : Fn) (first cap : Array Value) (w : World), (Instr.makeFunc fn first cap).run Try.prog w = .ok (.func fn first cap) w := fun _ _ _ _ => rfl
    unfold ptrV
    go_enter Try.func13, Try.ntmps13
    go_wp2_with fail
    obtain ⟨w0, hw0⟩ : ∃ w0, (w.alloc (.cells #[.int .i64 2, .int .i64 f, .int .i64 0, .int .i64 tx, .bool false, .slice oa 0 cap] 24)).alloc (.cells #[.slice none 0 0, .int .i64 0, .int .i64 0, .int .i64 0] 36) = w0 := ⟨_, rfl⟩
    rw [hw0]
    have hb0 : w0.heap[w.heap.size]? = some (.cells #[.int .i64 2, .int .i64 f, .int .i64 0, .int .i64 tx, .bool false, .slice oa 0 cap] 24 (0, 0)) := by
      subst hw0; simp only [heap_alloc_get, World.size_alloc]; rw [if_neg (by omega), if_pos trivial]
    have hb1 : Arr w0 (w.heap.size + 1) 36 (saidL 0) := by
      subst hw0; unfold Arr; simp only [heap_alloc_get, World.size_alloc]; rw [if_pos trivial]; rfl
    have hc0 : Chg (fun _ => False) w w0 := by subst hw0; exact ((Chg.refl _ _).alloc _).alloc _
    have HB0 := Lib.hid hb0
    have HB1 := Lib.hid hb1
    have HC0 := Lib.hid hc0
    clear hb0 hb1 hc0 hw0
    have b0 := cell_of_block (i := 0) HB0.out rfl
    have b1 := cell_of_block (i := 1) HB0.out rfl
    have b2 := cell_of_block (i := 2) HB0.out rfl
    have b3 := cell_of_block (i := 3) HB0.out rfl
    have b4 := cell_of_block (i := 4) HB0.out rfl
    have b5 := cell_of_block (i := 5) HB0.out rfl
    go_wp2_with (first
      | (go_at_call 34; refine (none_no _ (HC.out.fresh HC0.out)).mono ?_; rintro e w1 ⟨rfl, rfl⟩)
      | (go_at_call 35; refine (wire_good _ 2 f tx false oa cap HUp.out).mono ?_; rintro e w1 ⟨rfl, hc1⟩
         have HC1 := Lib.hid (HC0.out.trans' hc1)
         have HD0 := Lib.hid (hc1.at HB0.out id)
         have HD1 := Lib.hid (show Arr w1 (w.heap.size + 1) 36 (saidL 0) from hc1.at HB1.out id)
         have d2 := cell_of_block (i := 2) (hc1.at HB0.out id) rfl
         clear hc1 b0 b1 b2 b3 b4 b5))
    have hCo := HC.out.fresh HC1.out
    have e1 : w1.cell? ⟨c, 1, none⟩ = some (.map (some q)) := cell_of_block hCo.head rfl
    have e3 : w1.cell? ⟨w.heap.size, 3, none⟩ = some (.int .i64 tx) := cell_of_block HD0.out rfl
    have HLk := Lib.hid (HL.out _ HC1.out.drew)
    clear hCo d2
    refine wp_region_noPanic ?_
    refine wp_region_held_drew (S := (fun w' => w'.cell? ⟨c, 1, none⟩ = some (.map (some q)) ∧ w'.cell? ⟨w.heap.size, 3, none⟩ = some (.int .i64 tx) ∧ (Instr.lookup 71 (.map (some q)) (.int .i64 tx) false).run Try.prog w' = .ok (.pointer p) w')) (by kernel_rfl) (⟨e1, e3, HLk.out⟩) (fun hHeld => ?_)
    refine take_list (i := 0) (v := ?_) rfl (by kernel_rfl) (by kernel_rfl) (by kernel_rfl) (fun _ _ _ h => h) (Or.inl ⟨by rfl, fun w hSw => ?_⟩) hHeld ?_
    rotate_left
    · (obtain ⟨hSw1, hSw2, hSw3⟩ := hSw; go_simp)
      try with_reducible rfl
    simp only [Act.put, List.setIfInBounds_toArray, List.set_cons_zero, List.set_cons_succ]
    refine take_list (i := 1) (v := ?_) rfl (by kernel_rfl) (by kernel_rfl) (by kernel_rfl) (fun _ _ _ h => h) (Or.inl ⟨by rfl, fun w hSw => ?_⟩) hHeld ?_
    rotate_left
    · (obtain ⟨hSw1, hSw2, hSw3⟩ := hSw; go_simp)
      try with_reducible rfl
    simp only [Act.put, List.setIfInBounds_toArray, List.set_cons_zero, List.set_cons_succ]
    refine take_list (i := 2) (v := ?_) rfl (by kernel_rfl) (by kernel_rfl) (by kernel_rfl) (fun _ _ _ h => h) (Or.inl ⟨by rfl, fun w hSw => ?_⟩) hHeld ?_
    rotate_left
    · (obtain ⟨hSw1, hSw2, hSw3⟩ := hSw; go_simp)
      try with_reducible rfl
    simp only [Act.put, List.setIfInBounds_toArray, List.set_cons_zero, List.set_cons_succ]
    refine take_list (i := 3) (v := ?_) rfl (by kernel_rfl) (by kernel_rfl) (by kernel_rfl) (fun _ _ _ h => h) (Or.inl ⟨by rfl, fun w hSw => ?_⟩) hHeld ?_
    rotate_left
    · (obtain ⟨hSw1, hSw2, hSw3⟩ := hSw; go_simp)
      try with_reducible rfl
    simp only [Act.put, List.setIfInBounds_toArray, List.set_cons_zero, List.set_cons_succ]
    refine take_list (i := 4) (v := ?_) rfl (by kernel_rfl) (by kernel_rfl) (by kernel_rfl) (fun _ _ _ h => h) (Or.inl ⟨by rfl, fun w hSw => ?_⟩) hHeld ?_
    rotate_left
    · (obtain ⟨hSw1, hSw2, hSw3⟩ := hSw; go_simp)
      try with_reducible rfl
    simp only [Act.put, List.setIfInBounds_toArray, List.set_cons_zero, List.set_cons_succ]
    refine take_list (i := 5) (v := ?_) rfl (by kernel_rfl) (by kernel_rfl) (by kernel_rfl) (fun _ _ _ h => h) (Or.inl ⟨by rfl, fun w hSw => ?_⟩) hHeld ?_
    rotate_left
    · (obtain ⟨hSw1, hSw2, hSw3⟩ := hSw; go_simp)
      try with_reducible rfl
    simp only [Act.put, List.setIfInBounds_toArray, List.set_cons_zero, List.set_cons_succ]
    refine take_list (i := 6) (v := ?_) rfl (by kernel_rfl) (by kernel_rfl) (by kernel_rfl) (fun _ _ _ h => h) (Or.inl ⟨by rfl, fun w hSw => ?_⟩) hHeld ?_
    rotate_left
    · (obtain ⟨hSw1, hSw2, hSw3⟩ := hSw; go_simp)
      try with_reducible rfl
    simp only [Act.put, List.setIfInBounds_toArray, List.set_cons_zero, List.set_cons_succ]
    refine take_list (i := 7) (v := ?_) rfl (by kernel_rfl) (by kernel_rfl) (by kernel_rfl) (fun _ _ _ h => h) (Or.inl ⟨by rfl, fun w hSw => ?_⟩) hHeld ?_
    rotate_left
    · (obtain ⟨hSw1, hSw2, hSw3⟩ := hSw; go_simp)
      try with_reducible rfl
    simp only [Act.put, List.setIfInBounds_toArray, List.set_cons_zero, List.set_cons_succ]
    refine wpAnyH_done (by kernel_rfl) ?_ _
    refine NoPanic.normal ?_
    clear hHeld e1 e3
    have f1 : w1.cell? ⟨w.heap.size, 1, none⟩ = some (.int .i64 f) := cell_of_block HD0.out rfl
    go_wp2_with (first
      | (go_at_call 36; refine (HH.out _ HC1.out.drew).mono ?_; rintro e w2 ⟨rfl, hc2⟩
         have hG := hc2.at (show w1.drew.heap[w.heap.size]? = _ from HD0.out) id
         have g0 := cell_of_block (i := 0) hG rfl
         have g1 := cell_of_block (i := 1) hG rfl
         have g2 := cell_of_block (i := 2) hG rfl
         have g3 := cell_of_block (i := 3) hG rfl
         have g4 := cell_of_block (i := 4) hG rfl
         have g5 := cell_of_block (i := 5) hG rfl
         have HQ1 := Lib.hid (show Arr w2 (w.heap.size + 1) 36 (saidL 0) from hc2.at (show w1.drew.heap[w.heap.size + 1]? = _ from HD1.out) id)
         have HC2 := Lib.hid (HC1.out.drew.trans' hc2)
         have HS := Lib.hid (said_store (l0 := 0) HQ1.out 0)
         clear hc2 hG f1)
      | (refine wpList_store_mid rfl 36 _ _ rfl (w.heap.size + 1) 0 (saidL 0).toArray rfl rfl HS.out.there HS.out.size HS.out.one ?_; rw [List.toList_toArray]))
    (try simp only [Exit.inBlock, Exit.then])
    refine bodyPost_ret (result1 rfl _ rfl HS.out.load) rfl ?_
    exact ⟨rfl, HC2.out.new HS.out.chg (fun k e => by omega)⟩
  · have hmf : ∀ (fn : Fn) (first cap : Array Value) (w : World), (Instr.makeFunc fn first cap).run Try.prog w = .ok (.func fn first cap) w := fun _ _ _ _ => rfl
    unfold ptrV
    go_enter Try.func13, Try.ntmps13
    go_wp2_with fail
    obtain ⟨w0, hw0⟩ : ∃ w0, (w.alloc (.cells #[.int .i64 5, .int .i64 f, .int .i64 0, .int .i64 tx, .bool false, .slice oa 0 cap] 24)).alloc (.cells #[.slice none 0 0, .int .i64 0, .int .i64 0, .int .i64 0] 36) = w0 := ⟨_, rfl⟩
    rw [hw0]
    have hb0 : w0.heap[w.heap.size]? = some (.cells #[.int .i64 5, .int .i64 f, .int .i64 0, .int .i64 tx, .bool false, .slice oa 0 cap] 24 (0, 0)) := by
      subst hw0; simp only [heap_alloc_get, World.size_alloc]; rw [if_neg (by omega), if_pos trivial]
    have hb1 : Arr w0 (w.heap.size + 1) 36 (saidL 0) := by
      subst hw0; unfold Arr; simp only [heap_alloc_get, World.size_alloc]; rw [if_pos trivial]; rfl
    have hc0 : Chg (fun _ => False) w w0 := by subst hw0; exact ((Chg.refl _ _).alloc _).alloc _
    have HB0 := Lib.hid hb0
    have HB1 := Lib.hid hb1
    have HC0 := Lib.hid hc0
    clear hb0 hb1 hc0 hw0
    have b0 := cell_of_block (i := 0) HB0.out rfl
    have b1 := cell_of_block (i := 1) HB0.out rfl
    have b2 := cell_of_block (i := 2) HB0.out rfl
    have b3 := cell_of_block (i := 3) HB0.out rfl
    have b4 := cell_of_block (i := 4) HB0.out rfl
    have b5 := cell_of_block (i := 5) HB0.out rfl
    go_wp2_with (first
      | (go_at_call 34; refine (none_no _ (HC.out.fresh HC0.out)).mono ?_; rintro e w1 ⟨rfl, rfl⟩)
      | (go_at_call 35; refine (wire_good _ 5 f tx false oa cap HUp.out).mono ?_; rintro e w1 ⟨rfl, hc1⟩
         have HC1 := Lib.hid (HC0.out.trans' hc1)
         have HD0 := Lib.hid (hc1.at HB0.out id)
         have HD1 := Lib.hid (show Arr w1 (w.heap.size + 1) 36 (saidL 0) from hc1.at HB1.out id)
         have d2 := cell_of_block (i := 2) (hc1.at HB0.out id) rfl
         clear hc1 b0 b1 b2 b3 b4 b5))
    have hCo := HC.out.fresh HC1.out
    have e1 : w1.cell? ⟨c, 1, none⟩ = some (.map (some q)) := cell_of_block hCo.head rfl
    have e3 : w1.cell? ⟨w.heap.size, 3, none⟩ = some (.int .i64 tx) := cell_of_block HD0.out rfl
    have HLk := Lib.hid (HL.out _ HC1.out.drew)
    clear hCo d2
    refine wp_region_noPanic ?_
    refine wp_region_held_drew (S := (fun w' => w'.cell? ⟨c, 1, none⟩ = some (.map (some q)) ∧ w'.cell? ⟨w.heap.size, 3, none⟩ = some (.int .i64 tx) ∧ (Instr.lookup 71 (.map (some q)) (.int .i64 tx) false).run Try.prog w' = .ok (.pointer p) w')) (by kernel_rfl) (⟨e1, e3, HLk.out⟩) (fun hHeld => ?_)
    refine take_list (i := 0) (v := ?_) rfl (by kernel_rfl) (by kernel_rfl) (by kernel_rfl) (fun _ _ _ h => h) (Or.inl ⟨by rfl, fun w hSw => ?_⟩) hHeld ?_
    rotate_left
    · (obtain ⟨hSw1, hSw2, hSw3⟩ := hSw; go_simp)
      try with_reducible rfl
    simp only [Act.put, List.setIfInBounds_toArray, List.set_cons_zero, List.set_cons_succ]
    refine take_list (i := 1) (v := ?_) rfl (by kernel_rfl) (by kernel_rfl) (by kernel_rfl) (fun _ _ _ h => h) (Or.inl ⟨by rfl, fun w hSw => ?_⟩) hHeld ?_
    rotate_left
    · (obtain ⟨hSw1, hSw2, hSw3⟩ := hSw; go_simp)
      try with_reducible rfl
    simp only [Act.put, List.setIfInBounds_toArray, List.set_cons_zero, List.set_cons_succ]
    refine take_list (i := 2) (v := ?_) rfl (by kernel_rfl) (by kernel_rfl) (by kernel_rfl) (fun _ _ _ h => h) (Or.inl ⟨by rfl, fun w hSw => ?_⟩) hHeld ?_
    rotate_left
    · (obtain ⟨hSw1, hSw2, hSw3⟩ := hSw; go_simp)
      try with_reducible rfl
    simp only [Act.put, List.setIfInBounds_toArray, List.set_cons_zero, List.set_cons_succ]
    refine take_list (i := 3) (v := ?_) rfl (by kernel_rfl) (by kernel_rfl) (by kernel_rfl) (fun _ _ _ h => h) (Or.inl ⟨by rfl, fun w hSw => ?_⟩) hHeld ?_
    rotate_left
    · (obtain ⟨hSw1, hSw2, hSw3⟩ := hSw; go_simp)
      try with_reducible rfl
    simp only [Act.put, List.setIfInBounds_toArray, List.set_cons_zero, List.set_cons_succ]
    refine take_list (i := 4) (v := ?_) rfl (by kernel_rfl) (by kernel_rfl) (by kernel_rfl) (fun _ _ _ h => h) (Or.inl ⟨by rfl, fun w hSw => ?_⟩) hHeld ?_
    rotate_left
    · (obtain ⟨hSw1, hSw2, hSw3⟩ := hSw; go_simp)
      try with_reducible rfl
    simp only [Act.put, List.setIfInBounds_toArray, List.set_cons_zero, List.set_cons_succ]
    refine take_list (i := 5) (v := ?_) rfl (by kernel_rfl) (by kernel_rfl) (by kernel_rfl) (fun _ _ _ h => h) (Or.inl ⟨by rfl, fun w hSw => ?_⟩) hHeld ?_
    rotate_left
    · (obtain ⟨hSw1, hSw2, hSw3⟩ := hSw; go_simp)
      try with_reducible rfl
    simp only [Act.put, List.setIfInBounds_toArray, List.set_cons_zero, List.set_cons_succ]
    refine take_list (i := 6) (v := ?_) rfl (by kernel_rfl) (by kernel_rfl) (by kernel_rfl) (fun _ _ _ h => h) (Or.inl ⟨by rfl, fun w hSw => ?_⟩) hHeld ?_
    rotate_left
    · (obtain ⟨hSw1, hSw2, hSw3⟩ := hSw; go_simp)
      try with_reducible rfl
    simp only [Act.put, List.setIfInBounds_toArray, List.set_cons_zero, List.set_cons_succ]
    refine take_list (i := 7) (v := ?_) rfl (by kernel_rfl) (by kernel_rfl) (by kernel_rfl) (fun _ _ _ h => h) (Or.inl ⟨by rfl, fun w hSw => ?_⟩) hHeld ?_
    rotate_left
    · (obtain ⟨hSw1, hSw2, hSw3⟩ := hSw; go_simp)
      try with_reducible rfl
    simp only [Act.put, List.setIfInBounds_toArray, List.set_cons_zero, List.set_cons_succ]
    refine wpAnyH_done (by kernel_rfl) ?_ _
    refine NoPanic.normal ?_
    clear hHeld e1 e3
    have f1 : w1.cell? ⟨w.heap.size, 1, none⟩ = some (.int .i64 f) := cell_of_block HD0.out rfl
    go_wp2_with (first
      | (go_at_call 36; refine (HH.out _ HC1.out.drew).mono ?_; rintro e w2 ⟨rfl, hc2⟩
         have hG := hc2.at (show w1.drew.heap[w.heap.size]? = _ from HD0.out) id
         have g0 := cell_of_block (i := 0) hG rfl
         have g1 := cell_of_block (i := 1) hG rfl
         have g2 := cell_of_block (i := 2) hG rfl
         have g3 := cell_of_block (i := 3) hG rfl
         have g4 := cell_of_block (i := 4) hG rfl
         have g5 := cell_of_block (i := 5) hG rfl
         have HQ1 := Lib.hid (show Arr w2 (w.heap.size + 1) 36 (saidL 0) from hc2.at (show w1.drew.heap[w.heap.size + 1]? = _ from HD1.out) id)
         have HC2 := Lib.hid (HC1.out.drew.trans' hc2)
         skip
         clear hc2 hG f1)
      | (go_at_call 38; refine (ack_nil _ _ 5 f tx false _).mono ?_; rintro e w3 ⟨rfl, hc3⟩
         have HS := Lib.hid (said_to (hc3.at HQ1.out id) rfl (saidL 0) rfl (one_saidC 0))
         have HC3 := Lib.hid (HC2.out.trans' hc3)
         unfold saidC
         clear hc3)
      | (refine wpList_store_mid rfl 36 _ _ rfl (w.heap.size + 1) 0 (saidL 0).toArray rfl rfl HS.out.there HS.out.size HS.out.one ?_; rw [List.toList_toArray]))
    (try simp only [Exit.inBlock, Exit.then])
    refine bodyPost_ret (result1 rfl _ rfl HS.out.load) rfl ?_
    exact ⟨rfl, HC3.out.new HS.out.chg (fun k e => by omega)⟩

end Go.Proofs.Ytogjjkbgagedpaa.coords
