/-
  coord: Take of a vote, Sure, State; the reference's Same of two Saids without messages.
-/
import Derived.Test.YtogjjkbgagedpaaCoordE
namespace Go.Proofs.Ytogjjkbgagedpaa.coords
open Go.RowKit Go.Maps Go.My Go.ChangeMaps
set_option maxRecDepth 100000

variable {w w' : World} {c q x qa : Nat} {F F' Fc : Nat → Prop} {lim : Int} {m : List (Int × Nat)} {E : EV} {pv : Value}

set_option maxHeartbeats 1000000 in
theorem take_vote (w : World) (hC : CoIs w c Fc lim m q) (hE : EntIs w x F E pv qa) (f txn : Int) (hm : mget m txn = some x) (hs : E.state = 1) (hf : f ∈ E.ps) (ht : 1 ≤ txn ∧ txn ≤ 1099511627776) (hap : ∀ k, F k → ¬ Fc k) :
    Calls Try.prog 13 #[ptrV c, .agg (msgC 2 f 0 txn true).toArray] w fun e w' => e = .returned (saidV (if lacksOf (E.yes f) E.ps.length = [] then txn else 0)) ∧ EntIs w' x F (E.voted f) pv qa ∧ CoIs w' c Fc lim m q ∧ Chg F w w' := by
  have hmf : ∀ (fn : Fn) (first cap : Array Value) (w : World), (Instr.makeFunc fn first cap).run Try.prog w = .ok (.func fn first cap) w := fun _ _ _ _ => rfl
  have HC := Lib.hid hC
  have HE := Lib.hid hE
  have HM := Lib.hid hm
  have HS := Lib.hid hs
  have HF := Lib.hid hf
  have HA := Lib.hid hap
  have hfr := hE.ok f hf
  obtain ⟨lg, hlg⟩ : ∃ lg, (if lacksOf (E.yes f) E.ps.length = [] then txn else 0) = lg := ⟨_, rfl⟩
  rw [hlg]
  have HLg := Lib.hid hlg
  clear hC hE hm hs hf hap hlg
  unfold msgC ptrV
  go_enter Try.func13, Try.ntmps13
  go_wp2_with fail
  obtain ⟨w0, hw0⟩ : ∃ w0, (w.alloc (.cells #[.int .i64 2, .int .i64 f, .int .i64 0, .int .i64 txn, .bool true, .slice none 0 0] 24)).alloc (.cells #[.slice none 0 0, .int .i64 0, .int .i64 0, .int .i64 0] 36) = w0 := ⟨_, rfl⟩
  rw [hw0]
  have hb0 : w0.heap[w.heap.size]? = some (.cells #[.int .i64 2, .int .i64 f, .int .i64 0, .int .i64 txn, .bool true, .slice none 0 0] 24 (0, 0)) := by
    subst hw0; simp only [heap_alloc_get, World.size_alloc]; rw [if_neg (by omega), if_pos trivial]
  have hb1 : Arr w0 (w.heap.size + 1) 36 (saidL 0) := by
    subst hw0; unfold Arr; simp only [heap_alloc_get, World.size_alloc]; rw [if_pos trivial]; rfl
  have hc0 : Chg (fun _ => False) w w0 := by subst hw0; exact ((Chg.refl _ _).alloc _).alloc _
  have HB0 := Lib.hid hb0
  have HB1 := Lib.hid hb1
  have HC0 := Lib.hid hc0
  clear hb0 hb1 hc0 hw0
  have b0 := cell_of_block (i := 0) HB0.out rfl
  have b1 := cell_of_block (i := 1) HB0.out rfl
  have b2 := cell_of_block (i := 2) HB0.out rfl
  have b3 := cell_of_block (i := 3) HB0.out rfl
  have b4 := cell_of_block (i := 4) HB0.out rfl
  have b5 := cell_of_block (i := 5) HB0.out rfl
  go_wp2_with (first
    | (go_at_call 34; refine (none_no _ (HC.out.fresh HC0.out)).mono ?_; rintro e w1 ⟨rfl, rfl⟩)
    | (go_at_call 35; refine (wire_vote _ f txn hfr ht).mono ?_; rintro e w1 ⟨rfl, hc1⟩
       have HC1 := Lib.hid (HC0.out.trans' hc1)
       have HD0 := Lib.hid (hc1.at HB0.out id)
       have HD1 := Lib.hid (show Arr w1 (w.heap.size + 1) 36 (saidL 0) from hc1.at HB1.out id)
       have d2 := cell_of_block (i := 2) (hc1.at HB0.out id) rfl
       clear hc1 b0 b1 b2 b3 b4 b5))
  have hCo := HC.out.fresh HC1.out
  have e1 : w1.cell? ⟨c, 1, none⟩ = some (.map (some q)) := cell_of_block hCo.head rfl
  have e3 : w1.cell? ⟨w.heap.size, 3, none⟩ = some (.int .i64 txn) := cell_of_block HD0.out rfl
  have hlk := (hCo.mp.kept ((Chg.refl (fun _ => False) w1).drew) id).look Try.underlying71 (zero_ent _) false txn (WalkArith.wf_i64 (by omega))
  rw [HM.out] at hlk
  have hlk : (Instr.lookup 71 (.map (some q)) (.int .i64 txn) false).run Try.prog w1.drew = .ok (.pointer (some ⟨x, 0, none⟩)) w1.drew := hlk
  have HLk := Lib.hid hlk
  clear hCo hlk d2
  refine wp_region_noPanic ?_
  refine wp_region_held_drew (S := (fun w' => w'.cell? ⟨c, 1, none⟩ = some (.map (some q)) ∧ w'.cell? ⟨w.heap.size, 3, none⟩ = some (.int .i64 txn) ∧ (Instr.lookup 71 (.map (some q)) (.int .i64 txn) false).run Try.prog w' = .ok (.pointer (some ⟨x, 0, none⟩)) w')) (by kernel_rfl) (⟨e1, e3, HLk.out⟩) (fun hHeld => ?_)
  refine take_list (i := 0) (v := ?_) rfl (by kernel_rfl) (by kernel_rfl) (by kernel_rfl) (fun _ _ _ h => h) (Or.inl ⟨by rfl, fun w hSw => ?_⟩) hHeld ?_
  rotate_left
  · (obtain ⟨hSw1, hSw2, hSw3⟩ := hSw; go_simp)
    try with_reducible rfl
  simp only [Act.put, List.setIfInBounds_toArray, List.set_cons_zero, List.set_cons_succ]
  refine take_list (i := 1) (v := ?_) rfl (by kernel_rfl) (by kernel_rfl) (by kernel_rfl) (fun _ _ _ h => h) (Or.inl ⟨by rfl, fun w hSw => ?_⟩) hHeld ?_
  rotate_left
  · (obtain ⟨hSw1, hSw2, hSw3⟩ := hSw; go_simp)
    try with_reducible rfl
  simp only [Act.put, List.setIfInBounds_toArray, List.set_cons_zero, List.set_cons_succ]
  refine take_list (i := 2) (v := ?_) rfl (by kernel_rfl) (by kernel_rfl) (by kernel_rfl) (fun _ _ _ h => h) (Or.inl ⟨by rfl, fun w hSw => ?_⟩) hHeld ?_
  rotate_left
  · (obtain ⟨hSw1, hSw2, hSw3⟩ := hSw; go_simp)
    try with_reducible rfl
  simp only [Act.put, List.setIfInBounds_toArray, List.set_cons_zero, List.set_cons_succ]
  refine take_list (i := 3) (v := ?_) rfl (by kernel_rfl) (by kernel_rfl) (by kernel_rfl) (fun _ _ _ h => h) (Or.inl ⟨by rfl, fun w hSw => ?_⟩) hHeld ?_
  rotate_left
  · (obtain ⟨hSw1, hSw2, hSw3⟩ := hSw; go_simp)
    try with_reducible rfl
  simp only [Act.put, List.setIfInBounds_toArray, List.set_cons_zero, List.set_cons_succ]
  refine take_list (i := 4) (v := ?_) rfl (by kernel_rfl) (by kernel_rfl) (by kernel_rfl) (fun _ _ _ h => h) (Or.inl ⟨by rfl, fun w hSw => ?_⟩) hHeld ?_
  rotate_left
  · (obtain ⟨hSw1, hSw2, hSw3⟩ := hSw; go_simp)
    try with_reducible rfl
  simp only [Act.put, List.setIfInBounds_toArray, List.set_cons_zero, List.set_cons_succ]
  refine take_list (i := 5) (v := ?_) rfl (by kernel_rfl) (by kernel_rfl) (by kernel_rfl) (fun _ _ _ h => h) (Or.inl ⟨by rfl, fun w hSw => ?_⟩) hHeld ?_
  rotate_left
  · (obtain ⟨hSw1, hSw2, hSw3⟩ := hSw; go_simp)
    try with_reducible rfl
  simp only [Act.put, List.setIfInBounds_toArray, List.set_cons_zero, List.set_cons_succ]
  refine take_list (i := 6) (v := ?_) rfl (by kernel_rfl) (by kernel_rfl) (by kernel_rfl) (fun _ _ _ h => h) (Or.inl ⟨by rfl, fun w hSw => ?_⟩) hHeld ?_
  rotate_left
  · (obtain ⟨hSw1, hSw2, hSw3⟩ := hSw; go_simp)
    try with_reducible rfl
  simp only [Act.put, List.setIfInBounds_toArray, List.set_cons_zero, List.set_cons_succ]
  refine take_list (i := 7) (v := ?_) rfl (by kernel_rfl) (by kernel_rfl) (by kernel_rfl) (fun _ _ _ h => h) (Or.inl ⟨by rfl, fun w hSw => ?_⟩) hHeld ?_
  rotate_left
  · (obtain ⟨hSw1, hSw2, hSw3⟩ := hSw; go_simp)
    try with_reducible rfl
  simp only [Act.put, List.setIfInBounds_toArray, List.set_cons_zero, List.set_cons_succ]
  refine wpAnyH_done (by kernel_rfl) ?_ _
  refine NoPanic.normal ?_
  clear hHeld e1 e3
  have HE1 := Lib.hid (HE.out.fresh HC1.out.drew)
  have f1 : w1.cell? ⟨w.heap.size, 1, none⟩ = some (.int .i64 f) := cell_of_block HD0.out rfl
  go_wp2_with (first
    | (go_at_call 36; refine (has_any _ HE1.out f HF.out).mono ?_; rintro e w2 ⟨rfl, hc2⟩
       have hG := hc2.at (show w1.drew.heap[w.heap.size]? = _ from HD0.out) id
       have g0 := cell_of_block (i := 0) hG rfl
       have g1 := cell_of_block (i := 1) hG rfl
       have g2 := cell_of_block (i := 2) hG rfl
       have g3 := cell_of_block (i := 3) hG rfl
       have g4 := cell_of_block (i := 4) hG rfl
       have g5 := cell_of_block (i := 5) hG rfl
       have HE2 := Lib.hid (HE1.out.fresh hc2)
       have s0 : w2.cell? ⟨x, 0, none⟩ = some (.int .i64 1) := by
         have := cell_of_block (i := 0) HE2.out.head rfl
         rw [HS.out] at this; exact this
       have HQ1 := Lib.hid (show Arr w2 (w.heap.size + 1) 36 (saidL 0) from hc2.at (show w1.drew.heap[w.heap.size + 1]? = _ from HD1.out) id)
       have HC2 := Lib.hid (HC1.out.drew.trans' hc2)
       clear hc2 hG f1)
    | (go_at_call 39; refine (vote_any _ HE2.out _ f txn HF.out).mono ?_; rw [HLg.out]; rintro e w3 ⟨rfl, hE3, hc3⟩
       have hq1 := hc3.at HQ1.out (fun hF => by have := HE.out.lt _ hF; omega)
       have HSt := Lib.hid (said_store (l0 := 0) hq1 lg)
       have HE3 := Lib.hid hE3
       have HC3 := Lib.hid hc3
       unfold saidV
       clear hE3 hc3 hq1)
    | (refine wpList_store_mid rfl 36 _ _ rfl (w.heap.size + 1) 0 (saidL lg).toArray rfl rfl HSt.out.there HSt.out.size HSt.out.one ?_; rw [List.toList_toArray]))
  (try simp only [Exit.inBlock, Exit.then])
  refine bodyPost_ret (result1 rfl _ rfl HSt.out.load) rfl ?_
  have hns : ∀ k, k < w.heap.size → ¬ k = w.heap.size + 1 := fun k hk e => by omega
  refine ⟨rfl, HE3.out.kept HSt.out.chg (fun k hk => hns k (HE.out.lt k hk)), ((HC.out.fresh HC2.out).kept HC3.out (fun k hk hF => HA.out k hF hk)).kept HSt.out.chg (fun k hk => hns k (HC.out.lt k hk)), ((HC2.out.mono (fun _ _ h => h.elim)).trans' HC3.out).trans HSt.out.chg (fun k hk e => (hns k hk e).elim)⟩

set_option maxHeartbeats 1000000 in
theorem sure_any (w : World) (hC : CoIs w c Fc lim m q) (hE : EntIs w x F E pv qa) (txn : Int) (hm : mget m txn = some x) (hs : E.state = 2) (ht : 1 ≤ txn ∧ txn ≤ 1099511627776) (hap : ∀ k, F k → ¬ Fc k) :
    Calls Try.prog 25 #[ptrV c, .int .i64 txn] w fun e w' => ∃ v, e = .returned (.tuple #[v, .int .i64 0]) ∧ OwnRecs w' w.heap.size 24 6 v (E.ps.map (fun r => msgC 3 0 r txn false)) ∧ (∃ F' qa', EntIs w' x F' { E with state := 3, ans := [] } pv qa') ∧ CoIs w' c Fc lim m q ∧ Chg F w w' := by
  have hmm := @run_makeMap Try.prog
  have c1 : w.cell? ⟨c, 1, none⟩ = some (.map (some q)) := cell_of_block hC.head rfl
  have hlk := hC.mp.look Try.underlying71 (zero_ent _) false txn (WalkArith.wf_i64 (by omega))
  rw [hm] at hlk
  have hlk : (Instr.lookup 71 (.map (some q)) (.int .i64 txn) false).run Try.prog w = .ok (.pointer (some ⟨x, 0, none⟩)) w := hlk
  have s0 : w.cell? ⟨x, 0, none⟩ = some (.int .i64 2) := by rw [← hs]; exact cell_of_block hE.head rfl
  have hxlt := hE.lt x hE.fr
  have ha := (Chg.refl (fun _ => False) w).alloc (.map #[] 0)
  have hh1 := ha.at hE.head id
  have z0 : (w.alloc (.map #[] 0)).frozen? ⟨x, 0, none⟩ = false := free_of_block hh1
  have s1 : (w.alloc (.map #[] 0)).cell? ⟨x, 0, none⟩ = some (.int .i64 E.state) := cell_of_block hh1 rfl
  have hh2 := block_setCell (i := 0) (v := .int .i64 3) hh1
  have z3 : ((w.alloc (.map #[] 0)).setCell ⟨x, 0, none⟩ (.int .i64 3)).frozen? ⟨x, 3, none⟩ = false := free_of_block hh2
  have s3 : ((w.alloc (.map #[] 0)).setCell ⟨x, 0, none⟩ (.int .i64 3)).cell? ⟨x, 3, none⟩ = some (.map (some qa)) := cell_of_block hh2 rfl
  have s4 : w.cell? ⟨x, 3, none⟩ = some (.map (some qa)) := cell_of_block hE.head rfl
  have s5 : (w.alloc (.map #[] 0)).cell? ⟨x, 3, none⟩ = some (.map (some qa)) := cell_of_block hh1 rfl
  have z4 : w.frozen? ⟨x, 3, none⟩ = false := free_of_block hE.head
  have z5 : (w.alloc (.map #[] 0)).frozen? ⟨x, 3, none⟩ = false := free_of_block hh1
  have z6 : w.frozen? ⟨x, 0, none⟩ = false := free_of_block hE.head
  have hh4 := block_setCell (i := 3) (v := .map (some w.heap.size)) (block_setCell (i := 0) (v := .int .i64 3) hE.head)
  obtain ⟨w3, hw3⟩ : ∃ w3, ((w.setCell ⟨x, 0, none⟩ (.int .i64 3)).setCell ⟨x, 3, none⟩ (.map (some w.heap.size))).alloc (.map #[] 0) = w3 := ⟨_, rfl⟩
  have hc3 : Chg (· = x) w w3 := by rw [← hw3]; exact ((Chg.setCell (S := (· = x)) (Chg.refl _ _) (fun _ => rfl) _).setCell (fun _ => rfl) _).alloc _
  have hh3 : w3.heap[x]? = some (.cells #[.int .i64 3, .int .i64 E.age, pv, .map (some w.heap.size)] 86 (0, 0)) := by
    rw [← hw3, heap_alloc_get, if_neg (by simp only [World.size_setCell]; omega), hh4]; rfl
  have hmap : w3.heap[w.heap.size]? = some (.map #[] 0) := by
    rw [← hw3, heap_alloc_get, if_pos (by simp only [World.size_setCell])]
  have hE3 : EntIs w3 x (fun k => F k ∨ k = w.heap.size) { E with state := 3, ans := [] } pv w.heap.size :=
    ⟨hh3, hE.plans.kept hc3 (fun g hg => (hE.own_ne g hg).2), MapIs.made (clock := 0) _ _ hmap, Or.inl hE.fr, Or.inr rfl, fun g hg => Or.inl (hE.fp g hg), fun k hk => by
      have := hc3.size
      rcases hk with hk | hk
      · have := hE.lt k hk; omega
      · have h4 := lt_of_block hmap; omega, hE.ok, hE.len⟩
  have hCw : Chg F w w3 := hc3.mono (fun k _ e => by rw [e]; exact hE.fr)
  have hC3 := hC.kept hCw (fun k hk hF => hap k hF hk)
  have HE3 := Lib.hid hE3
  have HC3 := Lib.hid hC3
  have HCw := Lib.hid hCw
  have HNo := Lib.hid (none_no w hC)
  have HW3 := Lib.hid hw3
  clear hC hE hm hs hap ha hh1 hh2 hh3 hh4 hc3 hmap hE3 hCw hC3 hw3
  unfold ptrV
  go_enter Try.func25, Try.ntmps25
  go_wp2_with (first
    | (go_at_call 34; refine HNo.out.mono ?_; rintro e w1 ⟨rfl, rfl⟩)
    | (go_at_call 32; rw [HW3.out]; refine (all_any _ HE3.out _ _).mono ?_; rintro e w4 ⟨v, rfl, ho, hc4⟩; have HO := Lib.hid ho; have HC4 := Lib.hid hc4; clear ho hc4))
  go_ret2
  refine ⟨_, rfl, ⟨World.ownsRow.mono HO.out.row HCw.out.size, HO.out.each⟩, ⟨_, _, HE3.out.fresh HC4.out⟩, HC3.out.fresh HC4.out, HCw.out.trans' (HC4.out.mono (fun _ _ h => h.elim))⟩

theorem state_any (w : World) (hC : CoIs w c Fc lim m q) (hE : EntIs w x F E pv qa) (txn : Int) (hm : mget m txn = some x) (ht : 1 ≤ txn ∧ txn ≤ 1099511627776) :
    Calls Try.prog 15 #[ptrV c, .int .i64 txn] w fun e w' => e = .returned (.int .i64 E.state) ∧ w = w' := by
  have c1 : w.cell? ⟨c, 1, none⟩ = some (.map (some q)) := cell_of_block hC.head rfl
  have hlk := hC.mp.look Try.underlying71 (zero_ent _) false txn (WalkArith.wf_i64 (by omega))
  rw [hm] at hlk
  have hlk : (Instr.lookup 71 (.map (some q)) (.int .i64 txn) false).run Try.prog w = .ok (.pointer (some ⟨x, 0, none⟩)) w := hlk
  have s0 : w.cell? ⟨x, 0, none⟩ = some (.int .i64 E.state) := cell_of_block hE.head rfl
  have HNo := Lib.hid (none_no w hC)
  clear hC hE hm
  unfold ptrV
  go_enter Try.func15, Try.ntmps15
  go_wp2_with (first
    | (go_at_call 34; refine HNo.out.mono ?_; rintro e w1 ⟨rfl, rfl⟩))

  go_ret
  exact ⟨rfl, rfl⟩

/-- Two Saids without messages, alike. -/
theorem sameall_nil (w : World) : Calls Try.prog 40 #[.slice none 0 0, .slice none 0 0] w fun e w' => e = .returned (.bool true) ∧ w = w' := by
  go_enter Try.func40, Try.ntmps40
  go_wp2_with fail
  go_loopw [5] (fun j wr => j = .int .i64 0 ∧ w = wr) (fun _ _ => 0)
  · exact ⟨rfl, rfl⟩
  obtain ⟨rfl, rfl⟩ := hrel
  go_wp2_with fail
  go_ret
  exact ⟨rfl, rfl⟩

theorem same_nil (w : World) : Calls Try.prog 14 #[saidV 0, saidV 0] w fun e w' => e = .returned (.bool true) ∧ Chg (fun _ => False) w w' := by
  unfold saidV
  go_enter Try.func14, Try.ntmps14
  go_wp2_with (go_at_call 40; refine (sameall_nil _).mono ?_; rintro e w1 ⟨rfl, rfl⟩)

  go_ret
  exact ⟨rfl, ((Chg.refl _ _).alloc _).alloc _⟩

end Go.Proofs.Ytogjjkbgagedpaa.coords
