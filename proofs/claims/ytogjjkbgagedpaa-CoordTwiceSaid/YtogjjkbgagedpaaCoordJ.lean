/-
  coord: Take of an ask and of an acknowledgement.
-/
import Derived.Test.YtogjjkbgagedpaaCoordI
namespace Go.Proofs.Ytogjjkbgagedpaa.coords
open Go.RowKit Go.Maps Go.My Go.ChangeMaps
set_option maxRecDepth 100000

variable {w w' : World} {c q x qa : Nat} {F F' Fc : Nat → Prop} {lim : Int} {m : List (Int × Nat)} {E : EV} {pv : Value}

theorem oper_delete {P : Program} {o : Oper} {a : Go.Act} {w w' : World} {K : Go.Act → World → Prop} {Q : Exit → Go.Act → World → Prop} (s x : Operand) (t u : TypeId)
    (ho : o.op = .call { callee := .builtin .delete, args := #[s, x], argTypes := #[t, u] }) {v sv xv : Value} (hs : a.eval s = sv) (hx : a.eval x = xv)
    (hr : (Builtin.delete_ #[t, u] o.type #[sv, xv]).run P w = .ok v w') (h : K (a.put o.dst v) w') : Oper.wp P o a w K Q := by
  unfold Oper.wp execOp
  simp only [ho, resolve, invoke, builtin, Sem.run_bind, Sem.run_pure, Result.andThen_ok, List.map_toArray, List.map_cons, List.map_nil, hs, hx, hr]
  exact h




set_option maxHeartbeats 1000000 in
theorem take_ask (w : World) (hC : CoIs w c Fc lim m q) (hE : EntIs w x F E pv qa) (f txn : Int) (hm : mget m txn = some x) (hs : E.state = 3) (hf : f ∈ E.ps) (ht : 1 ≤ txn ∧ txn ≤ 1099511627776) :
    Calls Try.prog 13 #[ptrV c, .agg (msgC 6 f 0 txn false).toArray] w fun e w' => ∃ gm, e = .returned (saidM gm) ∧ w'.heap[gm]? = some (.cells (msgC 3 0 f txn false).toArray 24 (0, 0)) ∧ Chg (fun _ => False) w w' := by
  have hmf : ∀ (fn : Fn) (first cap : Array Value) (w : World), (Instr.makeFunc fn first cap).run Try.prog w = .ok (.func fn first cap) w := fun _ _ _ _ => rfl
  have HC := Lib.hid hC
  have HE := Lib.hid hE
  have HM := Lib.hid hm
  have HS := Lib.hid hs
  have HF := Lib.hid hf
  have hfr := hE.ok f hf
  clear hC hE hm hs hf
  unfold msgC ptrV
  go_enter Try.func13, Try.ntmps13
  go_wp2_with fail
  obtain ⟨w0, hw0⟩ : ∃ w0, (w.alloc (.cells #[.int .i64 6, .int .i64 f, .int .i64 0, .int .i64 txn, .bool false, .slice none 0 0] 24)).alloc (.cells #[.slice none 0 0, .int .i64 0, .int .i64 0, .int .i64 0] 36) = w0 := ⟨_, rfl⟩
  rw [hw0]
  have hb0 : w0.heap[w.heap.size]? = some (.cells #[.int .i64 6, .int .i64 f, .int .i64 0, .int .i64 txn, .bool false, .slice none 0 0] 24 (0, 0)) := by
    subst hw0; simp only [heap_alloc_get, World.size_alloc]; rw [if_neg (by omega), if_pos trivial]
  have hb1 : Arr w0 (w.heap.size + 1) 36 (saidL 0) := by
    subst hw0; unfold Arr; simp only [heap_alloc_get, World.size_alloc]; rw [if_pos trivial]; rfl
  have hc0 : Chg (fun _ => False) w w0 := by subst hw0; exact ((Chg.refl _ _).alloc _).alloc _
  have HB0 := Lib.hid hb0
  have HB1 := Lib.hid hb1
  have HC0 := Lib.hid hc0
  clear hb0 hb1 hc0 hw0
  have b0 := cell_of_block (i := 0) HB0.out rfl
  have b1 := cell_of_block (i := 1) HB0.out rfl
  have b2 := cell_of_block (i := 2) HB0.out rfl
  have b3 := cell_of_block (i := 3) HB0.out rfl
  have b4 := cell_of_block (i := 4) HB0.out rfl
  have b5 := cell_of_block (i := 5) HB0.out rfl
  go_wp2_with (first
    | (go_at_call 34; refine (none_no _ (HC.out.fresh HC0.out)).mono ?_; rintro e w1 ⟨rfl, rfl⟩)
    | (go_at_call 35; refine (wire_up _ 6 f txn (by omega) hfr ht).mono ?_; rintro e w1 ⟨rfl, hc1⟩
       have HC1 := Lib.hid (HC0.out.trans' hc1)
       have HD0 := Lib.hid (hc1.at HB0.out id)
       have HD1 := Lib.hid (show Arr w1 (w.heap.size + 1) 36 (saidL 0) from hc1.at HB1.out id)
       have d2 := cell_of_block (i := 2) (hc1.at HB0.out id) rfl
       clear hc1 b0 b1 b2 b3 b4 b5))
  have hCo := HC.out.fresh HC1.out
  have e1 : w1.cell? ⟨c, 1, none⟩ = some (.map (some q)) := cell_of_block hCo.head rfl
  have e3 : w1.cell? ⟨w.heap.size, 3, none⟩ = some (.int .i64 txn) := cell_of_block HD0.out rfl
  have hlk := (hCo.mp.kept ((Chg.refl (fun _ => False) w1).drew) id).look Try.underlying71 (zero_ent _) false txn (WalkArith.wf_i64 (by omega))
  rw [HM.out] at hlk
  have hlk : (Instr.lookup 71 (.map (some q)) (.int .i64 txn) false).run Try.prog w1.drew = .ok (.pointer (some ⟨x, 0, none⟩)) w1.drew := hlk
  have HLk := Lib.hid hlk
  clear hCo hlk d2
  refine wp_region_noPanic ?_
  refine wp_region_held_drew (S := (fun w' => w'.cell? ⟨c, 1, none⟩ = some (.map (some q)) ∧ w'.cell? ⟨w.heap.size, 3, none⟩ = some (.int .i64 txn) ∧ (Instr.lookup 71 (.map (some q)) (.int .i64 txn) false).run Try.prog w' = .ok (.pointer (some ⟨x, 0, none⟩)) w')) (by kernel_rfl) (⟨e1, e3, HLk.out⟩) (fun hHeld => ?_)
  refine take_list (i := 0) (v := ?_) rfl (by kernel_rfl) (by kernel_rfl) (by kernel_rfl) (fun _ _ _ h => h) (Or.inl ⟨by rfl, fun w hSw => ?_⟩) hHeld ?_
  rotate_left
  · (obtain ⟨hSw1, hSw2, hSw3⟩ := hSw; go_simp)
    try with_reducible rfl
  simp only [Act.put, List.setIfInBounds_toArray, List.set_cons_zero, List.set_cons_succ]
  refine take_list (i := 1) (v := ?_) rfl (by kernel_rfl) (by kernel_rfl) (by kernel_rfl) (fun _ _ _ h => h) (Or.inl ⟨by rfl, fun w hSw => ?_⟩) hHeld ?_
  rotate_left
  · (obtain ⟨hSw1, hSw2, hSw3⟩ := hSw; go_simp)
    try with_reducible rfl
  simp only [Act.put, List.setIfInBounds_toArray, List.set_cons_zero, List.set_cons_succ]
  refine take_list (i := 2) (v := ?_) rfl (by kernel_rfl) (by kernel_rfl) (by kernel_rfl) (fun _ _ _ h => h) (Or.inl ⟨by rfl, fun w hSw => ?_⟩) hHeld ?_
  rotate_left
  · (obtain ⟨hSw1, hSw2, hSw3⟩ := hSw; go_simp)
    try with_reducible rfl
  simp only [Act.put, List.setIfInBounds_toArray, List.set_cons_zero, List.set_cons_succ]
  refine take_list (i := 3) (v := ?_) rfl (by kernel_rfl) (by kernel_rfl) (by kernel_rfl) (fun _ _ _ h => h) (Or.inl ⟨by rfl, fun w hSw => ?_⟩) hHeld ?_
  rotate_left
  · (obtain ⟨hSw1, hSw2, hSw3⟩ := hSw; go_simp)
    try with_reducible rfl
  simp only [Act.put, List.setIfInBounds_toArray, List.set_cons_zero, List.set_cons_succ]
  refine take_list (i := 4) (v := ?_) rfl (by kernel_rfl) (by kernel_rfl) (by kernel_rfl) (fun _ _ _ h => h) (Or.inl ⟨by rfl, fun w hSw => ?_⟩) hHeld ?_
  rotate_left
  · (obtain ⟨hSw1, hSw2, hSw3⟩ := hSw; go_simp)
    try with_reducible rfl
  simp only [Act.put, List.setIfInBounds_toArray, List.set_cons_zero, List.set_cons_succ]
  refine take_list (i := 5) (v := ?_) rfl (by kernel_rfl) (by kernel_rfl) (by kernel_rfl) (fun _ _ _ h => h) (Or.inl ⟨by rfl, fun w hSw => ?_⟩) hHeld ?_
  rotate_left
  · (obtain ⟨hSw1, hSw2, hSw3⟩ := hSw; go_simp)
    try with_reducible rfl
  simp only [Act.put, List.setIfInBounds_toArray, List.set_cons_zero, List.set_cons_succ]
  refine take_list (i := 6) (v := ?_) rfl (by kernel_rfl) (by kernel_rfl) (by kernel_rfl) (fun _ _ _ h => h) (Or.inl ⟨by rfl, fun w hSw => ?_⟩) hHeld ?_
  rotate_left
  · (obtain ⟨hSw1, hSw2, hSw3⟩ := hSw; go_simp)
    try with_reducible rfl
  simp only [Act.put, List.setIfInBounds_toArray, List.set_cons_zero, List.set_cons_succ]
  refine take_list (i := 7) (v := ?_) rfl (by kernel_rfl) (by kernel_rfl) (by kernel_rfl) (fun _ _ _ h => h) (Or.inl ⟨by rfl, fun w hSw => ?_⟩) hHeld ?_
  rotate_left
  · (obtain ⟨hSw1, hSw2, hSw3⟩ := hSw; go_simp)
    try with_reducible rfl
  simp only [Act.put, List.setIfInBounds_toArray, List.set_cons_zero, List.set_cons_succ]
  refine wpAnyH_done (by kernel_rfl) ?_ _
  refine NoPanic.normal ?_
  clear hHeld e1 e3
  have HE1 := Lib.hid (HE.out.fresh HC1.out.drew)
  have f1 : w1.cell? ⟨w.heap.size, 1, none⟩ = some (.int .i64 f) := cell_of_block HD0.out rfl
  go_wp2_with (first
    | (go_at_call 36; refine (has_any _ HE1.out f HF.out).mono ?_; rintro e w2 ⟨rfl, hc2⟩
       have hG := hc2.at (show w1.drew.heap[w.heap.size]? = _ from HD0.out) id
       have g0 := cell_of_block (i := 0) hG rfl
       have g1 := cell_of_block (i := 1) hG rfl
       have g2 := cell_of_block (i := 2) hG rfl
       have g3 := cell_of_block (i := 3) hG rfl
       have g4 := cell_of_block (i := 4) hG rfl
       have g5 := cell_of_block (i := 5) hG rfl
       have HE2 := Lib.hid (HE1.out.fresh hc2)
       have s0 : w2.cell? ⟨x, 0, none⟩ = some (.int .i64 3) := by
         have := cell_of_block (i := 0) HE2.out.head rfl
         rw [HS.out] at this; exact this
       have HQ1 := Lib.hid (show Arr w2 (w.heap.size + 1) 36 (saidL 0) from hc2.at (show w1.drew.heap[w.heap.size + 1]? = _ from HD1.out) id)
       have HC2 := Lib.hid (HC1.out.drew.trans' hc2)
       clear hc2 hG f1)
    | (go_at_call 37; refine (back_any _ _ 3 f txn g1 g3).mono ?_; rintro e w3 ⟨gm, rfl, hgm, hgb, hc3⟩
       have HSt := Lib.hid (said_to (hc3.at HQ1.out id) rfl (saidMl gm) rfl (one_saidM _))
       have HGm := Lib.hid hgm
       have HGb := Lib.hid hgb
       have HC3 := Lib.hid (HC2.out.trans' hc3)
       have HW2 := Lib.hid HC2.out.size
       have hlt2 : w.heap.size + 1 < w2.heap.size := lt_of_block HQ1.out
       have HL2 := Lib.hid hlt2
       unfold saidM
       clear hgm hgb hc3 hlt2)
    | (refine wpList_store_mid rfl 36 _ _ rfl (w.heap.size + 1) 0 (saidMl gm).toArray rfl rfl HSt.out.there HSt.out.size HSt.out.one ?_; rw [List.toList_toArray]))
  (try simp only [Exit.inBlock, Exit.then])
  refine bodyPost_ret (result1 rfl _ rfl HSt.out.load) rfl ?_
  exact ⟨gm, rfl, HSt.out.chg.at HGb.out (fun e => by have := HGm.out; have := HL2.out; omega), HC3.out.new HSt.out.chg (fun k e => by omega)⟩

theorem CoIs.cq (h : CoIs w c F lim m q) : c ≠ q := fun e => by
  obtain ⟨es, clock, hb, _⟩ := h.mp
  have h1 := h.head
  rw [e, hb] at h1
  cases h1

set_option maxHeartbeats 1000000 in
theorem ack_any (w : World) (hC : CoIs w c Fc lim m q) (hE : EntIs w x F E pv qa) (f txn : Int) (hs : E.state = 3) (hf : f ∈ E.ps) (ht : 1 ≤ txn ∧ txn ≤ 1099511627776) (hap : ∀ k, F k → ¬ Fc k) :
    Calls Try.prog 38 #[ptrV c, ptrV x, .agg (msgC 5 f 0 txn false).toArray] w fun e w' => e = .returned (saidC (if lacksOf (E.yes f) E.ps.length = [] then txn else 0)) ∧ EntIs w' x F (E.yes f) pv qa ∧ CoIs w' c Fc lim (if lacksOf (E.yes f) E.ps.length = [] then mdel m txn else m) q ∧ Chg (fun k => F k ∨ Fc k) w w' := by
  have H := Lib.hid hE
  have HCo := Lib.hid hC
  have HA := Lib.hid hap
  have hfr := hE.ok f hf
  have s3 : w.cell? ⟨x, 0, none⟩ = some (.int .i64 3) := by rw [← hs]; exact cell_of_block hE.head rfl
  have hs0 : ((w.alloc (.cells #[.int .i64 5, .int .i64 f, .int .i64 0, .int .i64 txn, .bool false, .slice none 0 0] 24)).alloc (.cells #[.slice none 0 0, .int .i64 0, .int .i64 0, .int .i64 0] 36)).cell? ⟨x, 0, none⟩ = some (.int .i64 3) := (((Chg.refl (fun _ => False) w).alloc _).alloc _).cell s3 id
  clear hE hC hf hap hs
  obtain ⟨lg, hlg⟩ : ∃ lg, (if lacksOf (E.yes f) E.ps.length = [] then txn else 0) = lg := ⟨_, rfl⟩
  obtain ⟨m', hm'⟩ : ∃ m', (if lacksOf (E.yes f) E.ps.length = [] then mdel m txn else m) = m' := ⟨_, rfl⟩
  rw [hlg, hm']
  have HLg := Lib.hid hlg
  have HM' := Lib.hid hm'
  clear hlg hm'
  unfold msgC ptrV
  go_enter Try.func38, Try.ntmps38
  go_wp2_with fail
  clear s3 hs0
  obtain ⟨w0, hw0⟩ : ∃ w0, (w.alloc (.cells #[.int .i64 5, .int .i64 f, .int .i64 0, .int .i64 txn, .bool false, .slice none 0 0] 24)).alloc (.cells #[.slice none 0 0, .int .i64 0, .int .i64 0, .int .i64 0] 36) = w0 := ⟨_, rfl⟩
  rw [hw0]
  have hb0 : w0.heap[w.heap.size]? = some (.cells #[.int .i64 5, .int .i64 f, .int .i64 0, .int .i64 txn, .bool false, .slice none 0 0] 24 (0, 0)) := by
    subst hw0; simp only [heap_alloc_get, World.size_alloc]; rw [if_neg (by omega), if_pos trivial]
  have hb1 : w0.heap[w.heap.size + 1]? = some (.cells #[.slice none 0 0, .int .i64 0, .int .i64 0, .int .i64 0] 36 (0, 0)) := by
    subst hw0; simp only [heap_alloc_get, World.size_alloc]; rw [if_pos trivial]
  have hc0 : Chg (fun _ => False) w w0 := by subst hw0; exact ((Chg.refl _ _).alloc _).alloc _
  clear hw0
  have hE0 := H.out.fresh hc0.drew
  have hCo0 := HCo.out.fresh hc0.drew
  have hxlt := H.out.lt x H.out.fr
  have hqlt := H.out.lt qa H.out.fq
  obtain ⟨ob, hup, hmq⟩ := hE0.ans.put Try.underlying84 f (WalkArith.wf_i64 (by omega)) true
  have hup : (Instr.mapUpdate 84 (.map (some qa)) (.int .i64 f) (.bool true)).run Try.prog w0.drew = .ok () (setBlock w0.drew qa ob) := hup
  have hcq : Chg (· = qa) w0.drew (setBlock w0.drew qa ob) := Chg.setBlock (S := (· = qa)) (Chg.refl _ _) (fun _ => rfl) _
  have hE1 : EntIs (setBlock w0.drew qa ob) x F (E.yes f) pv qa := hE0.putAns hmq hcq
  obtain ⟨w1, hw1⟩ : ∃ w1, setBlock w0.drew qa ob = w1 := ⟨_, rfl⟩
  rw [hw1] at hup hcq hE1
  have hd0 := hcq.at hb0 (by omega)
  have hd1 := hcq.at hb1 (by omega)
  have e3 : w0.cell? ⟨x, 3, none⟩ = some (.map (some qa)) := cell_of_block hE0.head rfl
  have e1 : w0.cell? ⟨w.heap.size, 1, none⟩ = some (.int .i64 f) := cell_of_block hb0 rfl
  have f3 : w1.cell? ⟨x, 3, none⟩ = some (.map (some qa)) := cell_of_block hE1.head rfl
  have f1 : w1.cell? ⟨w.heap.size, 1, none⟩ = some (.int .i64 f) := cell_of_block hd0 rfl
  have HE1 := Lib.hid hE1
  have HD0 := Lib.hid hd0
  have HD1 := Lib.hid hd1
  have HC1 := Lib.hid ((hc0.drew.mono (fun _ _ h => h.elim) : Chg F w w0.drew).trans' (hcq.mono (fun k _ e => by rw [e]; exact H.out.fq)))
  have HCo1 := Lib.hid (hCo0.kept hcq (fun k hk e => HA.out k (by rw [e]; exact H.out.fq) hk))
  clear hCo0
  clear hb0 hb1 hc0 hE0 hmq hcq hE1 hd0 hd1 hw1
  refine wp_region_noPanic ?_
  refine wp_region_held_drew (S := (fun w' => w'.cell? ⟨x, 3, none⟩ = some (.map (some qa)) ∧ w'.cell? ⟨w.heap.size, 1, none⟩ = some (.int .i64 f))) (by kernel_rfl) (⟨e3, e1⟩) (fun hHeld => ?_)
  refine take_list (i := 0) (v := ?_) rfl (by kernel_rfl) (by kernel_rfl) (by kernel_rfl) (fun _ _ _ h => h) (Or.inl ⟨by rfl, fun w hSw => ?_⟩) hHeld ?_
  rotate_left
  · (obtain ⟨hSw1, hSw2⟩ := hSw; go_simp)
    try with_reducible rfl
  simp only [Act.put, List.setIfInBounds_toArray, List.set_cons_zero, List.set_cons_succ]
  refine take_list (i := 1) (v := ?_) rfl (by kernel_rfl) (by kernel_rfl) (by kernel_rfl) (fun _ _ _ h => h) (Or.inl ⟨by rfl, fun w hSw => ?_⟩) hHeld ?_
  rotate_left
  · (obtain ⟨hSw1, hSw2⟩ := hSw; go_simp)
    try with_reducible rfl
  simp only [Act.put, List.setIfInBounds_toArray, List.set_cons_zero, List.set_cons_succ]
  refine take_list (i := 2) (v := ?_) rfl (by kernel_rfl) (by kernel_rfl) (by kernel_rfl) (fun _ _ _ h => h) (Or.inl ⟨by rfl, fun w hSw => ?_⟩) hHeld ?_
  rotate_left
  · (obtain ⟨hSw1, hSw2⟩ := hSw; go_simp)
    try with_reducible rfl
  simp only [Act.put, List.setIfInBounds_toArray, List.set_cons_zero, List.set_cons_succ]
  refine take_list (i := 3) (v := ?_) rfl (by kernel_rfl) (by kernel_rfl) (by kernel_rfl) (fun _ _ _ h => h) (Or.inl ⟨by rfl, fun w hSw => ?_⟩) hHeld ?_
  rotate_left
  · (obtain ⟨hSw1, hSw2⟩ := hSw; go_simp)
    try with_reducible rfl
  simp only [Act.put, List.setIfInBounds_toArray, List.set_cons_zero, List.set_cons_succ]
  refine take_list (i := 4) (v := ?_) rfl (by kernel_rfl) (by kernel_rfl) (by kernel_rfl) (fun _ _ _ h => h) (Or.inl ⟨by rfl, fun w hSw => ?_⟩) hHeld ?_
  rotate_left
  · (obtain ⟨hSw1, hSw2⟩ := hSw; go_simp)
    try with_reducible rfl
  simp only [Act.put, List.setIfInBounds_toArray, List.set_cons_zero, List.set_cons_succ]
  refine take_list (i := 5) (v := ?_) rfl (by kernel_rfl) (by kernel_rfl) (by kernel_rfl) (fun _ _ _ h => h) (Or.inl ⟨by rfl, fun w hSw => ?_⟩) hHeld ?_
  rotate_left
  · (obtain ⟨hSw1, hSw2⟩ := hSw; go_simp)
    try with_reducible rfl
  simp only [Act.put, List.setIfInBounds_toArray, List.set_cons_zero, List.set_cons_succ]
  refine wpAnyH_ready (rs := [6]) (by kernel_rfl) (by simp) (one_list (i := 6) rfl (by rfl) (fun K hK => ?_) AllReadyH.nil)
  refine oper_put _ _ _ _ rfl rfl rfl rfl hup ?_
  refine hK _ _ (⟨f3, f1⟩) (fun hH2 => ?_)
  try simp only [Act.put, List.setIfInBounds_toArray, List.set_cons_zero, List.set_cons_succ]
  refine wpAnyH_done (by kernel_rfl) ?_ _
  refine NoPanic.normal ?_
  clear hHeld hH2
  have g1 : w1.cell? ⟨w.heap.size, 1, none⟩ = some (.int .i64 f) := cell_of_block HD0.out rfl
  clear g1
  by_cases hl : lacksOf (E.yes f) E.ps.length = []
  · have hl0 : ¬ (0 : Int) < ((lacksOf (E.yes f) (E.yes f).ps.length).length : Int) := by rw [show (E.yes f).ps = E.ps from rfl, hl]; simp
    have hlt : lg = txn := by rw [← HLg.out, if_pos hl]
    have hmt : m' = mdel m txn := by rw [← HM'.out, if_pos hl]
    have HMt := Lib.hid hmt
    clear hl hmt
    go_wp2_with (first
      | (go_at_call 44; refine (lacks_any _ HE1.out).mono ?_; rintro e w2 ⟨v, rfl, ⟨oa, cap, rfl⟩, hc2⟩
         have hCo2 := HCo1.out.fresh hc2.drew
         obtain ⟨ob2, hdl, hmd⟩ := hCo2.mp.del Try.underlying71 txn (WalkArith.wf_i64 (by omega)) 0
         have hcd : Chg (· = q) w2.drew (setBlock w2.drew q ob2) := Chg.setBlock (S := (· = q)) (Chg.refl _ _) (fun _ => rfl) _
         have hq0 := hc2.at HD0.out id
         have hq1 := hc2.at HD1.out id
         have hqlt : q < w.heap.size := HCo.out.lt q HCo.out.fq
         have k1 : w2.cell? ⟨c, 1, none⟩ = some (.map (some q)) := cell_of_block hCo2.head rfl
         have k3 : w2.cell? ⟨w.heap.size, 3, none⟩ = some (.int .i64 txn) := cell_of_block hq0 rfl
         obtain ⟨w4, hw4⟩ : ∃ w4, setBlock w2.drew q ob2 = w4 := ⟨_, rfl⟩
         rw [hw4] at hdl hmd hcd
         have hh4 := hcd.at hCo2.head hCo2.cq
         have j1 : w4.cell? ⟨c, 1, none⟩ = some (.map (some q)) := cell_of_block hh4 rfl
         have j3 : w4.cell? ⟨w.heap.size, 3, none⟩ = some (.int .i64 txn) := cell_of_block (hcd.at hq0 (by omega)) rfl
         have HCo4 := Lib.hid (show CoIs w4 c Fc lim (mdel m txn) q from ⟨hh4, hmd, hCo2.fc, hCo2.fq, fun k hk => Nat.lt_of_lt_of_le (hCo2.lt k hk) hcd.size⟩)
         have HE4 := Lib.hid ((HE1.out.fresh hc2.drew).kept hcd (fun k hk e => HA.out k hk (by rw [e]; exact HCo.out.fq)))
         have HSt := Lib.hid (said_to (hcd.at hq1 (by omega)) rfl (saidCl lg) rfl (one_saidC _))
         have HDl := Lib.hid hdl
         have HC2 := Lib.hid ((HC1.out.mono (fun _ _ h => Or.inl h) : Chg (fun k => F k ∨ Fc k) w w1).trans' (hc2.mono (fun _ _ h => h.elim)))
         have HCd := Lib.hid hcd
         clear hc2 hCo2 hdl hmd hcd hq0 hq1 hw4 hh4))
    refine wp_region_noPanic ?_
    refine wp_region_held_drew (S := (fun w' => w'.cell? ⟨c, 1, none⟩ = some (.map (some q)) ∧ w'.cell? ⟨w.heap.size, 3, none⟩ = some (.int .i64 txn))) (by kernel_rfl) (⟨k1, k3⟩) (fun hHeld3 => ?_)
    refine take_list (i := 0) (v := ?_) rfl (by kernel_rfl) (by kernel_rfl) (by kernel_rfl) (fun _ _ _ h => h) (Or.inl ⟨by rfl, fun w hSw => ?_⟩) hHeld3 ?_
    rotate_left
    · (obtain ⟨hSw1, hSw2⟩ := hSw; go_simp)
      try with_reducible rfl
    simp only [Act.put, List.setIfInBounds_toArray, List.set_cons_zero, List.set_cons_succ]
    refine take_list (i := 1) (v := ?_) rfl (by kernel_rfl) (by kernel_rfl) (by kernel_rfl) (fun _ _ _ h => h) (Or.inl ⟨by rfl, fun w hSw => ?_⟩) hHeld3 ?_
    rotate_left
    · (obtain ⟨hSw1, hSw2⟩ := hSw; go_simp)
      try with_reducible rfl
    simp only [Act.put, List.setIfInBounds_toArray, List.set_cons_zero, List.set_cons_succ]
    refine take_list (i := 2) (v := ?_) rfl (by kernel_rfl) (by kernel_rfl) (by kernel_rfl) (fun _ _ _ h => h) (Or.inl ⟨by rfl, fun w hSw => ?_⟩) hHeld3 ?_
    rotate_left
    · (obtain ⟨hSw1, hSw2⟩ := hSw; go_simp)
      try with_reducible rfl
    simp only [Act.put, List.setIfInBounds_toArray, List.set_cons_zero, List.set_cons_succ]
    refine take_list (i := 3) (v := ?_) rfl (by kernel_rfl) (by kernel_rfl) (by kernel_rfl) (fun _ _ _ h => h) (Or.inl ⟨by rfl, fun w hSw => ?_⟩) hHeld3 ?_
    rotate_left
    · (obtain ⟨hSw1, hSw2⟩ := hSw; go_simp)
      try with_reducible rfl
    simp only [Act.put, List.setIfInBounds_toArray, List.set_cons_zero, List.set_cons_succ]
    refine take_list (i := 4) (v := ?_) rfl (by kernel_rfl) (by kernel_rfl) (by kernel_rfl) (fun _ _ _ h => h) (Or.inl ⟨by rfl, fun w hSw => ?_⟩) hHeld3 ?_
    rotate_left
    · (obtain ⟨hSw1, hSw2⟩ := hSw; go_simp)
      try with_reducible rfl
    simp only [Act.put, List.setIfInBounds_toArray, List.set_cons_zero, List.set_cons_succ]
    refine take_list (i := 5) (v := ?_) rfl (by kernel_rfl) (by kernel_rfl) (by kernel_rfl) (fun _ _ _ h => h) (Or.inl ⟨by rfl, fun w hSw => ?_⟩) hHeld3 ?_
    rotate_left
    · (obtain ⟨hSw1, hSw2⟩ := hSw; go_simp)
      try with_reducible rfl
    simp only [Act.put, List.setIfInBounds_toArray, List.set_cons_zero, List.set_cons_succ]
    refine wpAnyH_ready (rs := [6]) (by kernel_rfl) (by simp) (one_list (i := 6) rfl (by rfl) (fun K hK => ?_) AllReadyH.nil)
    refine oper_delete _ _ _ _ rfl rfl rfl HDl.out ?_
    refine hK _ _ (⟨j1, j3⟩) (fun hH4 => ?_)
    try simp only [Act.put, List.setIfInBounds_toArray, List.set_cons_zero, List.set_cons_succ]
    refine wpAnyH_done (by kernel_rfl) ?_ _
    refine NoPanic.normal ?_
    clear hHeld3 hH4
    go_wp2_with (refine wpList_store_mid rfl 36 _ _ rfl (w.heap.size + 1) 0 (saidCl lg).toArray rfl (by rw [hlt]; rfl) HSt.out.there HSt.out.size HSt.out.one ?_; rw [List.toList_toArray])
    (try simp only [Exit.inBlock, Exit.then])
    refine bodyPost_ret (result1 rfl _ rfl HSt.out.load) rfl ?_
    have hns : ∀ k, k < w.heap.size → ¬ k = w.heap.size + 1 := fun k hk e => by omega
    refine ⟨rfl, HE4.out.kept HSt.out.chg (fun k hk => hns k (H.out.lt k hk)), ?_, ((HC2.out.drew).trans' (HCd.out.mono (fun k _ e => Or.inr (by rw [e]; exact HCo.out.fq)))).trans HSt.out.chg (fun k hk e => (hns k hk e).elim)⟩
    rw [HMt.out]
    exact HCo4.out.kept HSt.out.chg (fun k hk => hns k (HCo.out.lt k hk))
  · have hne : 0 < (lacksOf (E.yes f) E.ps.length).length := List.length_pos_iff.2 hl
    have hl0 : (0 : Int) < ((lacksOf (E.yes f) (E.yes f).ps.length).length : Int) := by rw [show (E.yes f).ps = E.ps from rfl]; omega
    have hlt : lg = 0 := by rw [← HLg.out, if_neg hl]
    have hmt : m' = m := by rw [← HM'.out, if_neg hl]
    have HMt := Lib.hid hmt
    clear hl hne hmt
    go_wp2_with (first
      | (go_at_call 44; refine (lacks_any _ HE1.out).mono ?_; rintro e w2 ⟨v, rfl, ⟨oa, cap, rfl⟩, hc2⟩
         have HE3 := Lib.hid (HE1.out.fresh hc2)
         have HCo3 := Lib.hid (HCo1.out.fresh hc2)
         have HSt := Lib.hid (said_to (hc2.at HD1.out id) rfl (saidCl lg) rfl (one_saidC _))
         have HC2 := Lib.hid ((HC1.out.mono (fun _ _ h => Or.inl h) : Chg (fun k => F k ∨ Fc k) w w1).trans' (hc2.mono (fun _ _ h => h.elim)))
         clear hc2)
      | (refine wpList_store_mid rfl 36 _ _ rfl (w.heap.size + 1) 0 (saidCl lg).toArray rfl (by rw [hlt]; rfl) HSt.out.there HSt.out.size HSt.out.one ?_; rw [List.toList_toArray]))
    (try simp only [Exit.inBlock, Exit.then])
    refine bodyPost_ret (result1 rfl _ rfl HSt.out.load) rfl ?_
    have hns : ∀ k, k < w.heap.size → ¬ k = w.heap.size + 1 := fun k hk e => by omega
    refine ⟨rfl, HE3.out.kept HSt.out.chg (fun k hk => hns k (H.out.lt k hk)), ?_, HC2.out.trans HSt.out.chg (fun k hk e => (hns k hk e).elim)⟩
    rw [HMt.out]
    exact HCo3.out.kept HSt.out.chg (fun k hk => hns k (HCo.out.lt k hk))


set_option maxHeartbeats 1000000 in
theorem take_ack (w : World) (hC : CoIs w c Fc lim m q) (hE : EntIs w x F E pv qa) (f txn : Int) (hm : mget m txn = some x) (hs : E.state = 3) (hf : f ∈ E.ps) (ht : 1 ≤ txn ∧ txn ≤ 1099511627776) (hap : ∀ k, F k → ¬ Fc k) :
    Calls Try.prog 13 #[ptrV c, .agg (msgC 5 f 0 txn false).toArray] w fun e w' => e = .returned (saidC (if lacksOf (E.yes f) E.ps.length = [] then txn else 0)) ∧ EntIs w' x F (E.yes f) pv qa ∧ CoIs w' c Fc lim (if lacksOf (E.yes f) E.ps.length = [] then mdel m txn else m) q ∧ Chg (fun k => F k ∨ Fc k) w w' := by
  have HA := Lib.hid hap
  clear hap
  obtain ⟨lg, hlg⟩ : ∃ lg, (if lacksOf (E.yes f) E.ps.length = [] then txn else 0) = lg := ⟨_, rfl⟩
  obtain ⟨m', hm'⟩ : ∃ m', (if lacksOf (E.yes f) E.ps.length = [] then mdel m txn else m) = m' := ⟨_, rfl⟩
  rw [hlg, hm']
  have HLg := Lib.hid hlg
  have HM' := Lib.hid hm'
  clear hlg hm'
  have hmf : ∀ (fn : Fn) (first cap : Array Value) (w : World), (Instr.makeFunc fn first cap).run Try.prog w = .ok (.func fn first cap) w := fun _ _ _ _ => rfl
  have HC := Lib.hid hC
  have HE := Lib.hid hE
  have HM := Lib.hid hm
  have HS := Lib.hid hs
  have HF := Lib.hid hf
  have hfr := hE.ok f hf
  clear hC hE hm hs hf
  unfold msgC ptrV
  go_enter Try.func13, Try.ntmps13
  go_wp2_with fail
  obtain ⟨w0, hw0⟩ : ∃ w0, (w.alloc (.cells #[.int .i64 5, .int .i64 f, .int .i64 0, .int .i64 txn, .bool false, .slice none 0 0] 24)).alloc (.cells #[.slice none 0 0, .int .i64 0, .int .i64 0, .int .i64 0] 36) = w0 := ⟨_, rfl⟩
  rw [hw0]
  have hb0 : w0.heap[w.heap.size]? = some (.cells #[.int .i64 5, .int .i64 f, .int .i64 0, .int .i64 txn, .bool false, .slice none 0 0] 24 (0, 0)) := by
    subst hw0; simp only [heap_alloc_get, World.size_alloc]; rw [if_neg (by omega), if_pos trivial]
  have hb1 : Arr w0 (w.heap.size + 1) 36 (saidL 0) := by
    subst hw0; unfold Arr; simp only [heap_alloc_get, World.size_alloc]; rw [if_pos trivial]; rfl
  have hc0 : Chg (fun _ => False) w w0 := by subst hw0; exact ((Chg.refl _ _).alloc _).alloc _
  have HB0 := Lib.hid hb0
  have HB1 := Lib.hid hb1
  have HC0 := Lib.hid hc0
  clear hb0 hb1 hc0 hw0
  have b0 := cell_of_block (i := 0) HB0.out rfl
  have b1 := cell_of_block (i := 1) HB0.out rfl
  have b2 := cell_of_block (i := 2) HB0.out rfl
  have b3 := cell_of_block (i := 3) HB0.out rfl
  have b4 := cell_of_block (i := 4) HB0.out rfl
  have b5 := cell_of_block (i := 5) HB0.out rfl
  go_wp2_with (first
    | (go_at_call 34; refine (none_no _ (HC.out.fresh HC0.out)).mono ?_; rintro e w1 ⟨rfl, rfl⟩)
    | (go_at_call 35; refine (wire_up _ 5 f txn (by omega) hfr ht).mono ?_; rintro e w1 ⟨rfl, hc1⟩
       have HC1 := Lib.hid (HC0.out.trans' hc1)
       have HD0 := Lib.hid (hc1.at HB0.out id)
       have HD1 := Lib.hid (show Arr w1 (w.heap.size + 1) 36 (saidL 0) from hc1.at HB1.out id)
       have d2 := cell_of_block (i := 2) (hc1.at HB0.out id) rfl
       clear hc1 b0 b1 b2 b3 b4 b5))
  have hCo := HC.out.fresh HC1.out
  have e1 : w1.cell? ⟨c, 1, none⟩ = some (.map (some q)) := cell_of_block hCo.head rfl
  have e3 : w1.cell? ⟨w.heap.size, 3, none⟩ = some (.int .i64 txn) := cell_of_block HD0.out rfl
  have hlk := (hCo.mp.kept ((Chg.refl (fun _ => False) w1).drew) id).look Try.underlying71 (zero_ent _) false txn (WalkArith.wf_i64 (by omega))
  rw [HM.out] at hlk
  have hlk : (Instr.lookup 71 (.map (some q)) (.int .i64 txn) false).run Try.prog w1.drew = .ok (.pointer (some ⟨x, 0, none⟩)) w1.drew := hlk
  have HLk := Lib.hid hlk
  clear hCo hlk d2
  refine wp_region_noPanic ?_
  refine wp_region_held_drew (S := (fun w' => w'.cell? ⟨c, 1, none⟩ = some (.map (some q)) ∧ w'.cell? ⟨w.heap.size, 3, none⟩ = some (.int .i64 txn) ∧ (Instr.lookup 71 (.map (some q)) (.int .i64 txn) false).run Try.prog w' = .ok (.pointer (some ⟨x, 0, none⟩)) w')) (by kernel_rfl) (⟨e1, e3, HLk.out⟩) (fun hHeld => ?_)
  refine take_list (i := 0) (v := ?_) rfl (by kernel_rfl) (by kernel_rfl) (by kernel_rfl) (fun _ _ _ h => h) (Or.inl ⟨by rfl, fun w hSw => ?_⟩) hHeld ?_
  rotate_left
  · (obtain ⟨hSw1, hSw2, hSw3⟩ := hSw; go_simp)
    try with_reducible rfl
  simp only [Act.put, List.setIfInBounds_toArray, List.set_cons_zero, List.set_cons_succ]
  refine take_list (i := 1) (v := ?_) rfl (by kernel_rfl) (by kernel_rfl) (by kernel_rfl) (fun _ _ _ h => h) (Or.inl ⟨by rfl, fun w hSw => ?_⟩) hHeld ?_
  rotate_left
  · (obtain ⟨hSw1, hSw2, hSw3⟩ := hSw; go_simp)
    try with_reducible rfl
  simp only [Act.put, List.setIfInBounds_toArray, List.set_cons_zero, List.set_cons_succ]
  refine take_list (i := 2) (v := ?_) rfl (by kernel_rfl) (by kernel_rfl) (by kernel_rfl) (fun _ _ _ h => h) (Or.inl ⟨by rfl, fun w hSw => ?_⟩) hHeld ?_
  rotate_left
  · (obtain ⟨hSw1, hSw2, hSw3⟩ := hSw; go_simp)
    try with_reducible rfl
  simp only [Act.put, List.setIfInBounds_toArray, List.set_cons_zero, List.set_cons_succ]
  refine take_list (i := 3) (v := ?_) rfl (by kernel_rfl) (by kernel_rfl) (by kernel_rfl) (fun _ _ _ h => h) (Or.inl ⟨by rfl, fun w hSw => ?_⟩) hHeld ?_
  rotate_left
  · (obtain ⟨hSw1, hSw2, hSw3⟩ := hSw; go_simp)
    try with_reducible rfl
  simp only [Act.put, List.setIfInBounds_toArray, List.set_cons_zero, List.set_cons_succ]
  refine take_list (i := 4) (v := ?_) rfl (by kernel_rfl) (by kernel_rfl) (by kernel_rfl) (fun _ _ _ h => h) (Or.inl ⟨by rfl, fun w hSw => ?_⟩) hHeld ?_
  rotate_left
  · (obtain ⟨hSw1, hSw2, hSw3⟩ := hSw; go_simp)
    try with_reducible rfl
  simp only [Act.put, List.setIfInBounds_toArray, List.set_cons_zero, List.set_cons_succ]
  refine take_list (i := 5) (v := ?_) rfl (by kernel_rfl) (by kernel_rfl) (by kernel_rfl) (fun _ _ _ h => h) (Or.inl ⟨by rfl, fun w hSw => ?_⟩) hHeld ?_
  rotate_left
  · (obtain ⟨hSw1, hSw2, hSw3⟩ := hSw; go_simp)
    try with_reducible rfl
  simp only [Act.put, List.setIfInBounds_toArray, List.set_cons_zero, List.set_cons_succ]
  refine take_list (i := 6) (v := ?_) rfl (by kernel_rfl) (by kernel_rfl) (by kernel_rfl) (fun _ _ _ h => h) (Or.inl ⟨by rfl, fun w hSw => ?_⟩) hHeld ?_
  rotate_left
  · (obtain ⟨hSw1, hSw2, hSw3⟩ := hSw; go_simp)
    try with_reducible rfl
  simp only [Act.put, List.setIfInBounds_toArray, List.set_cons_zero, List.set_cons_succ]
  refine take_list (i := 7) (v := ?_) rfl (by kernel_rfl) (by kernel_rfl) (by kernel_rfl) (fun _ _ _ h => h) (Or.inl ⟨by rfl, fun w hSw => ?_⟩) hHeld ?_
  rotate_left
  · (obtain ⟨hSw1, hSw2, hSw3⟩ := hSw; go_simp)
    try with_reducible rfl
  simp only [Act.put, List.setIfInBounds_toArray, List.set_cons_zero, List.set_cons_succ]
  refine wpAnyH_done (by kernel_rfl) ?_ _
  refine NoPanic.normal ?_
  clear hHeld e1 e3
  have HE1 := Lib.hid (HE.out.fresh HC1.out.drew)
  have f1 : w1.cell? ⟨w.heap.size, 1, none⟩ = some (.int .i64 f) := cell_of_block HD0.out rfl
  go_wp2_with (first
    | (go_at_call 36; refine (has_any _ HE1.out f HF.out).mono ?_; rintro e w2 ⟨rfl, hc2⟩
       have hG := hc2.at (show w1.drew.heap[w.heap.size]? = _ from HD0.out) id
       have g0 := cell_of_block (i := 0) hG rfl
       have g1 := cell_of_block (i := 1) hG rfl
       have g2 := cell_of_block (i := 2) hG rfl
       have g3 := cell_of_block (i := 3) hG rfl
       have g4 := cell_of_block (i := 4) hG rfl
       have g5 := cell_of_block (i := 5) hG rfl
       have HE2 := Lib.hid (HE1.out.fresh hc2)
       have s0 : w2.cell? ⟨x, 0, none⟩ = some (.int .i64 3) := by
         have := cell_of_block (i := 0) HE2.out.head rfl
         rw [HS.out] at this; exact this
       have HQ1 := Lib.hid (show Arr w2 (w.heap.size + 1) 36 (saidL 0) from hc2.at (show w1.drew.heap[w.heap.size + 1]? = _ from HD1.out) id)
       have HC2 := Lib.hid (HC1.out.drew.trans' hc2)
       clear hc2 hG f1)
    | (go_at_call 38; refine (ack_any _ (HC.out.fresh HC2.out) HE2.out f txn HS.out HF.out ht HA.out).mono ?_; rw [HLg.out, HM'.out]; rintro e w3 ⟨rfl, hE3, hC3, hc3⟩
       have hq1 := hc3.at HQ1.out (fun hF => by rcases hF with hF | hF; exact absurd (HE.out.lt _ hF) (by omega); exact absurd (HC.out.lt _ hF) (by omega))
       have HSt := Lib.hid (said_to hq1 rfl (saidCl lg) rfl (one_saidC _))
       have HE3 := Lib.hid hE3
       have HCo3 := Lib.hid hC3
       have HC3 := Lib.hid hc3
       unfold saidC
       clear hE3 hC3 hc3 hq1)
    | (refine wpList_store_mid rfl 36 _ _ rfl (w.heap.size + 1) 0 (saidCl lg).toArray rfl rfl HSt.out.there HSt.out.size HSt.out.one ?_; rw [List.toList_toArray]))
  (try simp only [Exit.inBlock, Exit.then])
  refine bodyPost_ret (result1 rfl _ rfl HSt.out.load) rfl ?_
  have hns : ∀ k, k < w.heap.size → ¬ k = w.heap.size + 1 := fun k hk e => by omega
  exact ⟨rfl, HE3.out.kept HSt.out.chg (fun k hk => hns k (HE.out.lt k hk)), HCo3.out.kept HSt.out.chg (fun k hk => hns k (HC.out.lt k hk)), ((HC2.out.mono (fun _ _ h => h.elim) : Chg (fun k => F k ∨ Fc k) w w2).trans' HC3.out).trans HSt.out.chg (fun k hk e => (hns k hk e).elim)⟩

end Go.Proofs.Ytogjjkbgagedpaa.coords
