/-
  coord, of any plans: a vote against; acknowledgements.
-/
import Derived.Test.YtogjjkbgagedpaaCoGE
namespace Go.Proofs.Ytogjjkbgagedpaa.coordg
open Go.RowKit Go.Maps Go.My Go.ChangeMaps coords
set_option maxRecDepth 100000

variable {w w' : World} {c q x qa : Nat} {F F' Fc : Nat → Prop} {lim : Int} {m : List (Int × Nat)} {E : EV} {pv : Value}

theorem OwnRecs.weaken {base base' : Nat} {e : TypeId} {n : Nat} {v : Value} {l : List (List Value)} (h : OwnRecs w base e n v l) (hb : base' ≤ base) : OwnRecs w base' e n v l := by
  refine ⟨⟨h.row.1, ?_⟩, h.each⟩
  rcases h.row.2 with h1 | ⟨g, cap, cur, h1, h2, h3⟩
  · exact Or.inl h1
  · exact Or.inr ⟨g, cap, cur, h1, Nat.le_trans hb h2, h3⟩

theorem vote_closure (w : World) (g : Nat) (f r : Int) (hg : w.cell? ⟨g, 1, none⟩ = some (.int .i64 f)) :
    Calls Try.prog 60 #[.int .i64 r, .pointer (some ⟨g, 0, none⟩)] w fun e w' => e = .returned (.bool (r != f)) ∧ w = w' := by
  go_enter Try.func60, Try.ntmps60
  go_wp2_with fail
  go_ret
  exact ⟨rfl, rfl⟩

set_option maxHeartbeats 1000000 in
theorem vote_no (w : World) (hC : CoIs w c Fc lim m q) (hE : EntIs w x F E pv qa) (f txn : Int) (oa : Option Addr) (cap : Nat) (ht : 1 ≤ txn ∧ txn ≤ 1099511627776) (hap : ∀ k, F k → ¬ Fc k) :
    Calls Try.prog 39 #[ptrV c, ptrV x, .agg #[.int .i64 2, .int .i64 f, .int .i64 0, .int .i64 txn, .bool false, .slice oa 0 cap]] w fun e w' => ∃ v, e = .returned (.agg #[v, .int .i64 0, .int .i64 0, .int .i64 txn]) ∧ Msgs w' w.heap.size v 4 txn (E.ps.filter (· != f)) ∧ CoIs w' c Fc lim (mdel m txn) q ∧ Chg Fc w w' := by
  have hmf : ∀ (fn : Fn) (first cap : Array Value) (w : World), (Instr.makeFunc fn first cap).run Try.prog w = .ok (.func fn first cap) w := fun _ _ _ _ => rfl
  have H := Lib.hid hE
  have HCo := Lib.hid hC
  have HA := Lib.hid hap
  clear hE hC hap
  unfold ptrV
  go_enter Try.func39, Try.ntmps39
  go_wp2_with fail
  obtain ⟨w0, hw0⟩ : ∃ w0, (w.alloc (.cells #[.int .i64 2, .int .i64 f, .int .i64 0, .int .i64 txn, .bool false, .slice oa 0 cap] 24)).alloc (.cells #[.slice none 0 0, .int .i64 0, .int .i64 0, .int .i64 0] 36) = w0 := ⟨_, rfl⟩
  rw [hw0]
  have hb0 : w0.heap[w.heap.size]? = some (.cells #[.int .i64 2, .int .i64 f, .int .i64 0, .int .i64 txn, .bool false, .slice oa 0 cap] 24 (0, 0)) := by
    subst hw0; simp only [heap_alloc_get, World.size_alloc]; rw [if_neg (by omega), if_pos trivial]
  have hb1 : w0.heap[w.heap.size + 1]? = some (.cells #[.slice none 0 0, .int .i64 0, .int .i64 0, .int .i64 0] 36 (0, 0)) := by
    subst hw0; simp only [heap_alloc_get, World.size_alloc]; rw [if_pos trivial]
  have hc0 : Chg (fun _ => False) w w0 := by subst hw0; exact ((Chg.refl _ _).alloc _).alloc _
  have b4 : w0.cell? ⟨w.heap.size, 4, none⟩ = some (.bool false) := cell_of_block hb0 rfl
  have hCo2 := HCo.out.fresh hc0.drew
  obtain ⟨ob2, hdl, hmd⟩ := hCo2.mp.del Try.underlying71 txn (WalkArith.wf_i64 (by omega)) 0
  have hcd : Chg (· = q) w0.drew (setBlock w0.drew q ob2) := Chg.setBlock (S := (· = q)) (Chg.refl _ _) (fun _ => rfl) _
  have hqlt : q < w.heap.size := HCo.out.lt q HCo.out.fq
  have k1 : w0.cell? ⟨c, 1, none⟩ = some (.map (some q)) := cell_of_block hCo2.head rfl
  have k3 : w0.cell? ⟨w.heap.size, 3, none⟩ = some (.int .i64 txn) := cell_of_block hb0 rfl
  obtain ⟨w4, hw4⟩ : ∃ w4, setBlock w0.drew q ob2 = w4 := ⟨_, rfl⟩
  rw [hw4] at hdl hmd hcd
  have hh4 := hcd.at hCo2.head hCo2.cq
  have j1 : w4.cell? ⟨c, 1, none⟩ = some (.map (some q)) := cell_of_block hh4 rfl
  have j3 : w4.cell? ⟨w.heap.size, 3, none⟩ = some (.int .i64 txn) := cell_of_block (hcd.at (show w0.drew.heap[w.heap.size]? = _ from hb0) (by omega)) rfl
  have HCo4 := Lib.hid (show CoIs w4 c Fc lim (mdel m txn) q from ⟨hh4, hmd, hCo2.fc, hCo2.fq, fun k hk => Nat.lt_of_lt_of_le (hCo2.lt k hk) hcd.size⟩)
  have HE4 := Lib.hid ((H.out.fresh hc0.drew).kept hcd (fun k hk e => HA.out k hk (by rw [e]; exact HCo.out.fq)))
  have HDl := Lib.hid hdl
  have HC4 := Lib.hid ((hc0.drew.mono (fun _ _ h => h.elim) : Chg Fc w w0.drew).trans' (hcd.mono (fun k _ e => by rw [e]; exact HCo.out.fq)))
  have HB0 := Lib.hid (hcd.at (show w0.drew.heap[w.heap.size]? = _ from hb0) (by omega))
  have HB1 := Lib.hid (show Arr w4 (w.heap.size + 1) 36 (saidL 0) from hcd.at (show w0.drew.heap[w.heap.size + 1]? = _ from hb1) (by omega))
  clear hb0 hb1 hc0 hw0 hCo2 hdl hmd hcd hw4 hh4
  go_wp2_with fail
  refine wp_region_noPanic ?_
  refine wp_region_held_drew (S := (fun w' => w'.cell? ⟨c, 1, none⟩ = some (.map (some q)) ∧ w'.cell? ⟨w.heap.size, 3, none⟩ = some (.int .i64 txn))) (by kernel_rfl) (⟨k1, k3⟩) (fun hHeld3 => ?_)
  refine take_list (i := 0) (v := ?_) rfl (by kernel_rfl) (by kernel_rfl) (by kernel_rfl) (fun _ _ _ h => h) (Or.inl ⟨by rfl, fun w hSw => ?_⟩) hHeld3 ?_
  rotate_left
  · (obtain ⟨hSw1, hSw2⟩ := hSw; go_simp)
    try with_reducible rfl
  simp only [Act.put, List.setIfInBounds_toArray, List.set_cons_zero, List.set_cons_succ]
  refine take_list (i := 1) (v := ?_) rfl (by kernel_rfl) (by kernel_rfl) (by kernel_rfl) (fun _ _ _ h => h) (Or.inl ⟨by rfl, fun w hSw => ?_⟩) hHeld3 ?_
  rotate_left
  · (obtain ⟨hSw1, hSw2⟩ := hSw; go_simp)
    try with_reducible rfl
  simp only [Act.put, List.setIfInBounds_toArray, List.set_cons_zero, List.set_cons_succ]
  refine take_list (i := 2) (v := ?_) rfl (by kernel_rfl) (by kernel_rfl) (by kernel_rfl) (fun _ _ _ h => h) (Or.inl ⟨by rfl, fun w hSw => ?_⟩) hHeld3 ?_
  rotate_left
  · (obtain ⟨hSw1, hSw2⟩ := hSw; go_simp)
    try with_reducible rfl
  simp only [Act.put, List.setIfInBounds_toArray, List.set_cons_zero, List.set_cons_succ]
  refine take_list (i := 3) (v := ?_) rfl (by kernel_rfl) (by kernel_rfl) (by kernel_rfl) (fun _ _ _ h => h) (Or.inl ⟨by rfl, fun w hSw => ?_⟩) hHeld3 ?_
  rotate_left
  · (obtain ⟨hSw1, hSw2⟩ := hSw; go_simp)
    try with_reducible rfl
  simp only [Act.put, List.setIfInBounds_toArray, List.set_cons_zero, List.set_cons_succ]
  refine take_list (i := 4) (v := ?_) rfl (by kernel_rfl) (by kernel_rfl) (by kernel_rfl) (fun _ _ _ h => h) (Or.inl ⟨by rfl, fun w hSw => ?_⟩) hHeld3 ?_
  rotate_left
  · (obtain ⟨hSw1, hSw2⟩ := hSw; go_simp)
    try with_reducible rfl
  simp only [Act.put, List.setIfInBounds_toArray, List.set_cons_zero, List.set_cons_succ]
  refine take_list (i := 5) (v := ?_) rfl (by kernel_rfl) (by kernel_rfl) (by kernel_rfl) (fun _ _ _ h => h) (Or.inl ⟨by rfl, fun w hSw => ?_⟩) hHeld3 ?_
  rotate_left
  · (obtain ⟨hSw1, hSw2⟩ := hSw; go_simp)
    try with_reducible rfl
  simp only [Act.put, List.setIfInBounds_toArray, List.set_cons_zero, List.set_cons_succ]
  refine wpAnyH_ready (rs := [6]) (by kernel_rfl) (by simp) (one_list (i := 6) rfl (by rfl) (fun K hK => ?_) AllReadyH.nil)
  refine oper_delete _ _ _ _ rfl rfl rfl HDl.out ?_
  refine hK _ _ (⟨j1, j3⟩) (fun hH4 => ?_)
  try simp only [Act.put, List.setIfInBounds_toArray, List.set_cons_zero, List.set_cons_succ]
  refine wpAnyH_done (by kernel_rfl) ?_ _
  refine NoPanic.normal ?_
  clear hHeld3 hH4 b4 k1 k3
  have g3 : w4.cell? ⟨w.heap.size, 3, none⟩ = some (.int .i64 txn) := cell_of_block HB0.out rfl
  go_wp2_with fail
  refine wp_region_noPanic ?_
  refine wp_region_held_drew (S := (fun w' => w'.cell? ⟨w.heap.size, 3, none⟩ = some (.int .i64 txn))) (by kernel_rfl) (g3) (fun hHeld => ?_)
  refine take_list (i := 0) (v := ?_) rfl (by kernel_rfl) (by kernel_rfl) (by kernel_rfl) (fun _ _ _ h => h) (Or.inl ⟨by rfl, fun w hSw => ?_⟩) hHeld ?_
  rotate_left
  · (skip; go_simp)
    try with_reducible rfl
  simp only [Act.put, List.setIfInBounds_toArray, List.set_cons_zero, List.set_cons_succ]
  refine take_list (i := 1) (v := ?_) rfl (by kernel_rfl) (by kernel_rfl) (by kernel_rfl) (fun _ _ _ h => h) (Or.inl ⟨by rfl, fun w hSw => ?_⟩) hHeld ?_
  rotate_left
  · (skip; go_simp)
    try with_reducible rfl
  simp only [Act.put, List.setIfInBounds_toArray, List.set_cons_zero, List.set_cons_succ]
  refine take_list (i := 2) (v := ?_) rfl (by kernel_rfl) (by kernel_rfl) (by kernel_rfl) (fun _ _ _ h => h) (Or.inl ⟨by rfl, fun w hSw => ?_⟩) hHeld ?_
  rotate_left
  · (skip; go_simp)
    try with_reducible rfl
  simp only [Act.put, List.setIfInBounds_toArray, List.set_cons_zero, List.set_cons_succ]
  refine take_list (i := 3) (v := ?_) rfl (by kernel_rfl) (by kernel_rfl) (by kernel_rfl) (fun _ _ _ h => h) (Or.inl ⟨by rfl, fun w hSw => ?_⟩) hHeld ?_
  rotate_left
  · (skip; go_simp)
    try with_reducible rfl
  simp only [Act.put, List.setIfInBounds_toArray, List.set_cons_zero, List.set_cons_succ]
  refine take_list (i := 4) (v := ?_) rfl (by kernel_rfl) (by kernel_rfl) (by kernel_rfl) (fun _ _ _ h => h) (Or.inl ⟨by rfl, fun w hSw => ?_⟩) hHeld ?_
  rotate_left
  · (skip; go_simp)
    try with_reducible rfl
  simp only [Act.put, List.setIfInBounds_toArray, List.set_cons_zero, List.set_cons_succ]
  refine take_list (i := 5) (v := ?_) rfl (by kernel_rfl) (by kernel_rfl) (by kernel_rfl) (fun _ _ _ h => h) (Or.inl ⟨by rfl, fun w hSw => ?_⟩) hHeld ?_
  rotate_left
  · (skip; go_simp)
    try with_reducible rfl
  simp only [Act.put, List.setIfInBounds_toArray, List.set_cons_zero, List.set_cons_succ]
  refine wpAnyH_ready (rs := [6]) (by kernel_rfl) (by simp) (one_list (i := 6) rfl (by rfl) (fun K hK => ?_) AllReadyH.nil)
  go_simp
  refine (all_vote _ (HE4.out.fresh ((Chg.refl (fun _ => False) w4).drew)) 4 txn (· != f) (.pointer (some ⟨w.heap.size, 0, none⟩)) (fun wr hc r _ => vote_closure wr w.heap.size f r (hc.cell (show w4.drew.cell? ⟨w.heap.size, 1, none⟩ = _ from cell_of_block (show w4.drew.heap[w.heap.size]? = _ from HB0.out) rfl) id))).mono ?_
  rintro e w5 ⟨v, rfl, hm5, hc5⟩
  obtain ⟨T, ho5, hT1, hT2⟩ := hm5.is
  obtain ⟨ov, cv, hv5, -⟩ := ho5.slice
  rw [List.length_map] at hv5
  subst hv5
  have hb5 : Arr w5 (w.heap.size + 1) 36 (saidL 0) := hc5.at (show w4.drew.heap[w.heap.size + 1]? = _ from HB1.out) id
  have g5 : w5.cell? ⟨w.heap.size, 3, none⟩ = some (.int .i64 txn) := hc5.cell (show w4.drew.cell? _ = _ from g3) id
  have HSt := Lib.hid (said_to hb5 rfl [.slice ov T.length cv, .int .i64 0, .int .i64 0, .int .i64 txn] rfl (by intro v hv; simp only [List.mem_cons, List.not_mem_nil, or_false] at hv; rcases hv with rfl | rfl | rfl | rfl <;> rfl))
  have g6 : (w5.setCells (w.heap.size + 1) 0 [.slice ov T.length cv, .int .i64 0, .int .i64 0, .int .i64 txn]).cell? ⟨w.heap.size, 3, none⟩ = some (.int .i64 txn) := HSt.out.chg.cell g5 (by show ¬ w.heap.size = _; omega)
  have HO5 := Lib.hid ho5
  have HT5 := Lib.hid (And.intro hT1 hT2)
  have HC5 := Lib.hid hc5
  clear ho5 hT1 hT2 hc5 hb5
  dsimp only
  refine hK _ _ (g5) (fun hH2 => ?_)
  try simp only [Act.put, List.setIfInBounds_toArray, List.set_cons_zero, List.set_cons_succ]
  refine take_list (i := 7) (v := ?_) rfl (by kernel_rfl) (by kernel_rfl) (by kernel_rfl) (fun _ _ _ h => h) (Or.inl ⟨by rfl, fun w hSw => ?_⟩) hH2 ?_
  rotate_left
  · (skip; go_simp)
    try with_reducible rfl
  simp only [Act.put, List.setIfInBounds_toArray, List.set_cons_zero, List.set_cons_succ]
  refine wpAnyH_ready (rs := [8]) (by kernel_rfl) (by simp) (one_list (i := 8) rfl (by rfl) (fun K hK => ?_) AllReadyH.nil)
  refine wp_store_mid _ _ _ rfl (w.heap.size + 1) 0 [.slice ov T.length cv, .int .i64 0, .int .i64 0, .int .i64 txn].toArray rfl rfl HSt.out.there HSt.out.size HSt.out.one ?_
  rw [List.toList_toArray]
  refine hK _ _ (g6) (fun hH3 => ?_)
  try simp only [Act.put, List.setIfInBounds_toArray, List.set_cons_zero, List.set_cons_succ]
  refine wpAnyH_done (by kernel_rfl) ?_ _
  refine NoPanic.normal ?_
  (try simp only [Exit.inBlock, Exit.then])
  go_wp2_with fail
  refine bodyPost_ret (result1 rfl _ rfl HSt.out.load) rfl ?_
  have hns : ∀ k, k < w.heap.size → ¬ k = w.heap.size + 1 := fun k hk e => by omega
  have hs5 := HC5.out.size
  have hs4 := HC4.out.size
  have hs4' : w4.drew.heap.size = w4.heap.size := rfl
  refine ⟨_, rfl, ⟨T, OwnRecs.weaken (HO5.out.kept HSt.out.chg (fun k hk e => ?_)) (by omega), HT5.out.1, HT5.out.2⟩, (HCo4.out.fresh (((Chg.refl (fun _ => False) w4).drew).trans' HC5.out)).kept HSt.out.chg (fun k hk => hns k (HCo.out.lt k hk)), ?_⟩
  · have h1 := (HO5.out.lt hk).1
    have h2 := HB1.out.lt
    omega
  · exact ((HC4.out.drew).trans' (HC5.out.mono (fun _ _ h => h.elim))).trans HSt.out.chg (fun k hk e => (hns k hk e).elim)

set_option maxHeartbeats 1000000 in
theorem ack_yes (w : World) (hC : CoIs w c Fc lim m q) (hE : EntIs w x F E pv qa) (f txn : Int) (oa : Option Addr) (cap : Nat) (hs : E.state = 3) (hf : f ∈ E.ps) (ht : 1 ≤ txn ∧ txn ≤ 1099511627776) (hap : ∀ k, F k → ¬ Fc k) :
    Calls Try.prog 38 #[ptrV c, ptrV x, .agg #[.int .i64 5, .int .i64 f, .int .i64 0, .int .i64 txn, .bool false, .slice oa 0 cap]] w fun e w' => e = .returned (saidC (if lacksOf (E.yes f) E.ps.length = [] then txn else 0)) ∧ EntIs w' x F (E.yes f) pv qa ∧ CoIs w' c Fc lim (if lacksOf (E.yes f) E.ps.length = [] then mdel m txn else m) q ∧ Chg (fun k => F k ∨ Fc k) w w' := by
  have H := Lib.hid hE
  have HCo := Lib.hid hC
  have HA := Lib.hid hap
  have hfr := hE.ok f hf
  have s3 : w.cell? ⟨x, 0, none⟩ = some (.int .i64 3) := by rw [← hs]; exact cell_of_block hE.head rfl
  have hs0 : ((w.alloc (.cells #[.int .i64 5, .int .i64 f, .int .i64 0, .int .i64 txn, .bool false, .slice oa 0 cap] 24)).alloc (.cells #[.slice none 0 0, .int .i64 0, .int .i64 0, .int .i64 0] 36)).cell? ⟨x, 0, none⟩ = some (.int .i64 3) := (((Chg.refl (fun _ => False) w).alloc _).alloc _).cell s3 id
  clear hE hC hf hap hs
  obtain ⟨lg, hlg⟩ : ∃ lg, (if lacksOf (E.yes f) E.ps.length = [] then txn else 0) = lg := ⟨_, rfl⟩
  obtain ⟨m', hm'⟩ : ∃ m', (if lacksOf (E.yes f) E.ps.length = [] then mdel m txn else m) = m' := ⟨_, rfl⟩
  rw [hlg, hm']
  have HLg := Lib.hid hlg
  have HM' := Lib.hid hm'
  clear hlg hm'
  unfold ptrV
  go_enter Try.func38, Try.ntmps38
  go_wp2_with fail
  clear s3 hs0
  obtain ⟨w0, hw0⟩ : ∃ w0, (w.alloc (.cells #[.int .i64 5, .int .i64 f, .int .i64 0, .int .i64 txn, .bool false, .slice oa 0 cap] 24)).alloc (.cells #[.slice none 0 0, .int .i64 0, .int .i64 0, .int .i64 0] 36) = w0 := ⟨_, rfl⟩
  rw [hw0]
  have hb0 : w0.heap[w.heap.size]? = some (.cells #[.int .i64 5, .int .i64 f, .int .i64 0, .int .i64 txn, .bool false, .slice oa 0 cap] 24 (0, 0)) := by
    subst hw0; simp only [heap_alloc_get, World.size_alloc]; rw [if_neg (by omega), if_pos trivial]
  have hb1 : w0.heap[w.heap.size + 1]? = some (.cells #[.slice none 0 0, .int .i64 0, .int .i64 0, .int .i64 0] 36 (0, 0)) := by
    subst hw0; simp only [heap_alloc_get, World.size_alloc]; rw [if_pos trivial]
  have hc0 : Chg (fun _ => False) w w0 := by subst hw0; exact ((Chg.refl _ _).alloc _).alloc _
  clear hw0
  have hE0 := H.out.fresh hc0.drew
  have hCo0 := HCo.out.fresh hc0.drew
  have hxlt := H.out.lt x H.out.fr
  have hqlt := H.out.lt qa H.out.fq
  obtain ⟨ob, hup, hmq⟩ := hE0.ans.put Try.underlying84 f (WalkArith.wf_i64 (by omega)) true
  have hup : (Instr.mapUpdate 84 (.map (some qa)) (.int .i64 f) (.bool true)).run Try.prog w0.drew = .ok () (setBlock w0.drew qa ob) := hup
  have hcq : Chg (· = qa) w0.drew (setBlock w0.drew qa ob) := Chg.setBlock (S := (· = qa)) (Chg.refl _ _) (fun _ => rfl) _
  have hE1 : EntIs (setBlock w0.drew qa ob) x F (E.yes f) pv qa := hE0.putAns hmq hcq
  obtain ⟨w1, hw1⟩ : ∃ w1, setBlock w0.drew qa ob = w1 := ⟨_, rfl⟩
  rw [hw1] at hup hcq hE1
  have hd0 := hcq.at hb0 (by omega)
  have hd1 := hcq.at hb1 (by omega)
  have e3 : w0.cell? ⟨x, 3, none⟩ = some (.map (some qa)) := cell_of_block hE0.head rfl
  have e1 : w0.cell? ⟨w.heap.size, 1, none⟩ = some (.int .i64 f) := cell_of_block hb0 rfl
  have f3 : w1.cell? ⟨x, 3, none⟩ = some (.map (some qa)) := cell_of_block hE1.head rfl
  have f1 : w1.cell? ⟨w.heap.size, 1, none⟩ = some (.int .i64 f) := cell_of_block hd0 rfl
  have HE1 := Lib.hid hE1
  have HD0 := Lib.hid hd0
  have HD1 := Lib.hid hd1
  have HC1 := Lib.hid ((hc0.drew.mono (fun _ _ h => h.elim) : Chg F w w0.drew).trans' (hcq.mono (fun k _ e => by rw [e]; exact H.out.fq)))
  have HCo1 := Lib.hid (hCo0.kept hcq (fun k hk e => HA.out k (by rw [e]; exact H.out.fq) hk))
  clear hCo0
  clear hb0 hb1 hc0 hE0 hmq hcq hE1 hd0 hd1 hw1
  refine wp_region_noPanic ?_
  refine wp_region_held_drew (S := (fun w' => w'.cell? ⟨x, 3, none⟩ = some (.map (some qa)) ∧ w'.cell? ⟨w.heap.size, 1, none⟩ = some (.int .i64 f))) (by kernel_rfl) (⟨e3, e1⟩) (fun hHeld => ?_)
  refine take_list (i := 0) (v := ?_) rfl (by kernel_rfl) (by kernel_rfl) (by kernel_rfl) (fun _ _ _ h => h) (Or.inl ⟨by rfl, fun w hSw => ?_⟩) hHeld ?_
  rotate_left
  · (obtain ⟨hSw1, hSw2⟩ := hSw; go_simp)
    try with_reducible rfl
  simp only [Act.put, List.setIfInBounds_toArray, List.set_cons_zero, List.set_cons_succ]
  refine take_list (i := 1) (v := ?_) rfl (by kernel_rfl) (by kernel_rfl) (by kernel_rfl) (fun _ _ _ h => h) (Or.inl ⟨by rfl, fun w hSw => ?_⟩) hHeld ?_
  rotate_left
  · (obtain ⟨hSw1, hSw2⟩ := hSw; go_simp)
    try with_reducible rfl
  simp only [Act.put, List.setIfInBounds_toArray, List.set_cons_zero, List.set_cons_succ]
  refine take_list (i := 2) (v := ?_) rfl (by kernel_rfl) (by kernel_rfl) (by kernel_rfl) (fun _ _ _ h => h) (Or.inl ⟨by rfl, fun w hSw => ?_⟩) hHeld ?_
  rotate_left
  · (obtain ⟨hSw1, hSw2⟩ := hSw; go_simp)
    try with_reducible rfl
  simp only [Act.put, List.setIfInBounds_toArray, List.set_cons_zero, List.set_cons_succ]
  refine take_list (i := 3) (v := ?_) rfl (by kernel_rfl) (by kernel_rfl) (by kernel_rfl) (fun _ _ _ h => h) (Or.inl ⟨by rfl, fun w hSw => ?_⟩) hHeld ?_
  rotate_left
  · (obtain ⟨hSw1, hSw2⟩ := hSw; go_simp)
    try with_reducible rfl
  simp only [Act.put, List.setIfInBounds_toArray, List.set_cons_zero, List.set_cons_succ]
  refine take_list (i := 4) (v := ?_) rfl (by kernel_rfl) (by kernel_rfl) (by kernel_rfl) (fun _ _ _ h => h) (Or.inl ⟨by rfl, fun w hSw => ?_⟩) hHeld ?_
  rotate_left
  · (obtain ⟨hSw1, hSw2⟩ := hSw; go_simp)
    try with_reducible rfl
  simp only [Act.put, List.setIfInBounds_toArray, List.set_cons_zero, List.set_cons_succ]
  refine take_list (i := 5) (v := ?_) rfl (by kernel_rfl) (by kernel_rfl) (by kernel_rfl) (fun _ _ _ h => h) (Or.inl ⟨by rfl, fun w hSw => ?_⟩) hHeld ?_
  rotate_left
  · (obtain ⟨hSw1, hSw2⟩ := hSw; go_simp)
    try with_reducible rfl
  simp only [Act.put, List.setIfInBounds_toArray, List.set_cons_zero, List.set_cons_succ]
  refine wpAnyH_ready (rs := [6]) (by kernel_rfl) (by simp) (one_list (i := 6) rfl (by rfl) (fun K hK => ?_) AllReadyH.nil)
  refine oper_put _ _ _ _ rfl rfl rfl rfl hup ?_
  refine hK _ _ (⟨f3, f1⟩) (fun hH2 => ?_)
  try simp only [Act.put, List.setIfInBounds_toArray, List.set_cons_zero, List.set_cons_succ]
  refine wpAnyH_done (by kernel_rfl) ?_ _
  refine NoPanic.normal ?_
  clear hHeld hH2
  have g1 : w1.cell? ⟨w.heap.size, 1, none⟩ = some (.int .i64 f) := cell_of_block HD0.out rfl
  clear g1
  by_cases hl : lacksOf (E.yes f) E.ps.length = []
  · have hl0 : ¬ (0 : Int) < ((lacksOf (E.yes f) (E.yes f).ps.length).length : Int) := by rw [show (E.yes f).ps = E.ps from rfl, hl]; simp
    have hlt : lg = txn := by rw [← HLg.out, if_pos hl]
    have hmt : m' = mdel m txn := by rw [← HM'.out, if_pos hl]
    have HMt := Lib.hid hmt
    clear hl hmt
    go_wp2_with (first
      | (go_at_call 44; refine (lacks_any _ HE1.out).mono ?_; rintro e w2 ⟨v, rfl, ho2, hc2⟩
         obtain ⟨ol, cl, rfl⟩ := own_slice ho2
         have hCo2 := HCo1.out.fresh hc2.drew
         obtain ⟨ob2, hdl, hmd⟩ := hCo2.mp.del Try.underlying71 txn (WalkArith.wf_i64 (by omega)) 0
         have hcd : Chg (· = q) w2.drew (setBlock w2.drew q ob2) := Chg.setBlock (S := (· = q)) (Chg.refl _ _) (fun _ => rfl) _
         have hq0 := hc2.at HD0.out id
         have hq1 := hc2.at HD1.out id
         have hqlt : q < w.heap.size := HCo.out.lt q HCo.out.fq
         have k1 : w2.cell? ⟨c, 1, none⟩ = some (.map (some q)) := cell_of_block hCo2.head rfl
         have k3 : w2.cell? ⟨w.heap.size, 3, none⟩ = some (.int .i64 txn) := cell_of_block hq0 rfl
         obtain ⟨w4, hw4⟩ : ∃ w4, setBlock w2.drew q ob2 = w4 := ⟨_, rfl⟩
         rw [hw4] at hdl hmd hcd
         have hh4 := hcd.at hCo2.head hCo2.cq
         have j1 : w4.cell? ⟨c, 1, none⟩ = some (.map (some q)) := cell_of_block hh4 rfl
         have j3 : w4.cell? ⟨w.heap.size, 3, none⟩ = some (.int .i64 txn) := cell_of_block (hcd.at hq0 (by omega)) rfl
         have HCo4 := Lib.hid (show CoIs w4 c Fc lim (mdel m txn) q from ⟨hh4, hmd, hCo2.fc, hCo2.fq, fun k hk => Nat.lt_of_lt_of_le (hCo2.lt k hk) hcd.size⟩)
         have HE4 := Lib.hid ((HE1.out.fresh hc2.drew).kept hcd (fun k hk e => HA.out k hk (by rw [e]; exact HCo.out.fq)))
         have HSt := Lib.hid (said_to (hcd.at hq1 (by omega)) rfl (saidCl lg) rfl (one_saidC _))
         have HDl := Lib.hid hdl
         have HC2 := Lib.hid ((HC1.out.mono (fun _ _ h => Or.inl h) : Chg (fun k => F k ∨ Fc k) w w1).trans' (hc2.mono (fun _ _ h => h.elim)))
         have HCd := Lib.hid hcd
         clear hc2 hCo2 hdl hmd hcd hq0 hq1 hw4 hh4))
    refine wp_region_noPanic ?_
    refine wp_region_held_drew (S := (fun w' => w'.cell? ⟨c, 1, none⟩ = some (.map (some q)) ∧ w'.cell? ⟨w.heap.size, 3, none⟩ = some (.int .i64 txn))) (by kernel_rfl) (⟨k1, k3⟩) (fun hHeld3 => ?_)
    refine take_list (i := 0) (v := ?_) rfl (by kernel_rfl) (by kernel_rfl) (by kernel_rfl) (fun _ _ _ h => h) (Or.inl ⟨by rfl, fun w hSw => ?_⟩) hHeld3 ?_
    rotate_left
    · (obtain ⟨hSw1, hSw2⟩ := hSw; go_simp)
      try with_reducible rfl
    simp only [Act.put, List.setIfInBounds_toArray, List.set_cons_zero, List.set_cons_succ]
    refine take_list (i := 1) (v := ?_) rfl (by kernel_rfl) (by kernel_rfl) (by kernel_rfl) (fun _ _ _ h => h) (Or.inl ⟨by rfl, fun w hSw => ?_⟩) hHeld3 ?_
    rotate_left
    · (obtain ⟨hSw1, hSw2⟩ := hSw; go_simp)
      try with_reducible rfl
    simp only [Act.put, List.setIfInBounds_toArray, List.set_cons_zero, List.set_cons_succ]
    refine take_list (i := 2) (v := ?_) rfl (by kernel_rfl) (by kernel_rfl) (by kernel_rfl) (fun _ _ _ h => h) (Or.inl ⟨by rfl, fun w hSw => ?_⟩) hHeld3 ?_
    rotate_left
    · (obtain ⟨hSw1, hSw2⟩ := hSw; go_simp)
      try with_reducible rfl
    simp only [Act.put, List.setIfInBounds_toArray, List.set_cons_zero, List.set_cons_succ]
    refine take_list (i := 3) (v := ?_) rfl (by kernel_rfl) (by kernel_rfl) (by kernel_rfl) (fun _ _ _ h => h) (Or.inl ⟨by rfl, fun w hSw => ?_⟩) hHeld3 ?_
    rotate_left
    · (obtain ⟨hSw1, hSw2⟩ := hSw; go_simp)
      try with_reducible rfl
    simp only [Act.put, List.setIfInBounds_toArray, List.set_cons_zero, List.set_cons_succ]
    refine take_list (i := 4) (v := ?_) rfl (by kernel_rfl) (by kernel_rfl) (by kernel_rfl) (fun _ _ _ h => h) (Or.inl ⟨by rfl, fun w hSw => ?_⟩) hHeld3 ?_
    rotate_left
    · (obtain ⟨hSw1, hSw2⟩ := hSw; go_simp)
      try with_reducible rfl
    simp only [Act.put, List.setIfInBounds_toArray, List.set_cons_zero, List.set_cons_succ]
    refine take_list (i := 5) (v := ?_) rfl (by kernel_rfl) (by kernel_rfl) (by kernel_rfl) (fun _ _ _ h => h) (Or.inl ⟨by rfl, fun w hSw => ?_⟩) hHeld3 ?_
    rotate_left
    · (obtain ⟨hSw1, hSw2⟩ := hSw; go_simp)
      try with_reducible rfl
    simp only [Act.put, List.setIfInBounds_toArray, List.set_cons_zero, List.set_cons_succ]
    refine wpAnyH_ready (rs := [6]) (by kernel_rfl) (by simp) (one_list (i := 6) rfl (by rfl) (fun K hK => ?_) AllReadyH.nil)
    refine oper_delete _ _ _ _ rfl rfl rfl HDl.out ?_
    refine hK _ _ (⟨j1, j3⟩) (fun hH4 => ?_)
    try simp only [Act.put, List.setIfInBounds_toArray, List.set_cons_zero, List.set_cons_succ]
    refine wpAnyH_done (by kernel_rfl) ?_ _
    refine NoPanic.normal ?_
    clear hHeld3 hH4
    go_wp2_with (refine wpList_store_mid rfl 36 _ _ rfl (w.heap.size + 1) 0 (saidCl lg).toArray rfl (by rw [hlt]; rfl) HSt.out.there HSt.out.size HSt.out.one ?_; rw [List.toList_toArray])
    (try simp only [Exit.inBlock, Exit.then])
    refine bodyPost_ret (result1 rfl _ rfl HSt.out.load) rfl ?_
    have hns : ∀ k, k < w.heap.size → ¬ k = w.heap.size + 1 := fun k hk e => by omega
    refine ⟨rfl, HE4.out.kept HSt.out.chg (fun k hk => hns k (H.out.lt k hk)), ?_, ((HC2.out.drew).trans' (HCd.out.mono (fun k _ e => Or.inr (by rw [e]; exact HCo.out.fq)))).trans HSt.out.chg (fun k hk e => (hns k hk e).elim)⟩
    rw [HMt.out]
    exact HCo4.out.kept HSt.out.chg (fun k hk => hns k (HCo.out.lt k hk))
  · have hne : 0 < (lacksOf (E.yes f) E.ps.length).length := List.length_pos_iff.2 hl
    have hl0 : (0 : Int) < ((lacksOf (E.yes f) (E.yes f).ps.length).length : Int) := by rw [show (E.yes f).ps = E.ps from rfl]; omega
    have hlt : lg = 0 := by rw [← HLg.out, if_neg hl]
    have hmt : m' = m := by rw [← HM'.out, if_neg hl]
    have HMt := Lib.hid hmt
    clear hl hne hmt
    go_wp2_with (first
      | (go_at_call 44; refine (lacks_any _ HE1.out).mono ?_; rintro e w2 ⟨v, rfl, ho2, hc2⟩
         obtain ⟨ol, cl, rfl⟩ := own_slice ho2
         have HE3 := Lib.hid (HE1.out.fresh hc2)
         have HCo3 := Lib.hid (HCo1.out.fresh hc2)
         have HSt := Lib.hid (said_to (hc2.at HD1.out id) rfl (saidCl lg) rfl (one_saidC _))
         have HC2 := Lib.hid ((HC1.out.mono (fun _ _ h => Or.inl h) : Chg (fun k => F k ∨ Fc k) w w1).trans' (hc2.mono (fun _ _ h => h.elim)))
         clear hc2)
      | (refine wpList_store_mid rfl 36 _ _ rfl (w.heap.size + 1) 0 (saidCl lg).toArray rfl (by rw [hlt]; rfl) HSt.out.there HSt.out.size HSt.out.one ?_; rw [List.toList_toArray]))
    (try simp only [Exit.inBlock, Exit.then])
    refine bodyPost_ret (result1 rfl _ rfl HSt.out.load) rfl ?_
    have hns : ∀ k, k < w.heap.size → ¬ k = w.heap.size + 1 := fun k hk e => by omega
    refine ⟨rfl, HE3.out.kept HSt.out.chg (fun k hk => hns k (H.out.lt k hk)), ?_, HC2.out.trans HSt.out.chg (fun k hk e => (hns k hk e).elim)⟩
    rw [HMt.out]
    exact HCo3.out.kept HSt.out.chg (fun k hk => hns k (HCo.out.lt k hk))



theorem ack_other (w : World) (h : EntIs w x F E pv qa) (cv : Value) (f tx : Int) (oa : Option Addr) (cap : Nat) (hs : E.state ≠ 3) :
    Calls Try.prog 38 #[cv, ptrV x, .agg #[.int .i64 5, .int .i64 f, .int .i64 0, .int .i64 tx, .bool false, .slice oa 0 cap]] w fun e w' => e = .returned (saidC 0) ∧ Chg (fun _ => False) w w' := by
  have hsb : (E.state == 3) = false := by simp [hs]
  have s0 : ((w.alloc (.cells #[.int .i64 5, .int .i64 f, .int .i64 0, .int .i64 tx, .bool false, .slice oa 0 cap] 24)).alloc (.cells #[.slice none 0 0, .int .i64 0, .int .i64 0, .int .i64 0] 36)).cell? ⟨x, 0, none⟩ = some (.int .i64 E.state) := cell_of_block ((((Chg.refl (fun _ => False) w).alloc _).alloc _).at h.head id) rfl
  clear h
  unfold ptrV
  go_enter Try.func38, Try.ntmps38
  go_wp2_with fail
  obtain ⟨w0, hw0⟩ : ∃ w0, (w.alloc (.cells #[.int .i64 5, .int .i64 f, .int .i64 0, .int .i64 tx, .bool false, .slice oa 0 cap] 24)).alloc (.cells #[.slice none 0 0, .int .i64 0, .int .i64 0, .int .i64 0] 36) = w0 := ⟨_, rfl⟩
  rw [hw0]
  have hb1 : Arr w0 (w.heap.size + 1) 36 (saidL 0) := by
    subst hw0; unfold Arr; simp only [heap_alloc_get, World.size_alloc]; rw [if_pos trivial]; rfl
  have hc0 : Chg (fun _ => False) w w0 := by subst hw0; exact ((Chg.refl _ _).alloc _).alloc _
  have HB1 := Lib.hid (show Arr w0 (w.heap.size + 1) 36 (saidCl 0) from hb1)
  have HC0 := Lib.hid hc0
  clear hb1 hc0 hw0
  refine bodyPost_ret (result1 rfl _ rfl (run_loadVar_mid (P := Try.prog) _ (w.heap.size + 1) 0 36 (saidCl 0) _ HB1.out.range Try.underlying36 rfl size_said)) rfl ?_
  exact ⟨rfl, HC0.out⟩

end Go.Proofs.Ytogjjkbgagedpaa.coordg
