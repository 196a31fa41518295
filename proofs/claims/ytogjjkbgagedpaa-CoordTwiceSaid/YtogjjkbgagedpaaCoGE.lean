/-
  coord, of any plans: vote, ack.
-/
import Derived.Test.YtogjjkbgagedpaaCoGD
namespace Go.Proofs.Ytogjjkbgagedpaa.coordg
open Go.RowKit Go.Maps Go.My Go.ChangeMaps coords
set_option maxRecDepth 100000

variable {w w' : World} {c q x qa : Nat} {F F' Fc : Nat → Prop} {lim : Int} {m : List (Int × Nat)} {E : EV} {pv : Value}

def EV.yes (E : EV) (f : Int) : EV := { E with ans := mput E.ans f true }
def EV.voted (E : EV) (f : Int) : EV := if lacksOf (E.yes f) E.ps.length = [] then { E.yes f with state := 2 } else E.yes f

theorem EntIs.map_ne (h : EntIs w x F E pv qa) : x ≠ qa := fun e => by
  obtain ⟨es, clock, hb, _⟩ := h.ans
  have h1 := h.head
  rw [e, hb] at h1
  cases h1

theorem EntIs.own_ne (h : EntIs w x F E pv qa) : ∀ g, pv.ownBlock = some g → g ≠ qa ∧ g ≠ x := fun g hg => by
  obtain ⟨cur, h1⟩ := row_obj h.plans.row hg
  refine ⟨fun e => ?_, fun e => ?_⟩
  · obtain ⟨es, clock, hb, _⟩ := h.ans
    rw [e, hb] at h1; cases h1
  · rw [e, h.head] at h1
    simp only [Option.some.injEq, Obj.cells.injEq] at h1
    exact absurd h1.2.1 (by decide)

theorem EntIs.putAns (h : EntIs w x F E pv qa) {a : List (Int × Bool)} (hm : MapIs iKey Value.bool w' qa a) (hc : Chg (· = qa) w w') : EntIs w' x F { E with ans := a } pv qa :=
  ⟨hc.at h.head h.map_ne, h.plans.kept hc (fun g hg => (h.own_ne g hg).1), hm, h.fr, h.fq, h.fp, fun k hk => Nat.lt_of_lt_of_le (h.lt k hk) hc.size, h.ok, h.len, h.pkl, fun p hp => (h.pks p hp).kept hc (fun k hk e => hk.2.2 e)⟩

theorem EntIs.putState (h : EntIs w x F E pv qa) (s : Int) : EntIs (w.setCell ⟨x, 0, none⟩ (.int .i64 s)) x F { E with state := s } pv qa ∧ Chg (· = x) w (w.setCell ⟨x, 0, none⟩ (.int .i64 s)) := by
  have hc : Chg (· = x) w (w.setCell ⟨x, 0, none⟩ (.int .i64 s)) := Chg.setCell (S := (· = x)) (Chg.refl _ _) (fun _ => rfl) _
  refine ⟨⟨?_, h.plans.kept hc (fun g hg => (h.own_ne g hg).2), h.ans.kept hc (fun e => h.map_ne e.symm), h.fr, h.fq, h.fp, fun k hk => Nat.lt_of_lt_of_le (h.lt k hk) hc.size, h.ok, h.len, h.pkl, fun p hp => (h.pks p hp).kept hc (fun k hk e => hk.2.1 e)⟩, hc⟩
  rw [block_setCell h.head]; rfl

set_option maxHeartbeats 1000000 in
theorem vote_yes (w : World) (h : EntIs w x F E pv qa) (cv : Value) (f txn : Int) (oa : Option Addr) (cap : Nat) (hf : f ∈ E.ps) :
    Calls Try.prog 39 #[cv, ptrV x, .agg #[.int .i64 2, .int .i64 f, .int .i64 0, .int .i64 txn, .bool true, .slice oa 0 cap]] w fun e w' => e = .returned (saidV (if lacksOf (E.yes f) E.ps.length = [] then txn else 0)) ∧ EntIs w' x F (E.voted f) pv qa ∧ Chg F w w' := by
  have H := Lib.hid h
  have hfr := h.ok f hf
  clear h hf
  obtain ⟨lg, hlg⟩ : ∃ lg, (if lacksOf (E.yes f) E.ps.length = [] then txn else 0) = lg := ⟨_, rfl⟩
  rw [hlg]
  have HLg := Lib.hid hlg
  clear hlg
  unfold ptrV
  go_enter Try.func39, Try.ntmps39
  go_wp2_with fail
  obtain ⟨w0, hw0⟩ : ∃ w0, (w.alloc (.cells #[.int .i64 2, .int .i64 f, .int .i64 0, .int .i64 txn, .bool true, .slice oa 0 cap] 24)).alloc (.cells #[.slice none 0 0, .int .i64 0, .int .i64 0, .int .i64 0] 36) = w0 := ⟨_, rfl⟩
  rw [hw0]
  have hb0 : w0.heap[w.heap.size]? = some (.cells #[.int .i64 2, .int .i64 f, .int .i64 0, .int .i64 txn, .bool true, .slice oa 0 cap] 24 (0, 0)) := by
    subst hw0; simp only [heap_alloc_get, World.size_alloc]; rw [if_neg (by omega), if_pos trivial]
  have hb1 : w0.heap[w.heap.size + 1]? = some (.cells #[.slice none 0 0, .int .i64 0, .int .i64 0, .int .i64 0] 36 (0, 0)) := by
    subst hw0; simp only [heap_alloc_get, World.size_alloc]; rw [if_pos trivial]
  have hc0 : Chg (fun _ => False) w w0 := by subst hw0; exact ((Chg.refl _ _).alloc _).alloc _
  clear hw0
  have hE0 := H.out.fresh hc0.drew
  have hxlt := H.out.lt x H.out.fr
  have hqlt := H.out.lt qa H.out.fq
  obtain ⟨ob, hup, hmq⟩ := hE0.ans.put Try.underlying84 f (WalkArith.wf_i64 (by omega)) true
  have hup : (Instr.mapUpdate 84 (.map (some qa)) (.int .i64 f) (.bool true)).run Try.prog w0.drew = .ok () (setBlock w0.drew qa ob) := hup
  have hcq : Chg (· = qa) w0.drew (setBlock w0.drew qa ob) := Chg.setBlock (S := (· = qa)) (Chg.refl _ _) (fun _ => rfl) _
  have hE1 : EntIs (setBlock w0.drew qa ob) x F (E.yes f) pv qa := hE0.putAns hmq hcq
  obtain ⟨w1, hw1⟩ : ∃ w1, setBlock w0.drew qa ob = w1 := ⟨_, rfl⟩
  rw [hw1] at hup hcq hE1
  have hd0 := hcq.at hb0 (by omega)
  have hd1 := hcq.at hb1 (by omega)
  have e3 : w0.cell? ⟨x, 3, none⟩ = some (.map (some qa)) := cell_of_block hE0.head rfl
  have e1 : w0.cell? ⟨w.heap.size, 1, none⟩ = some (.int .i64 f) := cell_of_block hb0 rfl
  have f3 : w1.cell? ⟨x, 3, none⟩ = some (.map (some qa)) := cell_of_block hE1.head rfl
  have f1 : w1.cell? ⟨w.heap.size, 1, none⟩ = some (.int .i64 f) := cell_of_block hd0 rfl
  have HE1 := Lib.hid hE1
  have HD0 := Lib.hid hd0
  have HD1 := Lib.hid hd1
  have HC1 := Lib.hid ((hc0.drew.mono (fun _ _ h => h.elim) : Chg F w w0.drew).trans' (hcq.mono (fun k _ e => by rw [e]; exact H.out.fq)))
  clear hb0 hb1 hc0 hE0 hmq hcq hE1 hd0 hd1 hw1
  refine wp_region_noPanic ?_
  refine wp_region_held_drew (S := (fun w' => w'.cell? ⟨x, 3, none⟩ = some (.map (some qa)) ∧ w'.cell? ⟨w.heap.size, 1, none⟩ = some (.int .i64 f))) (by kernel_rfl) (⟨e3, e1⟩) (fun hHeld => ?_)
  refine take_list (i := 0) (v := ?_) rfl (by kernel_rfl) (by kernel_rfl) (by kernel_rfl) (fun _ _ _ h => h) (Or.inl ⟨by rfl, fun w hSw => ?_⟩) hHeld ?_
  rotate_left
  · (obtain ⟨hSw1, hSw2⟩ := hSw; go_simp)
    try with_reducible rfl
  simp only [Act.put, List.setIfInBounds_toArray, List.set_cons_zero, List.set_cons_succ]
  refine take_list (i := 1) (v := ?_) rfl (by kernel_rfl) (by kernel_rfl) (by kernel_rfl) (fun _ _ _ h => h) (Or.inl ⟨by rfl, fun w hSw => ?_⟩) hHeld ?_
  rotate_left
  · (obtain ⟨hSw1, hSw2⟩ := hSw; go_simp)
    try with_reducible rfl
  simp only [Act.put, List.setIfInBounds_toArray, List.set_cons_zero, List.set_cons_succ]
  refine take_list (i := 2) (v := ?_) rfl (by kernel_rfl) (by kernel_rfl) (by kernel_rfl) (fun _ _ _ h => h) (Or.inl ⟨by rfl, fun w hSw => ?_⟩) hHeld ?_
  rotate_left
  · (obtain ⟨hSw1, hSw2⟩ := hSw; go_simp)
    try with_reducible rfl
  simp only [Act.put, List.setIfInBounds_toArray, List.set_cons_zero, List.set_cons_succ]
  refine take_list (i := 3) (v := ?_) rfl (by kernel_rfl) (by kernel_rfl) (by kernel_rfl) (fun _ _ _ h => h) (Or.inl ⟨by rfl, fun w hSw => ?_⟩) hHeld ?_
  rotate_left
  · (obtain ⟨hSw1, hSw2⟩ := hSw; go_simp)
    try with_reducible rfl
  simp only [Act.put, List.setIfInBounds_toArray, List.set_cons_zero, List.set_cons_succ]
  refine take_list (i := 4) (v := ?_) rfl (by kernel_rfl) (by kernel_rfl) (by kernel_rfl) (fun _ _ _ h => h) (Or.inl ⟨by rfl, fun w hSw => ?_⟩) hHeld ?_
  rotate_left
  · (obtain ⟨hSw1, hSw2⟩ := hSw; go_simp)
    try with_reducible rfl
  simp only [Act.put, List.setIfInBounds_toArray, List.set_cons_zero, List.set_cons_succ]
  refine take_list (i := 5) (v := ?_) rfl (by kernel_rfl) (by kernel_rfl) (by kernel_rfl) (fun _ _ _ h => h) (Or.inl ⟨by rfl, fun w hSw => ?_⟩) hHeld ?_
  rotate_left
  · (obtain ⟨hSw1, hSw2⟩ := hSw; go_simp)
    try with_reducible rfl
  simp only [Act.put, List.setIfInBounds_toArray, List.set_cons_zero, List.set_cons_succ]
  refine wpAnyH_ready (rs := [6]) (by kernel_rfl) (by simp) (one_list (i := 6) rfl (by rfl) (fun K hK => ?_) AllReadyH.nil)
  refine oper_put _ _ _ _ rfl rfl rfl rfl hup ?_
  refine hK _ _ (⟨f3, f1⟩) (fun hH2 => ?_)
  try simp only [Act.put, List.setIfInBounds_toArray, List.set_cons_zero, List.set_cons_succ]
  refine wpAnyH_done (by kernel_rfl) ?_ _
  refine NoPanic.normal ?_
  clear hHeld hH2
  by_cases hl : lacksOf (E.yes f) E.ps.length = []
  · have hl0 : ¬ (0 : Int) < ((lacksOf (E.yes f) (E.yes f).ps.length).length : Int) := by rw [show (E.yes f).ps = E.ps from rfl, hl]; simp
    have hlt : lg = txn := by rw [← HLg.out, if_pos hl]
    have HV : Hid (E.voted f = { E.yes f with state := 2 }) := Lib.hid (by rw [EV.voted, if_pos hl])
    clear hl
    go_wp2_with (first
      | (go_at_call 44; refine (lacks_any _ HE1.out).mono ?_; rintro e w2 ⟨v, rfl, ho2, hc2⟩
         obtain ⟨ol, cl, rfl⟩ := own_slice ho2
         have hE2 := HE1.out.fresh hc2
         obtain ⟨hE3, hc3⟩ := hE2.putState 2
         have g0 : w2.cell? ⟨x, 0, none⟩ = some (.int .i64 (E.yes f).state) := cell_of_block hE2.head rfl
         have z0 : w2.frozen? ⟨x, 0, none⟩ = false := free_of_block hE2.head
         have hq0 := hc3.at (hc2.at HD0.out id) (by omega)
         have hq1 := hc3.at (hc2.at HD1.out id) (by omega)
         have g3 : (w2.setCell ⟨x, 0, none⟩ (.int .i64 2)).cell? ⟨w.heap.size, 3, none⟩ = some (.int .i64 txn) := cell_of_block hq0 rfl
         have HE3 := Lib.hid hE3
         have HS := Lib.hid (said_store (l0 := 0) hq1 lg)
         have HC2 := Lib.hid hc2
         have HC3 := Lib.hid hc3
         clear hc2 hE2 hE3 hc3 hq0 hq1)
      | (refine wpList_store_mid rfl 36 _ _ rfl (w.heap.size + 1) 0 (saidL lg).toArray rfl (by rw [hlt]; rfl) HS.out.there HS.out.size HS.out.one ?_; rw [List.toList_toArray]))
    (try simp only [Exit.inBlock, Exit.then])
    refine bodyPost_ret (result1 rfl _ rfl HS.out.load) rfl ?_
    refine ⟨rfl, ?_, ((HC1.out.trans' (HC2.out.mono (fun _ _ h => h.elim))).trans' (HC3.out.mono (fun k _ e => by rw [e]; exact H.out.fr))).trans (HS.out.chg) (fun k hk e => by omega)⟩
    rw [HV.out]
    exact HE3.out.kept HS.out.chg (fun k hk e => by have := H.out.lt k hk; omega)
  · have hne : 0 < (lacksOf (E.yes f) E.ps.length).length := List.length_pos_iff.2 hl
    have hl0 : (0 : Int) < ((lacksOf (E.yes f) (E.yes f).ps.length).length : Int) := by rw [show (E.yes f).ps = E.ps from rfl]; omega
    have hlt : lg = 0 := by rw [← HLg.out, if_neg hl]
    have HV : Hid (E.voted f = E.yes f) := Lib.hid (by rw [EV.voted, if_neg hl])
    clear hl hne
    go_wp2_with (first
      | (go_at_call 44; refine (lacks_any _ HE1.out).mono ?_; rintro e w2 ⟨v, rfl, ho2, hc2⟩
         obtain ⟨ol, cl, rfl⟩ := own_slice ho2
         have hq1 := hc2.at HD1.out id
         have HE3 := Lib.hid (HE1.out.fresh hc2)
         have HS := Lib.hid (said_store (l0 := 0) hq1 lg)
         have HC2 := Lib.hid hc2
         clear hc2 hq1)
      | (refine wpList_store_mid rfl 36 _ _ rfl (w.heap.size + 1) 0 (saidL lg).toArray rfl (by rw [hlt]; rfl) HS.out.there HS.out.size HS.out.one ?_; rw [List.toList_toArray]))
    (try simp only [Exit.inBlock, Exit.then])
    refine bodyPost_ret (result1 rfl _ rfl HS.out.load) rfl ?_
    refine ⟨rfl, ?_, (HC1.out.trans' (HC2.out.mono (fun _ _ h => h.elim))).trans (HS.out.chg) (fun k hk e => by omega)⟩
    rw [HV.out]
    exact HE3.out.kept HS.out.chg (fun k hk e => by have := H.out.lt k hk; omega)


end Go.Proofs.Ytogjjkbgagedpaa.coordg
