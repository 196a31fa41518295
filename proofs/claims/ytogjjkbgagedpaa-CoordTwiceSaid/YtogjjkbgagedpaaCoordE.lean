/-
  coord: vote, Take of a vote, Sure, State.
-/
import Derived.Test.YtogjjkbgagedpaaCoordD
namespace Go.Proofs.Ytogjjkbgagedpaa.coords
open Go.RowKit Go.Maps Go.My Go.ChangeMaps
set_option maxRecDepth 100000

variable {w w' : World} {c q x qa : Nat} {F F' Fc : Nat → Prop} {lim : Int} {m : List (Int × Nat)} {E : EV} {pv : Value}

theorem oper_put {P : Program} {o : Oper} {a : Go.Act} {w w' : World} {K : Go.Act → World → Prop} {Q : Exit → Go.Act → World → Prop} (x y u : Operand) (t : TypeId)
    (ho : o.op = .mapUpdate t x y u) {xv yv uv : Value} (hx : a.eval x = xv) (hy : a.eval y = yv) (hu : a.eval u = uv)
    (hr : (Instr.mapUpdate t xv yv uv).run P w = .ok () w') (h : K (a.put o.dst (.tuple #[])) w') : Oper.wp P o a w K Q := by
  unfold Oper.wp
  simp only [execOp, ho, hx, hy, hu]
  simp [hr, Result.andThen]
  exact h

/-- A block of the heap, whole. -/
def Arr (w : World) (b : Nat) (t : TypeId) (l : List Value) : Prop := w.heap[b]? = some (.cells l.toArray t (0, 0))

theorem Arr.kept {b : Nat} {t : TypeId} {l : List Value} (h : Arr w b t l) {S : Nat → Prop} (hc : Chg S w w') (hn : ¬ S b) : Arr w' b t l := hc.at h hn
theorem Arr.lt {b : Nat} {t : TypeId} {l : List Value} (h : Arr w b t l) : b < w.heap.size := lt_of_block h

theorem Arr.range {b : Nat} {t : TypeId} {l : List Value} (h : Arr w b t l) : w.rangeAt b 0 l := by
  intro j x hx
  rw [Nat.zero_add]
  exact cell_of_block h (by simpa using hx)

theorem Arr.there {b : Nat} {t : TypeId} {l : List Value} (h : Arr w b t l) : w.there b 0 l.length := by
  intro j hj
  refine ⟨?_, free_of_block h⟩
  rw [h.range j l[j] (List.getElem?_eq_getElem hj)]; rfl

theorem Arr.set {b : Nat} {t : TypeId} {l : List Value} (h : Arr w b t l) (k : Nat) (v : Value) : Arr (w.setCell ⟨b, k, none⟩ v) b t (l.set k v) := by
  have := block_setCell (i := k) (v := v) h
  simpa [Arr] using this

theorem arr_setCells {b : Nat} {t : TypeId} : ∀ (vs : List Value) (o : Nat) (w : World) (l : List Value), Arr w b t l → o + vs.length ≤ l.length → Arr (w.setCells b o vs) b t (l.take o ++ vs ++ l.drop (o + vs.length))
  | [], o, w, l, h, _ => by simpa [World.setCells] using h
  | v :: r, o, w, l, h, hl => by
    simp only [List.length_cons] at hl
    have h1 := arr_setCells r (o + 1) _ _ (h.set o v) (by rw [List.length_set]; omega)
    have e : (l.set o v).take (o + 1) ++ r ++ (l.set o v).drop (o + 1 + r.length) = l.take o ++ (v :: r) ++ l.drop (o + (v :: r).length) := by
      have e1 : (l.set o v).take (o + 1) = l.take o ++ [v] := by
        rw [List.take_set, List.take_add_one, List.getElem?_eq_getElem (by omega), Option.toList_some, List.set_append_right _ _ (by rw [List.length_take]; omega)]
        have : (l.take o).length = o := by rw [List.length_take]; omega
        rw [this, Nat.sub_self]; rfl
      rw [e1, List.drop_set_of_lt (by omega)]
      simp [Nat.add_assoc, Nat.add_comm 1]
    rw [e] at h1
    exact h1

theorem Arr.all {b : Nat} {t : TypeId} {l vs : List Value} (h : Arr w b t l) (hl : vs.length = l.length) : Arr (w.setCells b 0 vs) b t vs := by
  have h1 := arr_setCells vs 0 w l h (by omega)
  rw [Nat.zero_add, List.take_zero, List.nil_append, List.drop_eq_nil_of_le (by omega), List.append_nil] at h1
  exact h1

def saidL (log : Int) : List Value := [.slice none 0 0, .int .i64 log, .int .i64 0, .int .i64 0]
def saidV (log : Int) : Value := .agg #[.slice none 0 0, .int .i64 log, .int .i64 0, .int .i64 0]
def EV.yes (E : EV) (f : Int) : EV := { E with ans := mput E.ans f true }
def EV.voted (E : EV) (f : Int) : EV := if lacksOf (E.yes f) E.ps.length = [] then { E.yes f with state := 2 } else E.yes f

theorem result1 {P : Program} {fn : Func} {p : Tmp} {t : TypeId} (h : fn.results = #[.cell p t]) (tmps : Array Value) {g : Nat} (hp : tmps.getD p undef = .pointer (some ⟨g, 0, none⟩))
    {v : Value} (h1 : (loadVar t ⟨g, 0, none⟩).run P w = .ok v w) : (results fn tmps).run P w = .ok v w := by
  have hp' : tmps[p]?.getD undef = .pointer (some ⟨g, 0, none⟩) := by simpa using hp
  simp [results, h, hp', asAddr, h1]

theorem chg_setCells (g : Nat) : ∀ (vs : List Value) (o : Nat) (w : World), Chg (· = g) w (w.setCells g o vs)
  | [], _, w => Chg.refl _ w
  | v :: r, o, w => (Chg.setCell (S := (· = g)) (Chg.refl _ w) (fun _ => rfl) v).trans' (chg_setCells g r (o + 1) _)

theorem size_said : (Try.prog.info? 36).map (·.size) = some 4 := by kernel_rfl

structure SaidSt (w : World) (b : Nat) (lg : Int) : Prop where
  there : w.there b 0 (saidL lg).toArray.size
  size : (Try.prog.info? 36).map (·.size) = some (saidL lg).toArray.size
  one : (saidL lg).toArray.all (·.oneCell') = true
  chg : Chg (· = b) w (w.setCells b 0 (saidL lg))
  load : (loadVar 36 ⟨b, 0, none⟩).run Try.prog (w.setCells b 0 (saidL lg)) = .ok (saidV lg) (w.setCells b 0 (saidL lg))

theorem said_store {w : World} {b : Nat} {l0 : Int} (h : Arr w b 36 (saidL l0)) (lg : Int) : SaidSt w b lg :=
  ⟨h.there, size_said, all_oneCell_toArray (by intro v hv; simp only [saidL, List.mem_cons, List.not_mem_nil, or_false] at hv; rcases hv with rfl | rfl | rfl | rfl <;> rfl), chg_setCells b (saidL lg) 0 w, run_loadVar_mid (P := Try.prog) _ b 0 36 (saidL lg) _ (h.all (vs := saidL lg) rfl).range Try.underlying36 rfl size_said⟩

theorem EntIs.map_ne (h : EntIs w x F E pv qa) : x ≠ qa := fun e => by
  obtain ⟨es, clock, hb, _⟩ := h.ans
  have h1 := h.head
  rw [e, hb] at h1
  cases h1

theorem EntIs.own_ne (h : EntIs w x F E pv qa) : ∀ g, pv.ownBlock = some g → g ≠ qa ∧ g ≠ x := fun g hg => by
  obtain ⟨cur, h1⟩ := row_obj h.plans.row hg
  refine ⟨fun e => ?_, fun e => ?_⟩
  · obtain ⟨es, clock, hb, _⟩ := h.ans
    rw [e, hb] at h1; cases h1
  · rw [e, h.head] at h1
    simp only [Option.some.injEq, Obj.cells.injEq] at h1
    exact absurd h1.2.1 (by decide)

theorem EntIs.putAns (h : EntIs w x F E pv qa) {a : List (Int × Bool)} (hm : MapIs iKey Value.bool w' qa a) (hc : Chg (· = qa) w w') : EntIs w' x F { E with ans := a } pv qa :=
  ⟨hc.at h.head h.map_ne, h.plans.kept hc (fun g hg => (h.own_ne g hg).1), hm, h.fr, h.fq, h.fp, fun k hk => Nat.lt_of_lt_of_le (h.lt k hk) hc.size, h.ok, h.len⟩

theorem EntIs.putState (h : EntIs w x F E pv qa) (s : Int) : EntIs (w.setCell ⟨x, 0, none⟩ (.int .i64 s)) x F { E with state := s } pv qa ∧ Chg (· = x) w (w.setCell ⟨x, 0, none⟩ (.int .i64 s)) := by
  have hc : Chg (· = x) w (w.setCell ⟨x, 0, none⟩ (.int .i64 s)) := Chg.setCell (S := (· = x)) (Chg.refl _ _) (fun _ => rfl) _
  refine ⟨⟨?_, h.plans.kept hc (fun g hg => (h.own_ne g hg).2), h.ans.kept hc (fun e => h.map_ne e.symm), h.fr, h.fq, h.fp, fun k hk => Nat.lt_of_lt_of_le (h.lt k hk) hc.size, h.ok, h.len⟩, hc⟩
  rw [block_setCell h.head]; rfl

set_option maxHeartbeats 1000000 in
theorem vote_any (w : World) (h : EntIs w x F E pv qa) (cv : Value) (f txn : Int) (hf : f ∈ E.ps) :
    Calls Try.prog 39 #[cv, ptrV x, .agg (msgC 2 f 0 txn true).toArray] w fun e w' => e = .returned (saidV (if lacksOf (E.yes f) E.ps.length = [] then txn else 0)) ∧ EntIs w' x F (E.voted f) pv qa ∧ Chg F w w' := by
  have H := Lib.hid h
  have hfr := h.ok f hf
  clear h hf
  obtain ⟨lg, hlg⟩ : ∃ lg, (if lacksOf (E.yes f) E.ps.length = [] then txn else 0) = lg := ⟨_, rfl⟩
  rw [hlg]
  have HLg := Lib.hid hlg
  clear hlg
  unfold msgC ptrV
  go_enter Try.func39, Try.ntmps39
  go_wp2_with fail
  obtain ⟨w0, hw0⟩ : ∃ w0, (w.alloc (.cells #[.int .i64 2, .int .i64 f, .int .i64 0, .int .i64 txn, .bool true, .slice none 0 0] 24)).alloc (.cells #[.slice none 0 0, .int .i64 0, .int .i64 0, .int .i64 0] 36) = w0 := ⟨_, rfl⟩
  rw [hw0]
  have hb0 : w0.heap[w.heap.size]? = some (.cells #[.int .i64 2, .int .i64 f, .int .i64 0, .int .i64 txn, .bool true, .slice none 0 0] 24 (0, 0)) := by
    subst hw0; simp only [heap_alloc_get, World.size_alloc]; rw [if_neg (by omega), if_pos trivial]
  have hb1 : w0.heap[w.heap.size + 1]? = some (.cells #[.slice none 0 0, .int .i64 0, .int .i64 0, .int .i64 0] 36 (0, 0)) := by
    subst hw0; simp only [heap_alloc_get, World.size_alloc]; rw [if_pos trivial]
  have hc0 : Chg (fun _ => False) w w0 := by subst hw0; exact ((Chg.refl _ _).alloc _).alloc _
  clear hw0
  have hE0 := H.out.fresh hc0.drew
  have hxlt := H.out.lt x H.out.fr
  have hqlt := H.out.lt qa H.out.fq
  obtain ⟨ob, hup, hmq⟩ := hE0.ans.put Try.underlying84 f (WalkArith.wf_i64 (by omega)) true
  have hup : (Instr.mapUpdate 84 (.map (some qa)) (.int .i64 f) (.bool true)).run Try.prog w0.drew = .ok () (setBlock w0.drew qa ob) := hup
  have hcq : Chg (· = qa) w0.drew (setBlock w0.drew qa ob) := Chg.setBlock (S := (· = qa)) (Chg.refl _ _) (fun _ => rfl) _
  have hE1 : EntIs (setBlock w0.drew qa ob) x F (E.yes f) pv qa := hE0.putAns hmq hcq
  obtain ⟨w1, hw1⟩ : ∃ w1, setBlock w0.drew qa ob = w1 := ⟨_, rfl⟩
  rw [hw1] at hup hcq hE1
  have hd0 := hcq.at hb0 (by omega)
  have hd1 := hcq.at hb1 (by omega)
  have e3 : w0.cell? ⟨x, 3, none⟩ = some (.map (some qa)) := cell_of_block hE0.head rfl
  have e1 : w0.cell? ⟨w.heap.size, 1, none⟩ = some (.int .i64 f) := cell_of_block hb0 rfl
  have f3 : w1.cell? ⟨x, 3, none⟩ = some (.map (some qa)) := cell_of_block hE1.head rfl
  have f1 : w1.cell? ⟨w.heap.size, 1, none⟩ = some (.int .i64 f) := cell_of_block hd0 rfl
  have HE1 := Lib.hid hE1
  have HD0 := Lib.hid hd0
  have HD1 := Lib.hid hd1
  have HC1 := Lib.hid ((hc0.drew.mono (fun _ _ h => h.elim) : Chg F w w0.drew).trans' (hcq.mono (fun k _ e => by rw [e]; exact H.out.fq)))
  clear hb0 hb1 hc0 hE0 hmq hcq hE1 hd0 hd1 hw1
  refine wp_region_noPanic ?_
  refine wp_region_held_drew (S := (fun w' => w'.cell? ⟨x, 3, none⟩ = some (.map (some qa)) ∧ w'.cell? ⟨w.heap.size, 1, none⟩ = some (.int .i64 f))) (by kernel_rfl) (⟨e3, e1⟩) (fun hHeld => ?_)
  refine take_list (i := 0) (v := ?_) rfl (by kernel_rfl) (by kernel_rfl) (by kernel_rfl) (fun _ _ _ h => h) (Or.inl ⟨by rfl, fun w hSw => ?_⟩) hHeld ?_
  rotate_left
  · (obtain ⟨hSw1, hSw2⟩ := hSw; go_simp)
    try with_reducible rfl
  simp only [Act.put, List.setIfInBounds_toArray, List.set_cons_zero, List.set_cons_succ]
  refine take_list (i := 1) (v := ?_) rfl (by kernel_rfl) (by kernel_rfl) (by kernel_rfl) (fun _ _ _ h => h) (Or.inl ⟨by rfl, fun w hSw => ?_⟩) hHeld ?_
  rotate_left
  · (obtain ⟨hSw1, hSw2⟩ := hSw; go_simp)
    try with_reducible rfl
  simp only [Act.put, List.setIfInBounds_toArray, List.set_cons_zero, List.set_cons_succ]
  refine take_list (i := 2) (v := ?_) rfl (by kernel_rfl) (by kernel_rfl) (by kernel_rfl) (fun _ _ _ h => h) (Or.inl ⟨by rfl, fun w hSw => ?_⟩) hHeld ?_
  rotate_left
  · (obtain ⟨hSw1, hSw2⟩ := hSw; go_simp)
    try with_reducible rfl
  simp only [Act.put, List.setIfInBounds_toArray, List.set_cons_zero, List.set_cons_succ]
  refine take_list (i := 3) (v := ?_) rfl (by kernel_rfl) (by kernel_rfl) (by kernel_rfl) (fun _ _ _ h => h) (Or.inl ⟨by rfl, fun w hSw => ?_⟩) hHeld ?_
  rotate_left
  · (obtain ⟨hSw1, hSw2⟩ := hSw; go_simp)
    try with_reducible rfl
  simp only [Act.put, List.setIfInBounds_toArray, List.set_cons_zero, List.set_cons_succ]
  refine take_list (i := 4) (v := ?_) rfl (by kernel_rfl) (by kernel_rfl) (by kernel_rfl) (fun _ _ _ h => h) (Or.inl ⟨by rfl, fun w hSw => ?_⟩) hHeld ?_
  rotate_left
  · (obtain ⟨hSw1, hSw2⟩ := hSw; go_simp)
    try with_reducible rfl
  simp only [Act.put, List.setIfInBounds_toArray, List.set_cons_zero, List.set_cons_succ]
  refine take_list (i := 5) (v := ?_) rfl (by kernel_rfl) (by kernel_rfl) (by kernel_rfl) (fun _ _ _ h => h) (Or.inl ⟨by rfl, fun w hSw => ?_⟩) hHeld ?_
  rotate_left
  · (obtain ⟨hSw1, hSw2⟩ := hSw; go_simp)
    try with_reducible rfl
  simp only [Act.put, List.setIfInBounds_toArray, List.set_cons_zero, List.set_cons_succ]
  refine wpAnyH_ready (rs := [6]) (by kernel_rfl) (by simp) (one_list (i := 6) rfl (by rfl) (fun K hK => ?_) AllReadyH.nil)
  refine oper_put _ _ _ _ rfl rfl rfl rfl hup ?_
  refine hK _ _ (⟨f3, f1⟩) (fun hH2 => ?_)
  try simp only [Act.put, List.setIfInBounds_toArray, List.set_cons_zero, List.set_cons_succ]
  refine wpAnyH_done (by kernel_rfl) ?_ _
  refine NoPanic.normal ?_
  clear hHeld hH2
  by_cases hl : lacksOf (E.yes f) E.ps.length = []
  · have hl0 : ¬ (0 : Int) < ((lacksOf (E.yes f) (E.yes f).ps.length).length : Int) := by rw [show (E.yes f).ps = E.ps from rfl, hl]; simp
    have hlt : lg = txn := by rw [← HLg.out, if_pos hl]
    have HV : Hid (E.voted f = { E.yes f with state := 2 }) := Lib.hid (by rw [EV.voted, if_pos hl])
    clear hl
    go_wp2_with (first
      | (go_at_call 44; refine (lacks_any _ HE1.out).mono ?_; rintro e w2 ⟨v, rfl, ⟨oa, cap, rfl⟩, hc2⟩
         have hE2 := HE1.out.fresh hc2
         obtain ⟨hE3, hc3⟩ := hE2.putState 2
         have g0 : w2.cell? ⟨x, 0, none⟩ = some (.int .i64 (E.yes f).state) := cell_of_block hE2.head rfl
         have z0 : w2.frozen? ⟨x, 0, none⟩ = false := free_of_block hE2.head
         have hq0 := hc3.at (hc2.at HD0.out id) (by omega)
         have hq1 := hc3.at (hc2.at HD1.out id) (by omega)
         have g3 : (w2.setCell ⟨x, 0, none⟩ (.int .i64 2)).cell? ⟨w.heap.size, 3, none⟩ = some (.int .i64 txn) := cell_of_block hq0 rfl
         have HE3 := Lib.hid hE3
         have HS := Lib.hid (said_store (l0 := 0) hq1 lg)
         have HC2 := Lib.hid hc2
         have HC3 := Lib.hid hc3
         clear hc2 hE2 hE3 hc3 hq0 hq1)
      | (refine wpList_store_mid rfl 36 _ _ rfl (w.heap.size + 1) 0 (saidL lg).toArray rfl (by rw [hlt]; rfl) HS.out.there HS.out.size HS.out.one ?_; rw [List.toList_toArray]))
    (try simp only [Exit.inBlock, Exit.then])
    refine bodyPost_ret (result1 rfl _ rfl HS.out.load) rfl ?_
    refine ⟨rfl, ?_, ((HC1.out.trans' (HC2.out.mono (fun _ _ h => h.elim))).trans' (HC3.out.mono (fun k _ e => by rw [e]; exact H.out.fr))).trans (HS.out.chg) (fun k hk e => by omega)⟩
    rw [HV.out]
    exact HE3.out.kept HS.out.chg (fun k hk e => by have := H.out.lt k hk; omega)
  · have hne : 0 < (lacksOf (E.yes f) E.ps.length).length := List.length_pos_iff.2 hl
    have hl0 : (0 : Int) < ((lacksOf (E.yes f) (E.yes f).ps.length).length : Int) := by rw [show (E.yes f).ps = E.ps from rfl]; omega
    have hlt : lg = 0 := by rw [← HLg.out, if_neg hl]
    have HV : Hid (E.voted f = E.yes f) := Lib.hid (by rw [EV.voted, if_neg hl])
    clear hl hne
    go_wp2_with (first
      | (go_at_call 44; refine (lacks_any _ HE1.out).mono ?_; rintro e w2 ⟨v, rfl, ⟨oa, cap, rfl⟩, hc2⟩
         have hq1 := hc2.at HD1.out id
         have HE3 := Lib.hid (HE1.out.fresh hc2)
         have HS := Lib.hid (said_store (l0 := 0) hq1 lg)
         have HC2 := Lib.hid hc2
         clear hc2 hq1)
      | (refine wpList_store_mid rfl 36 _ _ rfl (w.heap.size + 1) 0 (saidL lg).toArray rfl (by rw [hlt]; rfl) HS.out.there HS.out.size HS.out.one ?_; rw [List.toList_toArray]))
    (try simp only [Exit.inBlock, Exit.then])
    refine bodyPost_ret (result1 rfl _ rfl HS.out.load) rfl ?_
    refine ⟨rfl, ?_, (HC1.out.trans' (HC2.out.mono (fun _ _ h => h.elim))).trans (HS.out.chg) (fun k hk e => by omega)⟩
    rw [HV.out]
    exact HE3.out.kept HS.out.chg (fun k hk e => by have := H.out.lt k hk; omega)

end Go.Proofs.Ytogjjkbgagedpaa.coords
