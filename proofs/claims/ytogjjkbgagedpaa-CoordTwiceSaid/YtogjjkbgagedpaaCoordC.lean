/-
  coord: enter, Begin: of plans without packs.
-/
import Derived.Test.YtogjjkbgagedpaaCoordB
import Derived.Deep.RegionHeld3
import Derived.Deep.Onto
import Derived.Maps.AppendAt
import Derived.Deep.WholeRow
namespace Go.Proofs.Ytogjjkbgagedpaa.coords
open Go.RowKit Go.Maps Go.My Go.ChangeMaps
set_option maxRecDepth 100000

variable {w w' : World} {c q x qa : Nat} {F F' : Nat → Prop} {lim : Int} {m : List (Int × Nat)} {E : EV} {pv : Value}

theorem take_list {P : Program} {md : Region.Mode} {l : List Oper} {Q : Exit → Go.Act → World → Prop} {S : World → Prop} {i : Nat} {oi : Oper} {v : Value} {fuel : Nat} {listed : Array Bool} {a : Go.Act} {w : World} (hi : l[i]? = some oi)
    (hs : Region.noSelect l.toArray = true) (hf : Region.free md l.toArray listed i = true) (hr : (Region.ready md l.toArray listed).contains i = true)
    (hQ : ∀ c a w, Q (.panic c) (a.put oi.dst v) w → Q (.panic c) a w) (hy : YieldsIf P l.toArray S oi v a) (hS : S w)
    (h : wpAnyH P md l.toArray Q S fuel (listed.setIfInBounds i true) (a.put oi.dst v) w) : wpAnyH P md l.toArray Q S (fuel + 1) listed a w :=
  wpAnyH_take (by simpa using hi) hs hf hr hQ hy hS h

theorem one_list {P : Program} {md : Region.Mode} {l : List Oper} {Q : Exit → Go.Act → World → Prop} {S : World → Prop} {i : Nat} {o : Oper} {rs : List Nat} {fuel : Nat} {listed : Array Bool} {a : Go.Act} {w : World} (hi : l[i]? = some o)
    (hw : Region.wanted o (yielded l.toArray a.tmps) = true)
    (h : ∀ K : Go.Act → World → Prop, (∀ a w, S w → (S w → wpAnyH P md l.toArray Q S fuel (listed.setIfInBounds i true) a w) → K a w) → Oper.wp P o a w K Q)
    (hs : AllReadyH P md l.toArray Q S fuel listed a w rs) : AllReadyH P md l.toArray Q S fuel listed a w (i :: rs) := by
  refine AllReadyH.cons (o := o) (by simpa using hi) (fun K hK => ?_) hs
  rw [if_pos hw]
  exact h K hK.out

theorem zero_ent (w : World) : (zeroValue 76).run Try.prog w = .ok (.pointer none) w := by kernel_rfl
theorem zero_bool (w : World) : (zeroValue 4).run Try.prog w = .ok (.bool false) w := by kernel_rfl

theorem oper_append {P : Program} {o : Oper} {a : Go.Act} {w w' : World} {K : Go.Act → World → Prop} {Q : Exit → Go.Act → World → Prop} (s x : Operand) (t : TypeId)
    (ho : o.op = .call { callee := .builtin .append, args := #[s, x], argTypes := #[t, t] }) {v sv xv : Value} (hs : a.eval s = sv) (hx : a.eval x = xv)
    (hr : (Builtin.append_ #[t, t] o.type #[sv, xv]).run P w = .ok v w') (h : K (a.put o.dst v) w') : Oper.wp P o a w K Q := by
  unfold Oper.wp execOp
  simp only [ho, resolve, invoke, builtin, Sem.run_bind, Sem.run_pure, Result.andThen_ok, List.map_toArray, List.map_cons, List.map_nil, hs, hx, hr]
  exact h

theorem row_obj {w : World} {base : Nat} {e : TypeId} {n : Nat} {v : Value} {k : Nat} {l : List Value} (h : w.ownsRow base e n v k l) {g : Nat} (hg : v.ownBlock = some g) : ∃ cur, w.heap[g]? = some (.cells cur e (0, 0)) := by
  rcases h.2 with ⟨rfl, h0⟩ | ⟨g', cap, cur, rfl, _, hh, _⟩
  · simp [Value.ownBlock] at hg
  · simp only [Value.ownBlock, Option.some.injEq] at hg
    subst hg
    exact ⟨_, hh⟩

theorem row_kept {w w' : World} {base : Nat} {e : TypeId} {n : Nat} {v : Value} {k : Nat} {l : List Value} (h : w.ownsRow base e n v k l) {S : Nat → Prop} (hc : Chg S w w') (hs : ∀ g, v.ownBlock = some g → ¬ S g) : w'.ownsRow base e n v k l := by
  obtain ⟨h1, h2⟩ := h
  refine ⟨h1, ?_⟩
  rcases h2 with h2 | ⟨g, cap, cur, rfl, a1, a2, a3⟩
  · exact Or.inl h2
  · exact Or.inr ⟨g, cap, cur, rfl, a1, hc.at a2 (hs g rfl), a3⟩

/-- The root ahead of the k-th plan's. -/
def lastOf (ps : List Int) (k : Nat) : Int := match k with | 0 => 0 | k + 1 => ps[k]?.getD 0

structure Good (ps : List Int) : Prop where
  any : ps ≠ []
  len : ps.length ≤ 6
  asc : ∀ (k : Nat) r, ps[k]? = some r → lastOf ps k < r ∧ r ≤ 6
  ok : ∀ r ∈ ps, 1 ≤ r ∧ r ≤ 6

def entC (state : Int) (pv : Value) (qa : Nat) : Obj := .cells #[.int .i64 state, .int .i64 0, pv, .map (some qa)] 86 (0, 0)

/-- The state of the second loop. -/
structure Ld (w w1 wr : World) (x qa : Nat) (state : Int) (ps : List Int) (k : Nat) (pv : Value) : Prop where
  head : wr.heap[x]? = some (entC state pv qa)
  row : wr.ownsRow x 33 2 pv k ((ps.take k).map planC).flatten
  mp : wr.heap[qa]? = some (.map #[] 0)
  chg : Chg (fun _ => False) w wr


set_option maxHeartbeats 4000000 in
theorem enter_any (w : World) (h : CoIs w c F lim m q) (txn state : Int) (ht : 1 ≤ txn ∧ txn ≤ 1099511627776) (ps : List Int) (hg : Good ps) (oap : Option Addr) (cp : Nat) (hp : RowsAt w 2 oap (ps.map planC)) (hm : mget m txn = none) :
    Calls Try.prog 31 #[ptrV c, .int .i64 txn, .int .i64 state, .slice oap ps.length cp] w fun e w' => ∃ x, e = .returned (.tuple #[ptrV x, .int .i64 0]) ∧ (∃ pv qa, EntIs w' x (born w w') ⟨state, 0, ps, []⟩ pv qa) ∧ CoIs w' c F lim (mput m txn x) q ∧ Chg (· = q) w w' := by
  have hmm := @run_makeMap Try.prog
  obtain ⟨i0, hI0⟩ := info_parts info_plan
  have HI0 := Lib.hid hI0
  have c1 : w.cell? ⟨c, 1, none⟩ = some (.map (some q)) := cell_of_block h.head rfl
  have H := Lib.hid h
  have HG := Lib.hid hg
  have HP := Lib.hid hp
  have HM := Lib.hid hm
  have t1 : ¬ txn < 1 := by omega
  have t2 : ¬ 1099511627776 < txn := by omega
  have hl6 := hg.len
  have hl0 : 0 < ps.length := List.length_pos_iff.2 hg.any
  obtain ⟨b0, off, rfl⟩ : ∃ b off, oap = some ⟨b, off, none⟩ := hp.spot (by intro e; exact hg.any (List.map_eq_nil_iff.1 e))
  clear h hg hp hm hI0 c1
  unfold ptrV
  go_enter Try.func31, Try.ntmps31
  go_wp2_with (first
    | (go_at_call 34; refine (none_no _ H.out).mono ?_; rintro e w1 ⟨rfl, rfl⟩))
  go_loopw [10, 27] (fun l j wr => ∃ k : Nat, j = .int .i64 k ∧ k ≤ ps.length ∧ l = .int .i64 (lastOf ps k) ∧ Chg (fun _ => False) w wr) (fun _ j _ => ps.length - (intOf j).toNat)
  · exact ⟨0, rfl, Nat.zero_le _, rfl, Chg.refl _ _⟩
  obtain ⟨k, rfl, hk, rfl, hc⟩ := hrel
  have HC := Lib.hid hc
  clear hc
  by_cases hlt : k < ps.length
  · have hki : (k : Int) < (ps.length : Int) := by omega
    obtain ⟨r, hr⟩ : ∃ r, ps[k]? = some r := ⟨ps[k], List.getElem?_eq_getElem hlt⟩
    have hcell := fun j v hj => (HP.out.kept HC.out (fun _ _ h => h)).cell b0 off rfl k (planC r) j v (by rw [List.getElem?_map, hr]; rfl) hj
    have d0 : wr.cell? ⟨b0, off + k * 2, none⟩ = some (.int .i64 r) := hcell 0 _ rfl
    have d1 : wr.cell? ⟨b0, off + k * 2 + 1, none⟩ = some (.slice none 0 0) := hcell 1 _ rfl
    obtain ⟨ha1, ha2⟩ := HG.out.asc k r hr
    have r1 : ¬ r ≤ lastOf ps k := by omega
    have r2 : ¬ 6 < r := by omega
    have hl1 : lastOf ps (k + 1) = r := by simp [lastOf, hr]
    have HL1 := Lib.hid hl1
    clear hcell hr ha1 ha2 hl1
    go_wp2_with fail
    exact ⟨⟨k + 1, by go_num, hlt, by rw [HL1.out], HC.out.alloc _⟩, meas_step hlt⟩
  have hki : ¬ (k : Int) < (ps.length : Int) := by omega
  have hne0 : ((ps.length : Int) == 0) = false := by rw [beq_eq_false_iff_ne]; omega
  obtain ⟨w1, hw1⟩ : ∃ w1, w1 = (wr.alloc (.map #[] 0)).alloc (.cells #[.int .i64 state, .int .i64 0, .slice none 0 0, .map (some wr.heap.size)] 86) := ⟨_, rfl⟩
  have hx1 : w1.heap[wr.heap.size + 1]? = some (entC state (.slice none 0 0) wr.heap.size) := by
    subst hw1; simp only [heap_alloc_get, World.size_alloc]; rw [if_pos trivial]; rfl
  have hm1 : w1.heap[wr.heap.size]? = some (.map #[] 0) := by
    subst hw1; simp only [heap_alloc_get, World.size_alloc]; rw [if_neg (by omega), if_pos trivial]
  have hcw1 : Chg (fun _ => False) w w1 := by subst hw1; exact (HC.out.alloc _).alloc _
  have HX1 := Lib.hid hx1
  have HM1 := Lib.hid hm1
  have HW1 := Lib.hid hw1
  have HCW1 := Lib.hid hcw1
  have hszw : w.heap.size ≤ wr.heap.size := HC.out.size
  clear hx1 hm1 hw1 hcw1 hlt hk
  go_wp2_with fail
  rw [← HW1.out]
  clear HW1
  obtain ⟨sz, hsz⟩ : ∃ sz, wr.heap.size = sz := ⟨_, rfl⟩
  rw [hsz] at HX1 HM1 hszw ⊢
  clear hsz HC hki
  go_loopw [52] (fun j w2 => ∃ k : Nat, j = .int .i64 k ∧ k ≤ ps.length ∧ ∃ pv, Ld w w1 w2 (sz + 1) sz state ps k pv) (fun j _ => ps.length - (intOf j).toNat)
  · exact ⟨0, rfl, Nat.zero_le _, .slice none 0 0, HX1.out, World.ownsRow_nil _ _ _ _, HM1.out, HCW1.out⟩
  clear HX1 HM1 HCW1
  obtain ⟨k, rfl, hk, pv, hLd⟩ := hrel
  have HLd := Lib.hid hLd
  obtain ⟨oav, cv, rfl⟩ := own_slice hLd.row
  clear hLd
  by_cases hlt : k < ps.length
  · have hki : (k : Int) < (ps.length : Int) := by omega
    obtain ⟨r, hr⟩ : ∃ r, ps[k]? = some r := ⟨ps[k], List.getElem?_eq_getElem hlt⟩
    have hcell := fun j v hj => (HP.out.kept HLd.out.chg (fun _ _ h => h)).cell b0 off rfl k (planC r) j v (by rw [List.getElem?_map, hr]; rfl) hj
    have d0 : wr.cell? ⟨b0, off + k * 2, none⟩ = some (.int .i64 r) := hcell 0 _ rfl
    have d1 : wr.cell? ⟨b0, off + k * 2 + 1, none⟩ = some (.slice none 0 0) := hcell 1 _ rfl
    have HR := Lib.hid hr
    have hxlt : sz + 1 < wr.heap.size := lt_of_block HLd.out.head
    clear hcell hr
    go_wp2_with (first
      | (go_at_call 55; refine (check_nil _).mono ?_; rintro e w2 ⟨rfl, rfl⟩
         obtain ⟨wb, hwb⟩ : ∃ wb, wr.alloc (.cells #[.int .i64 r, .slice none 0 0] 33) = wb := ⟨_, rfl⟩
         rw [hwb]
         have hbx : wb.heap[wr.heap.size]? = some (.cells #[.int .i64 r, .slice none 0 0] 33 (0, 0)) := by rw [← hwb]; exact block_alloc_new _ _
         have hcb : Chg (fun _ => False) wr wb := by rw [← hwb]; exact (Chg.refl _ _).alloc _
         have HBx := Lib.hid hbx
         have HCb := Lib.hid hcb
         have e0 : wb.cell? ⟨wr.heap.size, 0, none⟩ = some (.int .i64 r) := cell_of_block hbx rfl
         have e1 : wb.cell? ⟨wr.heap.size, 1, none⟩ = some (.slice none 0 0) := cell_of_block hbx rfl
         clear hwb hbx hcb))
    have hhd := HCb.out.at HLd.out.head id
    have d2 : wb.cell? ⟨sz + 1, 2, none⟩ = some (.slice oav k cv) := cell_of_block hhd rfl
    have hca := (((Chg.refl (fun _ => False) wb).drew).alloc (.cells (planC r).toArray 33))
    have d3 : (wb.alloc (.cells #[.int .i64 r, .slice none 0 0] 33)).cell? ⟨sz + 1, 2, none⟩ = some (.slice oav k cv) := ((Chg.refl (fun _ => False) wb).alloc _).cell d2 id
    have hrow0 := row_kept HLd.out.row (HCb.out.trans' hca) (fun _ _ h => h)
    obtain ⟨u', w6, hap, ho6, hg6, -, hvn⟩ := run_append_own_at (P := Try.prog) (wb.drew.alloc (.cells (planC r).toArray 33)) (sz + 1) 34 34 33 i0 (.agg (planC 0).toArray) 2 32 Try.underlying34 HI0.out.1 HI0.out.2.1 HI0.out.2.2.1 HI0.out.2.2.2 rfl (by decide)
      (.slice oav k cv) _ _ hrow0 ⟨wb.heap.size, 0, none⟩ 1 1 (planC r) rfl (cells_new wb.drew (planC r) _) (by intro x hx; simp only [planC, List.mem_cons, List.not_mem_nil, or_false] at hx; rcases hx with rfl | rfl <;> rfl) (by unfold maxLen; omega) (by omega) (by have := HCb.out.size; have := hca.size; omega)
    obtain ⟨oau, cu, rfl⟩ := own_slice ho6
    have hcg := Chg.of_grown hg6
    have hobx : ∀ g, (Value.slice oav k cv).ownBlock = some g → g < wr.heap.size := fun g hg => (HLd.out.row.lt g hg).2
    have hox : ∀ {W' : World} {v : Value} {kk bb : Nat} {xs : List Value}, W'.ownsRow bb 33 2 v kk xs → ∀ o, W'.heap[sz + 1]? = some (entC state o sz) → ¬ some (sz + 1) = v.ownBlock := fun hr o hob e => by
      obtain ⟨cur, hcu⟩ := row_obj hr e.symm
      rw [hob, entC] at hcu
      simp only [Option.some.injEq, Obj.cells.injEq] at hcu
      exact absurd hcu.2.1 (by decide)
    have hom : ∀ {W' : World} {v : Value} {kk bb : Nat} {xs : List Value}, W'.ownsRow bb 33 2 v kk xs → W'.heap[sz]? = some (.map #[] 0) → ¬ some sz = v.ownBlock := fun hr hob e => by
      obtain ⟨cur, hcu⟩ := row_obj hr e.symm
      rw [hob] at hcu; cases hcu
    have hh6 := hcg.at (hca.at hhd id) (fun e => hox HLd.out.row _ HLd.out.head e)
    have hm6 := hcg.at (hca.at (HCb.out.at HLd.out.mp id) id) (fun e => hom HLd.out.row HLd.out.mp e)
    have d6 : w6.cell? ⟨sz + 1, 2, none⟩ = some (.slice oav k cv) := cell_of_block hh6 rfl
    have z6 : w6.frozen? ⟨sz + 1, 2, none⟩ = false := free_of_block hh6
    have cs7 : Chg (· = sz + 1) w6 (w6.setCell ⟨sz + 1, 2, none⟩ (.slice oau (k + 1) cu)) := Chg.setCell (S := (· = sz + 1)) (Chg.refl _ _) (fun _ => rfl) _
    have hb4 := hca.at HBx.out id
    have hb6 := hcg.at hb4 (fun e => by have := hobx _ e.symm; omega)
    have hb7 := cs7.at hb6 (by omega)
    have hfin : Ld w w1 (w6.setCell ⟨sz + 1, 2, none⟩ (.slice oau (k + 1) cu)) (sz + 1) sz state ps (k + 1) (.slice oau (k + 1) cu) := by
      refine ⟨by rw [block_setCell hh6]; rfl, row_kept ?_ cs7 (fun g hg e => hox ho6 _ hh6 (by rw [hg, ← e])), cs7.at hm6 (by omega), (((HLd.out.chg.trans' HCb.out).trans' hca).new hcg (fun i e => ?_)).new cs7 (fun i e => by omega)⟩
      · rw [List.take_add_one, HR.out, Option.toList_some, List.map_append, List.flatten_append]
        simpa using ho6
      · have := (HLd.out.row.lt i e.symm).1; omega
    have HFin := Lib.hid hfin
    have HB4 := Lib.hid (And.intro (cell_of_block (i := 0) hb4 rfl) (cell_of_block (i := 1) hb4 rfl))
    have HB6 := Lib.hid (And.intro (cell_of_block (i := 0) hb6 rfl) (cell_of_block (i := 1) hb6 rfl))
    have HB7 := Lib.hid (And.intro (cell_of_block (i := 0) hb7 rfl) (cell_of_block (i := 1) hb7 rfl))
    clear hhd hca hrow0 ho6 hg6 hvn hcg hobx hox hom hh6 hm6 cs7 hb4 hb6 hb7 hfin
    refine wp_region_noPanic ?_
    refine wp_region_held_drew (S := (fun w' => w'.cell? ⟨wr.heap.size, 0, none⟩ = some (.int .i64 r) ∧ w'.cell? ⟨wr.heap.size, 1, none⟩ = some (.slice none 0 0))) (by kernel_rfl) (⟨e0, e1⟩) (fun hHeld => ?_)
    refine take_list (i := 0) (v := ?_) rfl (by kernel_rfl) (by kernel_rfl) (by kernel_rfl) (fun _ _ _ h => h) (Or.inl ⟨by rfl, fun w hSw => ?_⟩) hHeld ?_
    rotate_left
    · (skip; go_simp)
      try with_reducible rfl
    simp only [Act.put, List.setIfInBounds_toArray, List.set_cons_zero, List.set_cons_succ]
    refine take_list (i := 1) (v := ?_) rfl (by kernel_rfl) (by kernel_rfl) (by kernel_rfl) (fun _ _ _ h => h) (Or.inl ⟨by rfl, fun w hSw => ?_⟩) hHeld ?_
    rotate_left
    · (skip; go_simp)
      try with_reducible rfl
    simp only [Act.put, List.setIfInBounds_toArray, List.set_cons_zero, List.set_cons_succ]
    refine take_list (i := 2) (v := ?_) rfl (by kernel_rfl) (by kernel_rfl) (by kernel_rfl) (fun _ _ _ h => h) (Or.inl ⟨by rfl, fun w hSw => ?_⟩) hHeld ?_
    rotate_left
    · (skip; go_simp)
      try with_reducible rfl
    simp only [Act.put, List.setIfInBounds_toArray, List.set_cons_zero, List.set_cons_succ]
    refine take_list (i := 3) (v := ?_) rfl (by kernel_rfl) (by kernel_rfl) (by kernel_rfl) (fun _ _ _ h => h) (Or.inl ⟨by rfl, fun w hSw => ?_⟩) hHeld ?_
    rotate_left
    · (skip; go_simp)
      try with_reducible rfl
    simp only [Act.put, List.setIfInBounds_toArray, List.set_cons_zero, List.set_cons_succ]
    refine take_list (i := 5) (v := ?_) rfl (by kernel_rfl) (by kernel_rfl) (by kernel_rfl) (fun _ _ _ h => h) (Or.inl ⟨by rfl, fun w hSw => ?_⟩) hHeld ?_
    rotate_left
    · (obtain ⟨hSw1, hSw2⟩ := hSw; go_simp)
      try with_reducible rfl
    simp only [Act.put, List.setIfInBounds_toArray, List.set_cons_zero, List.set_cons_succ]
    refine take_list (i := 6) (v := ?_) rfl (by kernel_rfl) (by kernel_rfl) (by kernel_rfl) (fun _ _ _ h => h) (Or.inl ⟨by rfl, fun w hSw => ?_⟩) hHeld ?_
    rotate_left
    · (obtain ⟨hSw1, hSw2⟩ := hSw; go_simp)
      try with_reducible rfl
    simp only [Act.put, List.setIfInBounds_toArray, List.set_cons_zero, List.set_cons_succ]
    refine take_list (i := 7) (v := ?_) rfl (by kernel_rfl) (by kernel_rfl) (by kernel_rfl) (fun _ _ _ h => h) (Or.inl ⟨by rfl, fun w hSw => ?_⟩) hHeld ?_
    rotate_left
    · (obtain ⟨hSw1, hSw2⟩ := hSw; go_simp)
      try with_reducible rfl
    simp only [Act.put, List.setIfInBounds_toArray, List.set_cons_zero, List.set_cons_succ]
    refine take_list (i := 8) (v := ?_) rfl (by kernel_rfl) (by kernel_rfl) (by kernel_rfl) (fun _ _ _ h => h) (Or.inl ⟨by rfl, fun w hSw => ?_⟩) hHeld ?_
    rotate_left
    · (obtain ⟨hSw1, hSw2⟩ := hSw; go_simp)
      try with_reducible rfl
    simp only [Act.put, List.setIfInBounds_toArray, List.set_cons_zero, List.set_cons_succ]
    refine wpAnyH_ready (rs := [4, 9]) (by kernel_rfl) (by simp) (one_list (i := 4) rfl (by rfl) (fun K hK => ?_) (one_list (i := 9) rfl (by rfl) (fun K hK => ?_) AllReadyH.nil))
    · go_simp
      refine hK _ _ (⟨e0, e1⟩) (fun hH1 => ?_)
      try simp only [Act.put, List.setIfInBounds_toArray, List.set_cons_zero, List.set_cons_succ]
      refine wpAnyH_ready (rs := [9]) (by kernel_rfl) (by simp) (one_list (i := 9) rfl (by rfl) (fun K hK => ?_) AllReadyH.nil)
      go_simp
      refine (twin_nil _).mono ?_
      rintro e w5 ⟨rfl, rfl⟩
      dsimp only
      refine hK _ _ ⟨e0, e1⟩ (fun hH2 => ?_)
      try simp only [Act.put, List.setIfInBounds_toArray, List.set_cons_zero, List.set_cons_succ]
      refine take_list (i := 10) (v := ?_) rfl (by kernel_rfl) (by kernel_rfl) (by kernel_rfl) (fun _ _ _ h => h) (Or.inl ⟨by rfl, fun w hSw => ?_⟩) hH2 ?_
      rotate_left
      · (obtain ⟨hSw1, hSw2⟩ := hSw; go_simp)
        try with_reducible rfl
      simp only [Act.put, List.setIfInBounds_toArray, List.set_cons_zero, List.set_cons_succ]
      refine wpAnyH_ready (rs := [11]) (by kernel_rfl) (by simp) (one_list (i := 11) rfl (by rfl) (fun K hK => ?_) AllReadyH.nil)
      go_simp
      refine hK _ _ (HB4.out) (fun hH3 => ?_)
      try simp only [Act.put, List.setIfInBounds_toArray, List.set_cons_zero, List.set_cons_succ]
      refine wpAnyH_ready (rs := [12]) (by kernel_rfl) (by simp) (one_list (i := 12) rfl (by rfl) (fun K hK => ?_) AllReadyH.nil)
      refine oper_append _ _ _ rfl rfl rfl hap ?_
      refine hK _ _ (HB6.out) (fun hH4 => ?_)
      try simp only [Act.put, List.setIfInBounds_toArray, List.set_cons_zero, List.set_cons_succ]
      refine take_list (i := 13) (v := ?_) rfl (by kernel_rfl) (by kernel_rfl) (by kernel_rfl) (fun _ _ _ h => h) (Or.inl ⟨by rfl, fun w hSw => ?_⟩) hH4 ?_
      rotate_left
      · (skip; go_simp)
        try with_reducible rfl
      simp only [Act.put, List.setIfInBounds_toArray, List.set_cons_zero, List.set_cons_succ]
      refine take_list (i := 14) (v := ?_) rfl (by kernel_rfl) (by kernel_rfl) (by kernel_rfl) (fun _ _ _ h => h) (Or.inl ⟨by rfl, fun w hSw => ?_⟩) hH4 ?_
      rotate_left
      · (skip; go_simp)
        try with_reducible rfl
      simp only [Act.put, List.setIfInBounds_toArray, List.set_cons_zero, List.set_cons_succ]
      refine wpAnyH_ready (rs := [15]) (by kernel_rfl) (by simp) (one_list (i := 15) rfl (by rfl) (fun K hK => ?_) AllReadyH.nil)
      go_simp
      refine hK _ _ (HB7.out) (fun hH5 => ?_)
      try simp only [Act.put, List.setIfInBounds_toArray, List.set_cons_zero, List.set_cons_succ]
      refine wpAnyH_done (by kernel_rfl) ?_ _
      refine NoPanic.normal ?_
      go_wp2_with fail
      exact ⟨⟨k + 1, by go_num, hlt, _, HFin.out⟩, meas_step hlt⟩
    · go_simp
      refine (twin_nil _).mono ?_
      rintro e w5 ⟨rfl, rfl⟩
      dsimp only
      refine hK _ _ ⟨e0, e1⟩ (fun hH2 => ?_)
      try simp only [Act.put, List.setIfInBounds_toArray, List.set_cons_zero, List.set_cons_succ]
      refine take_list (i := 10) (v := ?_) rfl (by kernel_rfl) (by kernel_rfl) (by kernel_rfl) (fun _ _ _ h => h) (Or.inl ⟨by rfl, fun w hSw => ?_⟩) hH2 ?_
      rotate_left
      · (obtain ⟨hSw1, hSw2⟩ := hSw; go_simp)
        try with_reducible rfl
      simp only [Act.put, List.setIfInBounds_toArray, List.set_cons_zero, List.set_cons_succ]
      refine wpAnyH_ready (rs := [4, 11]) (by kernel_rfl) (by simp) (one_list (i := 4) rfl (by rfl) (fun K hK => ?_) (one_list (i := 11) rfl (by rfl) (fun K hK => ?_) AllReadyH.nil))
      · go_simp
        refine hK _ _ (⟨e0, e1⟩) (fun hH1 => ?_)
        try simp only [Act.put, List.setIfInBounds_toArray, List.set_cons_zero, List.set_cons_succ]
        refine wpAnyH_ready (rs := [11]) (by kernel_rfl) (by simp) (one_list (i := 11) rfl (by rfl) (fun K hK => ?_) AllReadyH.nil)
        go_simp
        refine hK _ _ (HB4.out) (fun hH3 => ?_)
        try simp only [Act.put, List.setIfInBounds_toArray, List.set_cons_zero, List.set_cons_succ]
        refine wpAnyH_ready (rs := [12]) (by kernel_rfl) (by simp) (one_list (i := 12) rfl (by rfl) (fun K hK => ?_) AllReadyH.nil)
        refine oper_append _ _ _ rfl rfl rfl hap ?_
        refine hK _ _ (HB6.out) (fun hH4 => ?_)
        try simp only [Act.put, List.setIfInBounds_toArray, List.set_cons_zero, List.set_cons_succ]
        refine take_list (i := 13) (v := ?_) rfl (by kernel_rfl) (by kernel_rfl) (by kernel_rfl) (fun _ _ _ h => h) (Or.inl ⟨by rfl, fun w hSw => ?_⟩) hH4 ?_
        rotate_left
        · (skip; go_simp)
          try with_reducible rfl
        simp only [Act.put, List.setIfInBounds_toArray, List.set_cons_zero, List.set_cons_succ]
        refine take_list (i := 14) (v := ?_) rfl (by kernel_rfl) (by kernel_rfl) (by kernel_rfl) (fun _ _ _ h => h) (Or.inl ⟨by rfl, fun w hSw => ?_⟩) hH4 ?_
        rotate_left
        · (skip; go_simp)
          try with_reducible rfl
        simp only [Act.put, List.setIfInBounds_toArray, List.set_cons_zero, List.set_cons_succ]
        refine wpAnyH_ready (rs := [15]) (by kernel_rfl) (by simp) (one_list (i := 15) rfl (by rfl) (fun K hK => ?_) AllReadyH.nil)
        go_simp
        refine hK _ _ (HB7.out) (fun hH5 => ?_)
        try simp only [Act.put, List.setIfInBounds_toArray, List.set_cons_zero, List.set_cons_succ]
        refine wpAnyH_done (by kernel_rfl) ?_ _
        refine NoPanic.normal ?_
        go_wp2_with fail
        exact ⟨⟨k + 1, by go_num, hlt, _, HFin.out⟩, meas_step hlt⟩
      · go_simp
        refine hK _ _ (HB4.out) (fun hH1 => ?_)
        try simp only [Act.put, List.setIfInBounds_toArray, List.set_cons_zero, List.set_cons_succ]
        refine wpAnyH_ready (rs := [4]) (by kernel_rfl) (by simp) (one_list (i := 4) rfl (by rfl) (fun K hK => ?_) AllReadyH.nil)
        go_simp
        refine hK _ _ (HB4.out) (fun hH3 => ?_)
        try simp only [Act.put, List.setIfInBounds_toArray, List.set_cons_zero, List.set_cons_succ]
        refine wpAnyH_ready (rs := [12]) (by kernel_rfl) (by simp) (one_list (i := 12) rfl (by rfl) (fun K hK => ?_) AllReadyH.nil)
        refine oper_append _ _ _ rfl rfl rfl hap ?_
        refine hK _ _ (HB6.out) (fun hH4 => ?_)
        try simp only [Act.put, List.setIfInBounds_toArray, List.set_cons_zero, List.set_cons_succ]
        refine take_list (i := 13) (v := ?_) rfl (by kernel_rfl) (by kernel_rfl) (by kernel_rfl) (fun _ _ _ h => h) (Or.inl ⟨by rfl, fun w hSw => ?_⟩) hH4 ?_
        rotate_left
        · (skip; go_simp)
          try with_reducible rfl
        simp only [Act.put, List.setIfInBounds_toArray, List.set_cons_zero, List.set_cons_succ]
        refine take_list (i := 14) (v := ?_) rfl (by kernel_rfl) (by kernel_rfl) (by kernel_rfl) (fun _ _ _ h => h) (Or.inl ⟨by rfl, fun w hSw => ?_⟩) hH4 ?_
        rotate_left
        · (skip; go_simp)
          try with_reducible rfl
        simp only [Act.put, List.setIfInBounds_toArray, List.set_cons_zero, List.set_cons_succ]
        refine wpAnyH_ready (rs := [15]) (by kernel_rfl) (by simp) (one_list (i := 15) rfl (by rfl) (fun K hK => ?_) AllReadyH.nil)
        go_simp
        refine hK _ _ (HB7.out) (fun hH5 => ?_)
        try simp only [Act.put, List.setIfInBounds_toArray, List.set_cons_zero, List.set_cons_succ]
        refine wpAnyH_done (by kernel_rfl) ?_ _
        refine NoPanic.normal ?_
        go_wp2_with fail
        exact ⟨⟨k + 1, by go_num, hlt, _, HFin.out⟩, meas_step hlt⟩
  · have hki : ¬ (k : Int) < (ps.length : Int) := by omega
    have hkl : k = ps.length := by omega
    obtain ⟨W1, hW1⟩ : ∃ x, x = wr := ⟨_, rfl⟩
    have hCo := H.out.fresh HLd.out.chg
    have c1 : wr.cell? ⟨c, 1, none⟩ = some (.map (some q)) := cell_of_block hCo.head rfl
    have hlk := hCo.mp.look Try.underlying71 (zero_ent _) false txn (WalkArith.wf_i64 (by omega))
    rw [HM.out] at hlk
    have hlk : (Instr.lookup 71 (.map (some q)) (.int .i64 txn) false).run Try.prog wr = .ok (.pointer none) wr := hlk
    obtain ⟨ob, hup, hmq⟩ := hCo.mp.put Try.underlying71 txn (WalkArith.wf_i64 (by omega)) (sz + 1)
    have hup : (Instr.mapUpdate 71 (.map (some q)) (.int .i64 txn) (.pointer (some ⟨sz + 1, 0, none⟩))).run Try.prog wr = .ok () (setBlock wr q ob) := hup
    have hcq : Chg (· = q) wr (setBlock wr q ob) := Chg.setBlock (S := (· = q)) (Chg.refl _ _) (fun _ => rfl) _
    have HCo := Lib.hid hCo
    have HMq := Lib.hid hmq
    have HCq := Lib.hid hcq
    clear hCo hmq hcq hW1
    go_wp2_with fail
    go_ret2
    have hqw : q < w.heap.size := H.out.lt q H.out.fq
    have hrow := HLd.out.row
    rw [show ps.take k = ps from by rw [hkl, List.take_length]] at hrow
    have hrow : wr.ownsRow (sz + 1) 33 2 (.slice oav k cv) (ps.map planC).length (ps.map planC).flatten := by rw [List.length_map, ← hkl]; exact hrow
    have hcq0 : ¬ sz + 1 = q := by omega
    have hqs : ¬ sz = q := by omega
    have hlt := lt_of_block HLd.out.head
    have hs := HCq.out.size
    refine ⟨_, rfl, ⟨_, sz, HCq.out.at HLd.out.head hcq0, ⟨World.ownsRow.mono (row_kept hrow HCq.out (fun g hg e => ?_)) (Nat.zero_le _), ?_⟩, MapIs.made (clock := 0) _ _ (HCq.out.at HLd.out.mp hqs), ⟨by omega, by omega⟩, ⟨by omega, by omega⟩, fun g hg => ?_, fun k hk => hk.2, HG.out.ok, HG.out.len⟩, ⟨?_, HMq.out, H.out.fc, H.out.fq, fun k hk => ?_⟩, (HLd.out.chg.mono (fun _ _ h => h.elim)).trans' HCq.out⟩
    · have := (hrow.lt g hg).1; omega
    · intro y hy
      obtain ⟨r, -, rfl⟩ := List.mem_map.1 hy
      rfl
    · have := hrow.lt g hg; exact ⟨by omega, by omega⟩
    · exact HCq.out.at HCo.out.head (fun e => by
        obtain ⟨es, clock, hb, _⟩ := HCo.out.mp
        have h1 := HCo.out.head
        rw [show c = q from e, hb] at h1
        cases h1)
    · have := H.out.lt k hk; have := HLd.out.chg.size; omega


theorem begin_any (w : World) (h : CoIs w c F lim m q) (txn : Int) (ht : 1 ≤ txn ∧ txn ≤ 1099511627776) (ps : List Int) (hg : Good ps) (oap : Option Addr) (cp : Nat) (hp : RowsAt w 2 oap (ps.map planC)) (hm : mget m txn = none) :
    Calls Try.prog 12 #[ptrV c, .int .i64 txn, .slice oap ps.length cp] w fun e w' => ∃ v x, e = .returned (.tuple #[v, .int .i64 0]) ∧ (∃ oa cap, v = .slice oa ps.length cap) ∧ (∃ F' pv qa, EntIs w' x F' ⟨1, 0, ps, []⟩ pv qa ∧ (∀ k, F' k → w.heap.size ≤ k)) ∧ CoIs w' c F lim (mput m txn x) q ∧ Chg (· = q) w w' := by
  have HE := Lib.hid (enter_any w h txn 1 ht ps hg oap cp hp hm)
  clear h hg hp hm
  unfold ptrV at HE ⊢
  go_enter Try.func12, Try.ntmps12
  go_wp2_with (first
    | (go_at_call 31; refine HE.out.mono ?_; rintro e w1 ⟨x, rfl, ⟨pv, qa, hE⟩, hC, hc1⟩
       have HEn := Lib.hid hE
       have HCo := Lib.hid hC
       have HC1 := Lib.hid hc1
       clear hE hC hc1)
    | (go_at_call 32; refine (all_any _ HEn.out _ _).mono ?_; rintro e w2 ⟨v, rfl, ho, hc2⟩
       have HO := Lib.hid ho
       have HC2 := Lib.hid hc2
       clear ho hc2))
  go_ret2
  obtain ⟨oa, cap, hv, -⟩ := HO.out.slice
  rw [List.length_map] at hv
  exact ⟨_, x, rfl, ⟨oa, cap, hv⟩, ⟨_, pv, qa, HEn.out.fresh HC2.out, fun k hk => hk.1⟩, HCo.out.fresh HC2.out, HC1.out.trans' (HC2.out.mono (fun _ _ h => h.elim))⟩

end Go.Proofs.Ytogjjkbgagedpaa.coords
