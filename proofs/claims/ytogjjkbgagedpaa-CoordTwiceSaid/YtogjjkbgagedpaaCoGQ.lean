/-
  coord, of any plans: enter.
-/
import Derived.Test.YtogjjkbgagedpaaCoGM
namespace Go.Proofs.Ytogjjkbgagedpaa.coordg
open Go.RowKit Go.Maps Go.My Go.ChangeMaps coords
set_option maxRecDepth 100000

variable {w w' : World} {c q : Nat} {F : Nat → Prop} {lim : Int} {m : List (Int × Nat)}

theorem PkR.pack {w : World} {F : Nat → Prop} {r : List Value} (h : PkR w F r) : PackOk w r := by
  obtain ⟨ow, nm, vr, oa, rows, cap, h1, h2, h3, h4, h5, -⟩ := h.is
  exact ⟨ow, nm, vr, oa, rows, cap, h1, h2, h3, h4, h5⟩

/-- The first k plans are of roots, one behind the other. -/
structure Asc (ps : List Int) (k : Nat) : Prop where
  ok : ∀ r ∈ ps.take k, 1 ≤ r ∧ r ≤ 6
  last : (k : Int) ≤ lastOf ps k ∧ lastOf ps k ≤ 6

/-- The state of the second loop. -/
structure Le (w wr : World) (x qa : Nat) (state : Int) (ps : List Int) (k : Nat) (pv : Value) (pk : List Value) : Prop where
  head : wr.heap[x]? = some (entC state pv qa)
  row : OwnRecs wr x 33 2 pv (List.zipWith planG (ps.take k) pk)
  len : pk.length = k
  mp : wr.heap[qa]? = some (.map #[] 0)
  pks : ∀ p ∈ pk, PkOk wr (fun b => x < b ∧ b < wr.heap.size ∧ pv.ownBlock ≠ some b) p
  chg : Chg (fun _ => False) w wr

def EnterR (w w' : World) (c q : Nat) (F : Nat → Prop) (lim : Int) (m : List (Int × Nat)) (txn state : Int) (ps : List Int) (e : Ending) : Prop :=
  (∃ n, e = .returned (.tuple #[.pointer none, .int .i64 n]) ∧ n ≠ 0 ∧ Chg (fun _ => False) w w') ∨
  (∃ x pv qa pk, e = .returned (.tuple #[ptrV x, .int .i64 0]) ∧ EntIs w' x (born w w') ⟨state, 0, ps, pk, []⟩ pv qa ∧ CoIs w' c F lim (mput m txn x) q ∧ mget m txn = none ∧ (1 ≤ txn ∧ txn ≤ 1099511627776) ∧ Chg (· = q) w w')



set_option maxHeartbeats 4000000 in
theorem enter_gen (w : World) (h : CoIs w c F lim m q) (txn state : Int) (ht : inR txn) (ps : List Int) (pk : List Value) (hpl : pk.length = ps.length) (hl : ps.length ≤ 10) (oap : Option Addr) (cp : Nat) (hp : RowsAt w 2 oap (List.zipWith planG ps pk)) {G : Nat → Prop} (hpk : ∀ p ∈ pk, PkOk w G p) :
    Calls Try.prog 31 #[ptrV c, .int .i64 txn, .int .i64 state, .slice oap ps.length cp] w fun e w' => EnterR w w' c q F lim m txn state ps e := by
  have hmm := @run_makeMap Try.prog
  obtain ⟨i0, hI0⟩ := info_parts info_plan
  have HI0 := Lib.hid hI0
  have H := Lib.hid h
  have HP := Lib.hid hp
  have HPk := Lib.hid hpk
  have HPl := Lib.hid hpl
  have HT := Lib.hid ht
  clear h hp hpk hpl hI0 ht
  unfold ptrV
  by_cases t1 : txn < 1
  · go_enter Try.func31, Try.ntmps31
    go_wp2_with (first
      | (go_at_call 34; refine (none_no _ H.out).mono ?_; rintro e w1 ⟨rfl, rfl⟩))
    go_ret2
    exact Or.inl ⟨_, rfl, by decide, Chg.refl _ _⟩
  by_cases t2 : 1099511627776 < txn
  · go_enter Try.func31, Try.ntmps31
    go_wp2_with (first
      | (go_at_call 34; refine (none_no _ H.out).mono ?_; rintro e w1 ⟨rfl, rfl⟩))
    go_ret2
    exact Or.inl ⟨_, rfl, by decide, Chg.refl _ _⟩
  have HTx := Lib.hid (show 1 ≤ txn ∧ txn ≤ 1099511627776 by omega)
  go_enter Try.func31, Try.ntmps31
  go_wp2_with (first
    | (go_at_call 34; refine (none_no _ H.out).mono ?_; rintro e w1 ⟨rfl, rfl⟩))
  go_loopw [10, 27] (fun l j wr => ∃ k : Nat, j = .int .i64 k ∧ k ≤ ps.length ∧ l = .int .i64 (lastOf ps k) ∧ Asc ps k ∧ Chg (fun _ => False) w wr) (fun _ j _ => ps.length - (intOf j).toNat)
  · exact ⟨0, rfl, Nat.zero_le _, rfl, ⟨by simp, by simp [lastOf]⟩, Chg.refl _ _⟩
  obtain ⟨k, rfl, hk, rfl, hA, hc⟩ := hrel
  have HC := Lib.hid hc
  have HA := Lib.hid hA
  clear hc hA
  by_cases hlt : k < ps.length
  · have hki : (k : Int) < (ps.length : Int) := by omega
    obtain ⟨r, hr⟩ : ∃ r, ps[k]? = some r := ⟨ps[k], List.getElem?_eq_getElem hlt⟩
    obtain ⟨p, hpk⟩ : ∃ p, pk[k]? = some p := ⟨pk[k]'(by have := HPl.out; omega), List.getElem?_eq_getElem _⟩
    obtain ⟨op, cpp, rws, rfl, -⟩ := (HPk.out p (List.mem_of_getElem? hpk)).is
    obtain ⟨b0, off, rfl⟩ := HP.out.spot (by intro e; have h1 := congrArg List.length e; rw [List.length_zipWith, HPl.out] at h1; simp at h1; rw [h1] at hlt; simp at hlt)
    have hcell := fun j v hj => (HP.out.kept HC.out (fun _ _ h => h)).cell b0 off rfl k (planG r (.slice op rws.length cpp)) j v (by rw [List.getElem?_zipWith, hr, hpk]) hj
    have d0 : wr.cell? ⟨b0, off + k * 2, none⟩ = some (.int .i64 r) := hcell 0 _ rfl
    have d1 : wr.cell? ⟨b0, off + k * 2 + 1, none⟩ = some (.slice op rws.length cpp) := hcell 1 _ rfl
    have hl1 : lastOf ps (k + 1) = r := by simp [lastOf, hr]
    have HL1 := Lib.hid hl1
    have HR := Lib.hid hr
    clear hcell hr hl1 hpk
    by_cases r1 : r ≤ lastOf ps k
    · go_wp2_with fail
      go_ret2
      exact Or.inl ⟨_, rfl, by decide, HC.out.alloc _⟩
    by_cases r2 : 6 < r
    · go_wp2_with fail
      go_ret2
      exact Or.inl ⟨_, rfl, by decide, HC.out.alloc _⟩
    have HR2 := Lib.hid (And.intro r1 r2)
    go_wp2_with fail
    refine ⟨⟨k + 1, by go_num, hlt, by rw [HL1.out], ⟨fun z hz => ?_, ?_⟩, HC.out.alloc _⟩, meas_step hlt⟩
    · rw [List.take_add_one, HR.out, Option.toList_some] at hz
      rcases List.mem_append.1 hz with h | h
      · exact HA.out.ok z h
      · rw [List.mem_singleton.1 h]
        have h1 := HR2.out
        have h2 := HA.out.last
        omega
    · rw [HL1.out]
      have h1 := HR2.out
      have h2 := HA.out.last
      omega
  have hki : ¬ (k : Int) < (ps.length : Int) := by omega
  have hkl : k = ps.length := by omega
  have HAll := Lib.hid (show (∀ r ∈ ps, 1 ≤ r ∧ r ≤ 6) ∧ ps.length ≤ 6 from by
    have h1 := HA.out.ok
    have h2 := HA.out.last
    rw [hkl, List.take_length] at h1
    exact ⟨h1, by omega⟩)
  clear hkl hlt hk
  by_cases h0 : ps.length = 0
  · have hne0 : ((ps.length : Int) == 0) = true := by rw [h0]; rfl
    go_wp2_with fail
    go_ret2
    exact Or.inl ⟨_, rfl, by decide, HC.out⟩
  have hne0 : ((ps.length : Int) == 0) = false := by rw [beq_eq_false_iff_ne]; omega
  obtain ⟨w1, hw1⟩ : ∃ w1, w1 = (wr.alloc (.map #[] 0)).alloc (.cells #[.int .i64 state, .int .i64 0, .slice none 0 0, .map (some wr.heap.size)] 86) := ⟨_, rfl⟩
  have hx1 : w1.heap[wr.heap.size + 1]? = some (entC state (.slice none 0 0) wr.heap.size) := by
    subst hw1; simp only [heap_alloc_get, World.size_alloc]; rw [if_pos trivial]; rfl
  have hm1 : w1.heap[wr.heap.size]? = some (.map #[] 0) := by
    subst hw1; simp only [heap_alloc_get, World.size_alloc]; rw [if_neg (by omega), if_pos trivial]
  have hcw1 : Chg (fun _ => False) w w1 := by subst hw1; exact (HC.out.alloc _).alloc _
  have HX1 := Lib.hid hx1
  have HM1 := Lib.hid hm1
  have HW1 := Lib.hid hw1
  have HCW1 := Lib.hid hcw1
  have hszw : w.heap.size ≤ wr.heap.size := HC.out.size
  clear hx1 hm1 hw1 hcw1 h0
  go_wp2_with fail
  rw [← HW1.out]
  clear HW1
  obtain ⟨sz, hsz⟩ : ∃ sz, wr.heap.size = sz := ⟨_, rfl⟩
  rw [hsz] at HX1 HM1 hszw ⊢
  clear hsz HC hki HA
  go_loopw [52] (fun j w2 => ∃ k : Nat, j = .int .i64 k ∧ k ≤ ps.length ∧ ∃ pv pk', Le w w2 (sz + 1) sz state ps k pv pk') (fun j _ => ps.length - (intOf j).toNat)
  · exact ⟨0, rfl, Nat.zero_le _, .slice none 0 0, [], HX1.out, OwnRecs.nil _ _ _ _, rfl, HM1.out, by simp, HCW1.out⟩
  clear HX1 HM1 HCW1
  obtain ⟨k, rfl, hk, pv, pk', hLd⟩ := hrel
  have HLd := Lib.hid hLd
  obtain ⟨oav, cv, hpv, -⟩ := hLd.row.slice
  have hzl : (List.zipWith planG (ps.take k) pk').length = k := by rw [List.length_zipWith, hLd.len, List.length_take]; omega
  rw [hzl] at hpv
  subst hpv
  have HZl := Lib.hid hzl
  clear hLd hzl
  by_cases hlt : k < ps.length
  · have hki : (k : Int) < (ps.length : Int) := by omega
    obtain ⟨r, hr⟩ : ∃ r, ps[k]? = some r := ⟨ps[k], List.getElem?_eq_getElem hlt⟩
    obtain ⟨p, hpk⟩ : ∃ p, pk[k]? = some p := ⟨pk[k]'(by have := HPl.out; omega), List.getElem?_eq_getElem _⟩
    have hpok := HPk.out p (List.mem_of_getElem? hpk)
    obtain ⟨op, cpp, rws, rfl, hrw, hrk, -, -, hcc1, hcc2⟩ := hpok.is
    obtain ⟨b0, off, rfl⟩ := HP.out.spot (by intro e; have h1 := congrArg List.length e; rw [List.length_zipWith, HPl.out] at h1; simp at h1; rw [h1] at hlt; simp at hlt)
    have hcell := fun j v hj => (HP.out.kept HLd.out.chg (fun _ _ h => h)).cell b0 off rfl k (planG r (.slice op rws.length cpp)) j v (by rw [List.getElem?_zipWith, hr, hpk]) hj
    have d0 : wr.cell? ⟨b0, off + k * 2, none⟩ = some (.int .i64 r) := hcell 0 _ rfl
    have d1 : wr.cell? ⟨b0, off + k * 2 + 1, none⟩ = some (.slice op rws.length cpp) := hcell 1 _ rfl
    have HR := Lib.hid hr
    have hxlt : sz + 1 < wr.heap.size := lt_of_block HLd.out.head
    have hca0 := (Chg.refl (fun _ => False) wr).alloc (.cells #[.int .i64 r, .slice op rws.length cpp] 33)
    have hCk := check_any (wr.alloc (.cells #[.int .i64 r, .slice op rws.length cpp] 33)) op cpp rws (hrw.kept (HLd.out.chg.trans' hca0) (fun _ _ h => h)) (fun x hx => ((hrk x hx).kept (S := fun _ => False) (HLd.out.chg.trans' hca0) (fun _ _ h => h)).pack) hcc1 hcc2
    have HCk := Lib.hid hCk
    have HPok := Lib.hid hpok
    have HBn := Lib.hid (block_alloc_new wr (.cells #[.int .i64 r, .slice op rws.length cpp] 33))
    have HCa0 := Lib.hid hca0
    clear hcell hr hpk hpok hrw hrk hcc1 hcc2 hCk hca0
    go_wp2_with (first
      | (go_at_call 55; fail))
    refine HCk.out.mono ?_
    rintro e wb ⟨⟨ck, rfl⟩, hcb0⟩
    have hcb : Chg (fun _ => False) wr wb := HCa0.out.trans' hcb0
    have hbx : wb.heap[wr.heap.size]? = some (.cells #[.int .i64 r, .slice op rws.length cpp] 33 (0, 0)) := hcb0.at HBn.out id
    have HBx := Lib.hid hbx
    have HCb := Lib.hid hcb
    have e0 : wb.cell? ⟨wr.heap.size, 0, none⟩ = some (.int .i64 r) := cell_of_block hbx rfl
    have e1 : wb.cell? ⟨wr.heap.size, 1, none⟩ = some (.slice op rws.length cpp) := cell_of_block hbx rfl
    clear hcb0 hbx hcb HCk HCa0 HBn
    dsimp only
    by_cases hck : ck = 0
    · subst hck
      go_wp2_with fail
      have d2 : wb.cell? ⟨sz + 1, 2, none⟩ = some (.slice oav k cv) := cell_of_block (HCb.out.at HLd.out.head id) rfl
      have HPkB := Lib.hid (HPok.out.kept (S := fun _ => False) (HLd.out.chg.trans' HCb.out.drew) (fun _ _ h => h))
      refine wp_region_noPanic ?_
      refine wp_region_held_drew (S := (fun w' => w'.cell? ⟨wr.heap.size, 0, none⟩ = some (.int .i64 r) ∧ w'.cell? ⟨wr.heap.size, 1, none⟩ = some (.slice op rws.length cpp))) (by kernel_rfl) (⟨e0, e1⟩) (fun hHeld => ?_)
      refine take_list (i := 0) (v := ?_) rfl (by kernel_rfl) (by kernel_rfl) (by kernel_rfl) (fun _ _ _ h => h) (Or.inl ⟨by rfl, fun w hSw => ?_⟩) hHeld ?_
      rotate_left
      · (skip; go_simp)
        try with_reducible rfl
      simp only [Act.put, List.setIfInBounds_toArray, List.set_cons_zero, List.set_cons_succ]
      refine take_list (i := 1) (v := ?_) rfl (by kernel_rfl) (by kernel_rfl) (by kernel_rfl) (fun _ _ _ h => h) (Or.inl ⟨by rfl, fun w hSw => ?_⟩) hHeld ?_
      rotate_left
      · (skip; go_simp)
        try with_reducible rfl
      simp only [Act.put, List.setIfInBounds_toArray, List.set_cons_zero, List.set_cons_succ]
      refine take_list (i := 2) (v := ?_) rfl (by kernel_rfl) (by kernel_rfl) (by kernel_rfl) (fun _ _ _ h => h) (Or.inl ⟨by rfl, fun w hSw => ?_⟩) hHeld ?_
      rotate_left
      · (skip; go_simp)
        try with_reducible rfl
      simp only [Act.put, List.setIfInBounds_toArray, List.set_cons_zero, List.set_cons_succ]
      refine take_list (i := 3) (v := ?_) rfl (by kernel_rfl) (by kernel_rfl) (by kernel_rfl) (fun _ _ _ h => h) (Or.inl ⟨by rfl, fun w hSw => ?_⟩) hHeld ?_
      rotate_left
      · (skip; go_simp)
        try with_reducible rfl
      simp only [Act.put, List.setIfInBounds_toArray, List.set_cons_zero, List.set_cons_succ]
      refine take_list (i := 5) (v := ?_) rfl (by kernel_rfl) (by kernel_rfl) (by kernel_rfl) (fun _ _ _ h => h) (Or.inl ⟨by rfl, fun w hSw => ?_⟩) hHeld ?_
      rotate_left
      · (obtain ⟨hSw1, hSw2⟩ := hSw; go_simp)
        try with_reducible rfl
      simp only [Act.put, List.setIfInBounds_toArray, List.set_cons_zero, List.set_cons_succ]
      refine take_list (i := 6) (v := ?_) rfl (by kernel_rfl) (by kernel_rfl) (by kernel_rfl) (fun _ _ _ h => h) (Or.inl ⟨by rfl, fun w hSw => ?_⟩) hHeld ?_
      rotate_left
      · (obtain ⟨hSw1, hSw2⟩ := hSw; go_simp)
        try with_reducible rfl
      simp only [Act.put, List.setIfInBounds_toArray, List.set_cons_zero, List.set_cons_succ]
      refine take_list (i := 7) (v := ?_) rfl (by kernel_rfl) (by kernel_rfl) (by kernel_rfl) (fun _ _ _ h => h) (Or.inl ⟨by rfl, fun w hSw => ?_⟩) hHeld ?_
      rotate_left
      · (obtain ⟨hSw1, hSw2⟩ := hSw; go_simp)
        try with_reducible rfl
      simp only [Act.put, List.setIfInBounds_toArray, List.set_cons_zero, List.set_cons_succ]
      refine take_list (i := 8) (v := ?_) rfl (by kernel_rfl) (by kernel_rfl) (by kernel_rfl) (fun _ _ _ h => h) (Or.inl ⟨by rfl, fun w hSw => ?_⟩) hHeld ?_
      rotate_left
      · (obtain ⟨hSw1, hSw2⟩ := hSw; go_simp)
        try with_reducible rfl
      simp only [Act.put, List.setIfInBounds_toArray, List.set_cons_zero, List.set_cons_succ]
      refine wpAnyH_ready (rs := [4, 9]) (by kernel_rfl) (by simp) (one_list (i := 4) rfl (by rfl) (fun K hK => ?_) (one_list (i := 9) rfl (by rfl) (fun K hK => ?_) AllReadyH.nil))
      · go_simp
        refine hK _ _ (⟨e0, e1⟩) (fun hH1 => ?_)
        try simp only [Act.put, List.setIfInBounds_toArray, List.set_cons_zero, List.set_cons_succ]
        refine wpAnyH_ready (rs := [9]) (by kernel_rfl) (by simp) (one_list (i := 9) rfl (by rfl) (fun K hK => ?_) AllReadyH.nil)
        go_simp
        refine (twin_any _ _ HPkB.out).mono ?_
        rintro e w5 ⟨v5, rfl, hpk5, hc5⟩
        obtain ⟨ov5, cv5, rows5, hv5, -⟩ := hpk5.is
        subst hv5
        have HPk5 := Lib.hid hpk5
        have hhd5 := hc5.at (show wb.drew.heap[sz + 1]? = _ from HCb.out.at HLd.out.head id) id
        have hmp5 := hc5.at (show wb.drew.heap[sz]? = _ from HCb.out.at HLd.out.mp id) id
        have hbx5 := hc5.at (show wb.drew.heap[wr.heap.size]? = _ from HBx.out) id
        have d25 : w5.cell? ⟨sz + 1, 2, none⟩ = some (.slice oav k cv) := cell_of_block hhd5 rfl
        have HB5 := Lib.hid (And.intro (cell_of_block (i := 0) hbx5 rfl) (cell_of_block (i := 1) hbx5 rfl))
        have hca := (Chg.refl (fun _ => False) w5).alloc (.cells #[.int .i64 r, .slice ov5 rows5.length cv5] 33)
        have d35 : (w5.alloc (.cells #[.int .i64 r, .slice ov5 rows5.length cv5] 33)).cell? ⟨sz + 1, 2, none⟩ = some (.slice oav k cv) := hca.cell d25 id
        have hcr : Chg (fun _ => False) wr (w5.alloc (.cells #[.int .i64 r, .slice ov5 rows5.length cv5] 33)) := (HCb.out.drew.trans' hc5).trans' hca
        have hrow0 := (HLd.out.row.kept hcr (fun _ _ h => h)).row
        rw [HZl.out] at hrow0
        obtain ⟨u', w6, hap, ho6, hg6, -, hvn⟩ := run_append_own_at (P := Try.prog) (w5.alloc (.cells #[.int .i64 r, .slice ov5 rows5.length cv5] 33)) (sz + 1) 34 34 33 i0 (.agg (coords.planC 0).toArray) 2 32 Try.underlying34 HI0.out.1 HI0.out.2.1 HI0.out.2.2.1 HI0.out.2.2.2 rfl (by decide)
          (.slice oav k cv) _ _ hrow0 ⟨w5.heap.size, 0, none⟩ 1 1 (planG r (.slice ov5 rows5.length cv5)) rfl (cells_new w5 (planG r (.slice ov5 rows5.length cv5)) _) (by intro x hx; simp only [planG, List.mem_cons, List.not_mem_nil, or_false] at hx; rcases hx with rfl | rfl <;> rfl) (by unfold maxLen; omega) (by omega) (by have := hcr.size; omega)
        obtain ⟨oau, cu, rfl⟩ := own_slice ho6
        have hcg := Chg.of_grown hg6
        have hown : ∀ b, (Value.slice oav k cv).ownBlock = some b → sz + 1 ≤ b ∧ b < wr.heap.size := fun b hb => HLd.out.row.lt hb
        have hox : ¬ some (sz + 1) = (Value.slice oav k cv).ownBlock := fun e => by
          obtain ⟨cur, hcu⟩ := row_obj HLd.out.row.row e.symm
          rw [HLd.out.head, entC] at hcu
          simp only [Option.some.injEq, Obj.cells.injEq] at hcu
          exact absurd hcu.2.1 (by decide)
        have hox' : ¬ some (sz + 1) = (Value.slice oau (k + 1) cu).ownBlock := fun e => by
          rcases hvn with h1 | h1
          · exact hox (e.trans h1)
          · have h2 : some (sz + 1) = some ((w5.alloc (.cells #[.int .i64 r, .slice ov5 rows5.length cv5] 33)).heap.size) := e.trans h1
            have h3 := Option.some.inj h2
            have := hcr.size
            omega
        have hom : ¬ some sz = (Value.slice oav k cv).ownBlock := fun e => by have := hown _ e.symm; omega
        have hh6 := hcg.at (hca.at hhd5 id) hox
        have hm6 := hcg.at (hca.at hmp5 id) hom
        have d6 : w6.cell? ⟨sz + 1, 2, none⟩ = some (.slice oav k cv) := cell_of_block hh6 rfl
        have z6 : w6.frozen? ⟨sz + 1, 2, none⟩ = false := free_of_block hh6
        have cs7 : Chg (· = sz + 1) w6 (w6.setCell ⟨sz + 1, 2, none⟩ (.slice oau (k + 1) cu)) := Chg.setCell (S := (· = sz + 1)) (Chg.refl _ _) (fun _ => rfl) _
        have hb4 := hca.at hbx5 id
        have hb6 := hcg.at hb4 (fun e => by have := hown _ e.symm; omega)
        have hb7 := cs7.at hb6 (by omega)
        have hc7 : Chg (fun b => b = sz + 1 ∨ some b = (Value.slice oav k cv).ownBlock) (w5.alloc (.cells #[.int .i64 r, .slice ov5 rows5.length cv5] 33)) (w6.setCell ⟨sz + 1, 2, none⟩ (.slice oau (k + 1) cu)) := (hcg.mono (fun _ _ h => Or.inr h)).trans' (cs7.mono (fun _ _ h => Or.inl h))
        have hs7 := hc7.size
        have hs0 := hcr.size
        have hs5 := hca.size
        have hnew : ∀ b, b < (w5.alloc (.cells #[.int .i64 r, .slice ov5 rows5.length cv5] 33)).heap.size → (Value.slice oav k cv).ownBlock ≠ some b → (Value.slice oau (k + 1) cu).ownBlock ≠ some b := fun b hb hne e => by
          rcases hvn with h1 | h1
          · exact hne (h1.symm.trans e)
          · have h2 := Option.some.inj (h1.symm.trans e)
            have h3 : (w5.alloc (.cells #[.int .i64 r, .slice ov5 rows5.length cv5] 33)).heap.size = b := h2
            omega
        have hfin : Le w (w6.setCell ⟨sz + 1, 2, none⟩ (.slice oau (k + 1) cu)) (sz + 1) sz state ps (k + 1) (.slice oau (k + 1) cu) (pk' ++ [.slice ov5 rows5.length cv5]) := by
          have hzz : List.zipWith planG (ps.take (k + 1)) (pk' ++ [.slice ov5 rows5.length cv5]) = List.zipWith planG (ps.take k) pk' ++ [planG r (.slice ov5 rows5.length cv5)] := by
            rw [List.take_add_one, HR.out, Option.toList_some, List.zipWith_append (by rw [HLd.out.len, List.length_take]; omega)]
            rfl
          refine ⟨by rw [block_setCell hh6]; rfl, ?_, by rw [List.length_append, HLd.out.len]; rfl, cs7.at hm6 (by omega), fun p hp => ?_, (HLd.out.chg.trans' hcr).new hc7 (fun b e => ?_)⟩
          · rw [hzz]
            have hz2 : (List.zipWith planG (ps.take k) pk' ++ [planG r (.slice ov5 rows5.length cv5)]).length = k + 1 := by rw [List.length_append, HZl.out]; rfl
            refine ⟨?_, fun y hy => ?_⟩
            · rw [hz2, List.flatten_append]
              have h1 := row_kept ho6 cs7 (fun g hg e => hox' (by rw [← e]; exact hg.symm))
              simpa using h1
            · rcases List.mem_append.1 hy with h1 | h1
              · exact HLd.out.row.each y h1
              · rw [List.mem_singleton.1 h1]; rfl
          · rcases List.mem_append.1 hp with h1 | h1
            · refine (((HLd.out.pks p h1).kept hcr (fun _ _ h => h)).kept hc7 (fun b hb e => ?_)).wide (fun b hb => ⟨hb.1, by have := hb.2.1; omega, hnew b (by have := hb.2.1; omega) hb.2.2⟩)
              rcases e with e | e
              · have := hb.1; omega
              · exact hb.2.2 e.symm
            · rw [List.mem_singleton.1 h1]
              have hwb : wr.heap.size ≤ wb.heap.size := HCb.out.size
              have hwd : wb.drew.heap.size = wb.heap.size := rfl
              refine ((HPk5.out.kept hca (fun _ _ h => h)).kept hc7 (fun b hb e => ?_)).wide (fun b hb => ⟨by have := hb.1; omega, by have := hb.2; omega, hnew b (by have := hb.2; omega) (fun e => by have h2 := hown b e; have := hb.1; omega)⟩)
              rcases e with e | e
              · have := hb.1; omega
              · have h2 := hown b e.symm; have := hb.1; omega
          · rcases e with e | e
            · omega
            · have := hown b e.symm; omega
        have HFin := Lib.hid hfin
        have HB4 := Lib.hid (And.intro (cell_of_block (i := 0) hb4 rfl) (cell_of_block (i := 1) hb4 rfl))
        have HB6 := Lib.hid (And.intro (cell_of_block (i := 0) hb6 rfl) (cell_of_block (i := 1) hb6 rfl))
        have HB7 := Lib.hid (And.intro (cell_of_block (i := 0) hb7 rfl) (cell_of_block (i := 1) hb7 rfl))
        clear hpk5 hhd5 hmp5 hbx5 hrow0 ho6 hg6 hvn hcg hown hox hox' hom hh6 hm6 cs7 hb4 hb6 hb7 hc7 hs7 hs0 hs5 hnew hfin hcr hca hc5
        dsimp only
        refine hK _ _ HB5.out (fun hH2 => ?_)
        try simp only [Act.put, List.setIfInBounds_toArray, List.set_cons_zero, List.set_cons_succ]
        refine take_list (i := 10) (v := ?_) rfl (by kernel_rfl) (by kernel_rfl) (by kernel_rfl) (fun _ _ _ h => h) (Or.inl ⟨by rfl, fun w hSw => ?_⟩) hH2 ?_
        rotate_left
        · (obtain ⟨hSw1, hSw2⟩ := hSw; go_simp)
          try with_reducible rfl
        simp only [Act.put, List.setIfInBounds_toArray, List.set_cons_zero, List.set_cons_succ]
        refine wpAnyH_ready (rs := [11]) (by kernel_rfl) (by simp) (one_list (i := 11) rfl (by rfl) (fun K hK => ?_) AllReadyH.nil)
        go_simp
        refine hK _ _ (HB4.out) (fun hH3 => ?_)
        try simp only [Act.put, List.setIfInBounds_toArray, List.set_cons_zero, List.set_cons_succ]
        refine wpAnyH_ready (rs := [12]) (by kernel_rfl) (by simp) (one_list (i := 12) rfl (by rfl) (fun K hK => ?_) AllReadyH.nil)
        refine oper_append _ _ _ rfl rfl rfl hap ?_
        refine hK _ _ (HB6.out) (fun hH4 => ?_)
        try simp only [Act.put, List.setIfInBounds_toArray, List.set_cons_zero, List.set_cons_succ]
        refine take_list (i := 13) (v := ?_) rfl (by kernel_rfl) (by kernel_rfl) (by kernel_rfl) (fun _ _ _ h => h) (Or.inl ⟨by rfl, fun w hSw => ?_⟩) hH4 ?_
        rotate_left
        · (skip; go_simp)
          try with_reducible rfl
        simp only [Act.put, List.setIfInBounds_toArray, List.set_cons_zero, List.set_cons_succ]
        refine take_list (i := 14) (v := ?_) rfl (by kernel_rfl) (by kernel_rfl) (by kernel_rfl) (fun _ _ _ h => h) (Or.inl ⟨by rfl, fun w hSw => ?_⟩) hH4 ?_
        rotate_left
        · (skip; go_simp)
          try with_reducible rfl
        simp only [Act.put, List.setIfInBounds_toArray, List.set_cons_zero, List.set_cons_succ]
        refine wpAnyH_ready (rs := [15]) (by kernel_rfl) (by simp) (one_list (i := 15) rfl (by rfl) (fun K hK => ?_) AllReadyH.nil)
        go_simp
        refine hK _ _ (HB7.out) (fun hH5 => ?_)
        try simp only [Act.put, List.setIfInBounds_toArray, List.set_cons_zero, List.set_cons_succ]
        refine wpAnyH_done (by kernel_rfl) ?_ _
        refine NoPanic.normal ?_
        go_wp2_with fail
        exact ⟨⟨k + 1, by go_num, hlt, _, _, HFin.out⟩, meas_step hlt⟩
      · go_simp
        refine (twin_any _ _ HPkB.out).mono ?_
        rintro e w5 ⟨v5, rfl, hpk5, hc5⟩
        obtain ⟨ov5, cv5, rows5, hv5, -⟩ := hpk5.is
        subst hv5
        have HPk5 := Lib.hid hpk5
        have hhd5 := hc5.at (show wb.drew.heap[sz + 1]? = _ from HCb.out.at HLd.out.head id) id
        have hmp5 := hc5.at (show wb.drew.heap[sz]? = _ from HCb.out.at HLd.out.mp id) id
        have hbx5 := hc5.at (show wb.drew.heap[wr.heap.size]? = _ from HBx.out) id
        have d25 : w5.cell? ⟨sz + 1, 2, none⟩ = some (.slice oav k cv) := cell_of_block hhd5 rfl
        have HB5 := Lib.hid (And.intro (cell_of_block (i := 0) hbx5 rfl) (cell_of_block (i := 1) hbx5 rfl))
        have hca := (Chg.refl (fun _ => False) w5).alloc (.cells #[.int .i64 r, .slice ov5 rows5.length cv5] 33)
        have d35 : (w5.alloc (.cells #[.int .i64 r, .slice ov5 rows5.length cv5] 33)).cell? ⟨sz + 1, 2, none⟩ = some (.slice oav k cv) := hca.cell d25 id
        have hcr : Chg (fun _ => False) wr (w5.alloc (.cells #[.int .i64 r, .slice ov5 rows5.length cv5] 33)) := (HCb.out.drew.trans' hc5).trans' hca
        have hrow0 := (HLd.out.row.kept hcr (fun _ _ h => h)).row
        rw [HZl.out] at hrow0
        obtain ⟨u', w6, hap, ho6, hg6, -, hvn⟩ := run_append_own_at (P := Try.prog) (w5.alloc (.cells #[.int .i64 r, .slice ov5 rows5.length cv5] 33)) (sz + 1) 34 34 33 i0 (.agg (coords.planC 0).toArray) 2 32 Try.underlying34 HI0.out.1 HI0.out.2.1 HI0.out.2.2.1 HI0.out.2.2.2 rfl (by decide)
          (.slice oav k cv) _ _ hrow0 ⟨w5.heap.size, 0, none⟩ 1 1 (planG r (.slice ov5 rows5.length cv5)) rfl (cells_new w5 (planG r (.slice ov5 rows5.length cv5)) _) (by intro x hx; simp only [planG, List.mem_cons, List.not_mem_nil, or_false] at hx; rcases hx with rfl | rfl <;> rfl) (by unfold maxLen; omega) (by omega) (by have := hcr.size; omega)
        obtain ⟨oau, cu, rfl⟩ := own_slice ho6
        have hcg := Chg.of_grown hg6
        have hown : ∀ b, (Value.slice oav k cv).ownBlock = some b → sz + 1 ≤ b ∧ b < wr.heap.size := fun b hb => HLd.out.row.lt hb
        have hox : ¬ some (sz + 1) = (Value.slice oav k cv).ownBlock := fun e => by
          obtain ⟨cur, hcu⟩ := row_obj HLd.out.row.row e.symm
          rw [HLd.out.head, entC] at hcu
          simp only [Option.some.injEq, Obj.cells.injEq] at hcu
          exact absurd hcu.2.1 (by decide)
        have hox' : ¬ some (sz + 1) = (Value.slice oau (k + 1) cu).ownBlock := fun e => by
          rcases hvn with h1 | h1
          · exact hox (e.trans h1)
          · have h2 : some (sz + 1) = some ((w5.alloc (.cells #[.int .i64 r, .slice ov5 rows5.length cv5] 33)).heap.size) := e.trans h1
            have h3 := Option.some.inj h2
            have := hcr.size
            omega
        have hom : ¬ some sz = (Value.slice oav k cv).ownBlock := fun e => by have := hown _ e.symm; omega
        have hh6 := hcg.at (hca.at hhd5 id) hox
        have hm6 := hcg.at (hca.at hmp5 id) hom
        have d6 : w6.cell? ⟨sz + 1, 2, none⟩ = some (.slice oav k cv) := cell_of_block hh6 rfl
        have z6 : w6.frozen? ⟨sz + 1, 2, none⟩ = false := free_of_block hh6
        have cs7 : Chg (· = sz + 1) w6 (w6.setCell ⟨sz + 1, 2, none⟩ (.slice oau (k + 1) cu)) := Chg.setCell (S := (· = sz + 1)) (Chg.refl _ _) (fun _ => rfl) _
        have hb4 := hca.at hbx5 id
        have hb6 := hcg.at hb4 (fun e => by have := hown _ e.symm; omega)
        have hb7 := cs7.at hb6 (by omega)
        have hc7 : Chg (fun b => b = sz + 1 ∨ some b = (Value.slice oav k cv).ownBlock) (w5.alloc (.cells #[.int .i64 r, .slice ov5 rows5.length cv5] 33)) (w6.setCell ⟨sz + 1, 2, none⟩ (.slice oau (k + 1) cu)) := (hcg.mono (fun _ _ h => Or.inr h)).trans' (cs7.mono (fun _ _ h => Or.inl h))
        have hs7 := hc7.size
        have hs0 := hcr.size
        have hs5 := hca.size
        have hnew : ∀ b, b < (w5.alloc (.cells #[.int .i64 r, .slice ov5 rows5.length cv5] 33)).heap.size → (Value.slice oav k cv).ownBlock ≠ some b → (Value.slice oau (k + 1) cu).ownBlock ≠ some b := fun b hb hne e => by
          rcases hvn with h1 | h1
          · exact hne (h1.symm.trans e)
          · have h2 := Option.some.inj (h1.symm.trans e)
            have h3 : (w5.alloc (.cells #[.int .i64 r, .slice ov5 rows5.length cv5] 33)).heap.size = b := h2
            omega
        have hfin : Le w (w6.setCell ⟨sz + 1, 2, none⟩ (.slice oau (k + 1) cu)) (sz + 1) sz state ps (k + 1) (.slice oau (k + 1) cu) (pk' ++ [.slice ov5 rows5.length cv5]) := by
          have hzz : List.zipWith planG (ps.take (k + 1)) (pk' ++ [.slice ov5 rows5.length cv5]) = List.zipWith planG (ps.take k) pk' ++ [planG r (.slice ov5 rows5.length cv5)] := by
            rw [List.take_add_one, HR.out, Option.toList_some, List.zipWith_append (by rw [HLd.out.len, List.length_take]; omega)]
            rfl
          refine ⟨by rw [block_setCell hh6]; rfl, ?_, by rw [List.length_append, HLd.out.len]; rfl, cs7.at hm6 (by omega), fun p hp => ?_, (HLd.out.chg.trans' hcr).new hc7 (fun b e => ?_)⟩
          · rw [hzz]
            have hz2 : (List.zipWith planG (ps.take k) pk' ++ [planG r (.slice ov5 rows5.length cv5)]).length = k + 1 := by rw [List.length_append, HZl.out]; rfl
            refine ⟨?_, fun y hy => ?_⟩
            · rw [hz2, List.flatten_append]
              have h1 := row_kept ho6 cs7 (fun g hg e => hox' (by rw [← e]; exact hg.symm))
              simpa using h1
            · rcases List.mem_append.1 hy with h1 | h1
              · exact HLd.out.row.each y h1
              · rw [List.mem_singleton.1 h1]; rfl
          · rcases List.mem_append.1 hp with h1 | h1
            · refine (((HLd.out.pks p h1).kept hcr (fun _ _ h => h)).kept hc7 (fun b hb e => ?_)).wide (fun b hb => ⟨hb.1, by have := hb.2.1; omega, hnew b (by have := hb.2.1; omega) hb.2.2⟩)
              rcases e with e | e
              · have := hb.1; omega
              · exact hb.2.2 e.symm
            · rw [List.mem_singleton.1 h1]
              have hwb : wr.heap.size ≤ wb.heap.size := HCb.out.size
              have hwd : wb.drew.heap.size = wb.heap.size := rfl
              refine ((HPk5.out.kept hca (fun _ _ h => h)).kept hc7 (fun b hb e => ?_)).wide (fun b hb => ⟨by have := hb.1; omega, by have := hb.2; omega, hnew b (by have := hb.2; omega) (fun e => by have h2 := hown b e; have := hb.1; omega)⟩)
              rcases e with e | e
              · have := hb.1; omega
              · have h2 := hown b e.symm; have := hb.1; omega
          · rcases e with e | e
            · omega
            · have := hown b e.symm; omega
        have HFin := Lib.hid hfin
        have HB4 := Lib.hid (And.intro (cell_of_block (i := 0) hb4 rfl) (cell_of_block (i := 1) hb4 rfl))
        have HB6 := Lib.hid (And.intro (cell_of_block (i := 0) hb6 rfl) (cell_of_block (i := 1) hb6 rfl))
        have HB7 := Lib.hid (And.intro (cell_of_block (i := 0) hb7 rfl) (cell_of_block (i := 1) hb7 rfl))
        clear hpk5 hhd5 hmp5 hbx5 hrow0 ho6 hg6 hvn hcg hown hox hox' hom hh6 hm6 cs7 hb4 hb6 hb7 hc7 hs7 hs0 hs5 hnew hfin hcr hca hc5
        dsimp only
        refine hK _ _ HB5.out (fun hH2 => ?_)
        try simp only [Act.put, List.setIfInBounds_toArray, List.set_cons_zero, List.set_cons_succ]
        refine take_list (i := 10) (v := ?_) rfl (by kernel_rfl) (by kernel_rfl) (by kernel_rfl) (fun _ _ _ h => h) (Or.inl ⟨by rfl, fun w hSw => ?_⟩) hH2 ?_
        rotate_left
        · (obtain ⟨hSw1, hSw2⟩ := hSw; go_simp)
          try with_reducible rfl
        simp only [Act.put, List.setIfInBounds_toArray, List.set_cons_zero, List.set_cons_succ]
        refine wpAnyH_ready (rs := [4, 11]) (by kernel_rfl) (by simp) (one_list (i := 4) rfl (by rfl) (fun K hK => ?_) (one_list (i := 11) rfl (by rfl) (fun K hK => ?_) AllReadyH.nil))
        · go_simp
          refine hK _ _ (HB5.out) (fun hH1 => ?_)
          try simp only [Act.put, List.setIfInBounds_toArray, List.set_cons_zero, List.set_cons_succ]
          refine wpAnyH_ready (rs := [11]) (by kernel_rfl) (by simp) (one_list (i := 11) rfl (by rfl) (fun K hK => ?_) AllReadyH.nil)
          go_simp
          refine hK _ _ (HB4.out) (fun hH3 => ?_)
          try simp only [Act.put, List.setIfInBounds_toArray, List.set_cons_zero, List.set_cons_succ]
          refine wpAnyH_ready (rs := [12]) (by kernel_rfl) (by simp) (one_list (i := 12) rfl (by rfl) (fun K hK => ?_) AllReadyH.nil)
          refine oper_append _ _ _ rfl rfl rfl hap ?_
          refine hK _ _ (HB6.out) (fun hH4 => ?_)
          try simp only [Act.put, List.setIfInBounds_toArray, List.set_cons_zero, List.set_cons_succ]
          refine take_list (i := 13) (v := ?_) rfl (by kernel_rfl) (by kernel_rfl) (by kernel_rfl) (fun _ _ _ h => h) (Or.inl ⟨by rfl, fun w hSw => ?_⟩) hH4 ?_
          rotate_left
          · (skip; go_simp)
            try with_reducible rfl
          simp only [Act.put, List.setIfInBounds_toArray, List.set_cons_zero, List.set_cons_succ]
          refine take_list (i := 14) (v := ?_) rfl (by kernel_rfl) (by kernel_rfl) (by kernel_rfl) (fun _ _ _ h => h) (Or.inl ⟨by rfl, fun w hSw => ?_⟩) hH4 ?_
          rotate_left
          · (skip; go_simp)
            try with_reducible rfl
          simp only [Act.put, List.setIfInBounds_toArray, List.set_cons_zero, List.set_cons_succ]
          refine wpAnyH_ready (rs := [15]) (by kernel_rfl) (by simp) (one_list (i := 15) rfl (by rfl) (fun K hK => ?_) AllReadyH.nil)
          go_simp
          refine hK _ _ (HB7.out) (fun hH5 => ?_)
          try simp only [Act.put, List.setIfInBounds_toArray, List.set_cons_zero, List.set_cons_succ]
          refine wpAnyH_done (by kernel_rfl) ?_ _
          refine NoPanic.normal ?_
          go_wp2_with fail
          exact ⟨⟨k + 1, by go_num, hlt, _, _, HFin.out⟩, meas_step hlt⟩
        · go_simp
          refine hK _ _ (HB4.out) (fun hH1 => ?_)
          try simp only [Act.put, List.setIfInBounds_toArray, List.set_cons_zero, List.set_cons_succ]
          refine wpAnyH_ready (rs := [4]) (by kernel_rfl) (by simp) (one_list (i := 4) rfl (by rfl) (fun K hK => ?_) AllReadyH.nil)
          go_simp
          refine hK _ _ (HB4.out) (fun hH3 => ?_)
          try simp only [Act.put, List.setIfInBounds_toArray, List.set_cons_zero, List.set_cons_succ]
          refine wpAnyH_ready (rs := [12]) (by kernel_rfl) (by simp) (one_list (i := 12) rfl (by rfl) (fun K hK => ?_) AllReadyH.nil)
          refine oper_append _ _ _ rfl rfl rfl hap ?_
          refine hK _ _ (HB6.out) (fun hH4 => ?_)
          try simp only [Act.put, List.setIfInBounds_toArray, List.set_cons_zero, List.set_cons_succ]
          refine take_list (i := 13) (v := ?_) rfl (by kernel_rfl) (by kernel_rfl) (by kernel_rfl) (fun _ _ _ h => h) (Or.inl ⟨by rfl, fun w hSw => ?_⟩) hH4 ?_
          rotate_left
          · (skip; go_simp)
            try with_reducible rfl
          simp only [Act.put, List.setIfInBounds_toArray, List.set_cons_zero, List.set_cons_succ]
          refine take_list (i := 14) (v := ?_) rfl (by kernel_rfl) (by kernel_rfl) (by kernel_rfl) (fun _ _ _ h => h) (Or.inl ⟨by rfl, fun w hSw => ?_⟩) hH4 ?_
          rotate_left
          · (skip; go_simp)
            try with_reducible rfl
          simp only [Act.put, List.setIfInBounds_toArray, List.set_cons_zero, List.set_cons_succ]
          refine wpAnyH_ready (rs := [15]) (by kernel_rfl) (by simp) (one_list (i := 15) rfl (by rfl) (fun K hK => ?_) AllReadyH.nil)
          go_simp
          refine hK _ _ (HB7.out) (fun hH5 => ?_)
          try simp only [Act.put, List.setIfInBounds_toArray, List.set_cons_zero, List.set_cons_succ]
          refine wpAnyH_done (by kernel_rfl) ?_ _
          refine NoPanic.normal ?_
          go_wp2_with fail
          exact ⟨⟨k + 1, by go_num, hlt, _, _, HFin.out⟩, meas_step hlt⟩
    · have hckb : (ck == 0) = false := by simp [hck]
      have HCk0 := Lib.hid hck
      clear hck
      go_wp2_with fail
      go_ret2
      exact Or.inl ⟨_, rfl, HCk0.out, HLd.out.chg.trans' HCb.out⟩
  · have hki : ¬ (k : Int) < (ps.length : Int) := by omega
    have HKl := Lib.hid (show k = ps.length by omega)
    have hCo := H.out.fresh HLd.out.chg
    have c1 : wr.cell? ⟨c, 1, none⟩ = some (.map (some q)) := cell_of_block hCo.head rfl
    have hlk := hCo.mp.look Try.underlying71 (zero_ent _) false txn (inR_wf HT.out)
    cases hm : mget m txn with
    | some y =>
      rw [hm] at hlk
      have hlk : (Instr.lookup 71 (.map (some q)) (.int .i64 txn) false).run Try.prog wr = .ok (.pointer (some ⟨y, 0, none⟩)) wr := hlk
      clear hCo hm
      go_wp2_with fail
      go_ret2
      exact Or.inl ⟨_, rfl, by decide, HLd.out.chg⟩
    | none =>
      rw [hm] at hlk
      have hlk : (Instr.lookup 71 (.map (some q)) (.int .i64 txn) false).run Try.prog wr = .ok (.pointer none) wr := hlk
      obtain ⟨ob, hup, hmq⟩ := hCo.mp.put Try.underlying71 txn (inR_wf HT.out) (sz + 1)
      have hup : (Instr.mapUpdate 71 (.map (some q)) (.int .i64 txn) (.pointer (some ⟨sz + 1, 0, none⟩))).run Try.prog wr = .ok () (setBlock wr q ob) := hup
      have hcq : Chg (· = q) wr (setBlock wr q ob) := Chg.setBlock (S := (· = q)) (Chg.refl _ _) (fun _ => rfl) _
      have HCo := Lib.hid hCo
      have HMq := Lib.hid hmq
      have HCq := Lib.hid hcq
      have HMn := Lib.hid hm
      clear hCo hmq hcq hm
      go_wp2_with fail
      go_ret2
      have hqw : q < w.heap.size := H.out.lt q H.out.fq
      have hL := HLd.out
      have hkl := HKl.out
      have hrow := hL.row
      rw [show ps.take k = ps from by rw [hkl, List.take_length]] at hrow
      have hlt := lt_of_block hL.head
      have hs := HCq.out.size
      refine Or.inr ⟨_, _, sz, pk', rfl, ⟨HCq.out.at hL.head (by omega), OwnRecs.weaken (hrow.kept HCq.out (fun g hg e => by have := (hrow.lt hg).1; omega)) (Nat.zero_le _), MapIs.made (clock := 0) _ _ (HCq.out.at hL.mp (by omega)), ⟨by omega, by omega⟩, ⟨by omega, by omega⟩, fun g hg => by have := hrow.lt hg; exact ⟨by omega, by omega⟩, fun k hk => hk.2, HAll.out.1, HAll.out.2, by rw [hL.len]; exact hkl, fun p hp => ((hL.pks p hp).kept HCq.out (fun b hb e => by have := hb.1; omega)).wide (fun b hb => ⟨⟨by have := hb.1; omega, by have := hb.2.1; omega⟩, by have := hb.1; omega, by have := hb.1; omega⟩)⟩, ⟨?_, HMq.out, H.out.fc, H.out.fq, fun k hk => ?_⟩, HMn.out, HTx.out, (hL.chg.mono (fun _ _ h => h.elim)).trans' HCq.out⟩
      · exact HCq.out.at HCo.out.head HCo.out.cq
      · have := H.out.lt k hk; have := hL.chg.size; omega

end Go.Proofs.Ytogjjkbgagedpaa.coordg
