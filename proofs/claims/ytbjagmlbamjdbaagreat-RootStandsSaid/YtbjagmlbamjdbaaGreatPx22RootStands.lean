/-
  rootdb's laws: stacks compared, a root's state, states compared.
-/
import Derived.Test.YtbjagmlbamjdbaaGreatPx18RootStands
import Derived.Test.YtbjagmlbamjdbaaGreatPx21RootStands

section
set_option linter.unusedSimpArgs false
set_option linter.unusedVariables false
namespace Go.Proofs.YtbjagmlbamjdbaaGreat.roots
open Go.RowKit Go.Maps Go.My Go.ChangeMaps disks bufs wals kvs
set_option maxRecDepth 100000

variable {w w' : World} {B r kb : Nat} {F : Nat → Prop} {S : RS} {sv wv dv : Value}

set_option maxHeartbeats 1000000 in
theorem same_numbersR (w : World) {v1 v2 : Value} {xs ys : List Int} (h1 : SlAt w v1 (xs.map (Value.int .i64))) (h2 : SlAt w v2 (ys.map (Value.int .i64))) (hx : xs.length ≤ 1000000) :
    Calls Tryz.prog 29 #[v1, v2] w fun e w' => e = .returned (.bool (decide (xs = ys))) ∧ Chg (fun _ => False) w w' := by
  obtain ⟨oa1, cap1, rfl, ne1, c1⟩ := h1
  obtain ⟨oa2, cap2, rfl, ne2, c2⟩ := h2
  rw [List.length_map, List.length_map]
  have HN1 := Lib.hid ne1
  have HC1 := Lib.hid c1
  have HN2 := Lib.hid ne2
  have HC2 := Lib.hid c2
  clear ne1 c1 ne2 c2
  by_cases hl : xs.length = ys.length
  · have hli : (xs.length : Int) = (ys.length : Int) := by omega
    rw [← hl]
    go_enter Tryz.func29, Tryz.ntmps29
    go_wp2_with fail
    go_loopw [5] (fun j wr => ∃ k : Nat, j = .int .i64 k ∧ k ≤ xs.length ∧ xs.take k = ys.take k ∧ Chg (fun _ => False) w wr) (fun j _ => xs.length - (intOf j).toNat)
    · exact ⟨0, rfl, Nat.zero_le _, rfl, Chg.refl _ _⟩
    obtain ⟨k, rfl, hk, he, hc⟩ := hrel
    have HE := Lib.hid he
    have HC := Lib.hid hc
    clear he hc
    by_cases hlt : k < xs.length
    · have hki : (k : Int) < (xs.length : Int) := by omega
      obtain ⟨b1, o1, rfl⟩ := HN1.out (by intro e; rw [List.map_eq_nil_iff] at e; rw [e] at hlt; simp at hlt)
      obtain ⟨b2, o2, rfl⟩ := HN2.out (by intro e; rw [List.map_eq_nil_iff] at e; rw [hl, e] at hlt; simp at hlt)
      obtain ⟨x, hxk⟩ : ∃ x, xs[k]? = some x := ⟨xs[k], List.getElem?_eq_getElem hlt⟩
      obtain ⟨y, hyk⟩ : ∃ y, ys[k]? = some y := ⟨ys[k], List.getElem?_eq_getElem (by omega)⟩
      have d1 : wr.cell? ⟨b1, o1 + k, none⟩ = some (.int .i64 x) := HC.out.cell (HC1.out b1 o1 rfl k _ (by rw [List.getElem?_map, hxk]; rfl)) id
      have d2 : wr.cell? ⟨b2, o2 + k, none⟩ = some (.int .i64 y) := HC.out.cell (HC2.out b2 o2 rfl k _ (by rw [List.getElem?_map, hyk]; rfl)) id
      have HXk := Lib.hid hxk
      have HYk := Lib.hid hyk
      clear hxk hyk
      go_wp2_with fail
      refine wp_region_noPanic ?_
      refine wp_region_held_drew (S := (fun w' => w'.cell? ⟨b1, o1 + k, none⟩ = some (.int .i64 x) ∧ w'.cell? ⟨b2, o2 + k, none⟩ = some (.int .i64 y))) (by kernel_rfl) (⟨d1, d2⟩) (fun hHeld => ?_)
      refine take_list (i := 0) (v := ?_) rfl (by kernel_rfl) (by kernel_rfl) (by kernel_rfl) (fun _ _ _ h => h) (Or.inl ⟨by rfl, fun w hSw => ?_⟩) hHeld ?_
      rotate_left
      · (obtain ⟨hSw1, hSw2⟩ := hSw; go_simp)
        try with_reducible rfl
      simp only [Act.put, List.setIfInBounds_toArray, List.set_cons_zero, List.set_cons_succ]
      refine take_list (i := 1) (v := ?_) rfl (by kernel_rfl) (by kernel_rfl) (by kernel_rfl) (fun _ _ _ h => h) (Or.inl ⟨by rfl, fun w hSw => ?_⟩) hHeld ?_
      rotate_left
      · (obtain ⟨hSw1, hSw2⟩ := hSw; go_simp)
        try with_reducible rfl
      simp only [Act.put, List.setIfInBounds_toArray, List.set_cons_zero, List.set_cons_succ]
      refine take_list (i := 2) (v := ?_) rfl (by kernel_rfl) (by kernel_rfl) (by kernel_rfl) (fun _ _ _ h => h) (Or.inl ⟨by rfl, fun w hSw => ?_⟩) hHeld ?_
      rotate_left
      · (obtain ⟨hSw1, hSw2⟩ := hSw; go_simp)
        try with_reducible rfl
      simp only [Act.put, List.setIfInBounds_toArray, List.set_cons_zero, List.set_cons_succ]
      refine take_list (i := 3) (v := ?_) rfl (by kernel_rfl) (by kernel_rfl) (by kernel_rfl) (fun _ _ _ h => h) (Or.inl ⟨by rfl, fun w hSw => ?_⟩) hHeld ?_
      rotate_left
      · (obtain ⟨hSw1, hSw2⟩ := hSw; go_simp)
        try with_reducible rfl
      simp only [Act.put, List.setIfInBounds_toArray, List.set_cons_zero, List.set_cons_succ]
      refine take_list (i := 4) (v := ?_) rfl (by kernel_rfl) (by kernel_rfl) (by kernel_rfl) (fun _ _ _ h => h) (Or.inl ⟨by rfl, fun w hSw => ?_⟩) hHeld ?_
      rotate_left
      · (obtain ⟨hSw1, hSw2⟩ := hSw; go_simp)
        try with_reducible rfl
      simp only [Act.put, List.setIfInBounds_toArray, List.set_cons_zero, List.set_cons_succ]
      refine take_list (i := 5) (v := ?_) rfl (by kernel_rfl) (by kernel_rfl) (by kernel_rfl) (fun _ _ _ h => h) (Or.inl ⟨by rfl, fun w hSw => ?_⟩) hHeld ?_
      rotate_left
      · (obtain ⟨hSw1, hSw2⟩ := hSw; go_simp)
        try with_reducible rfl
      simp only [Act.put, List.setIfInBounds_toArray, List.set_cons_zero, List.set_cons_succ]
      refine take_list (i := 6) (v := ?_) rfl (by kernel_rfl) (by kernel_rfl) (by kernel_rfl) (fun _ _ _ h => h) (Or.inl ⟨by rfl, fun w hSw => ?_⟩) hHeld ?_
      rotate_left
      · (obtain ⟨hSw1, hSw2⟩ := hSw; go_simp)
        try with_reducible rfl
      simp only [Act.put, List.setIfInBounds_toArray, List.set_cons_zero, List.set_cons_succ]
      refine take_list (i := 7) (v := ?_) rfl (by kernel_rfl) (by kernel_rfl) (by kernel_rfl) (fun _ _ _ h => h) (Or.inl ⟨by rfl, fun w hSw => ?_⟩) hHeld ?_
      rotate_left
      · (obtain ⟨hSw1, hSw2⟩ := hSw; go_simp)
        try with_reducible rfl
      simp only [Act.put, List.setIfInBounds_toArray, List.set_cons_zero, List.set_cons_succ]
      refine take_list (i := 8) (v := ?_) rfl (by kernel_rfl) (by kernel_rfl) (by kernel_rfl) (fun _ _ _ h => h) (Or.inl ⟨by rfl, fun w hSw => ?_⟩) hHeld ?_
      rotate_left
      · (obtain ⟨hSw1, hSw2⟩ := hSw; go_simp)
        try with_reducible rfl
      simp only [Act.put, List.setIfInBounds_toArray, List.set_cons_zero, List.set_cons_succ]
      refine wpAnyH_done (by kernel_rfl) ?_ _
      refine NoPanic.normal ?_
      clear hHeld d1 d2
      by_cases hxy : x = y
      · have hne : (x == y) = true := by simp [hxy]
        have HXy := Lib.hid hxy
        clear hxy
        go_wp2_with fail
        refine ⟨⟨k + 1, by go_num, hlt, ?_, HC.out.drew⟩, meas_step hlt⟩
        rw [List.take_add_one, List.take_add_one, HXk.out, HYk.out, HE.out, HXy.out]
      · have hne : (x == y) = false := by simp [hxy]
        have hd : decide (xs = ys) = false := by
          rw [decide_eq_false_iff_not]
          intro e
          rw [e, HYk.out] at HXk
          exact hxy (Option.some.inj HXk.out).symm
        have HD := Lib.hid hd
        clear hd hxy
        go_wp2_with fail
        go_ret
        exact ⟨by rw [HD.out]; rfl, HC.out.drew⟩
    · have hki : ¬ (k : Int) < (xs.length : Int) := by omega
      have hd : decide (xs = ys) = true := by
        rw [decide_eq_true_eq, ← List.take_of_length_le (l := xs) (i := k) (by omega), HE.out, List.take_of_length_le (by omega)]
      have HD := Lib.hid hd
      clear hd
      go_wp2_with fail
      go_ret
      exact ⟨by rw [HD.out]; rfl, HC.out⟩
  · have hli : ¬ (xs.length : Int) = (ys.length : Int) := by omega
    have hd : decide (xs = ys) = false := by
      rw [decide_eq_false_iff_not]; intro e; exact hl (by rw [e])
    have HD := Lib.hid hd
    clear hd hl
    go_enter Tryz.func29, Tryz.ntmps29
    go_wp2_with fail
    go_ret
    exact ⟨by rw [HD.out]; rfl, Chg.refl _ _⟩

theorem ints_inj : ∀ {xs ys : List Nat}, xs.map (fun n : Nat => (n : Int)) = ys.map (fun n : Nat => (n : Int)) → xs = ys
  | [], [], _ => rfl
  | [], _ :: _, h => by simp at h
  | _ :: _, [], h => by simp at h
  | x :: xs, y :: ys, h => by
    rw [List.map_cons, List.map_cons, List.cons.injEq] at h
    rw [ints_inj h.2, Int.ofNat.inj h.1]
theorem nums_ints (l : List Nat) : (l.map (fun n : Nat => (n : Int))).map (Value.int .i64) = l.map (fun n : Nat => Value.int .i64 (n : Int)) := by rw [List.map_map]; rfl
theorem nums_same (w : World) {v1 v2 : Value} {xs ys : List Nat} (h1 : NumsAt w v1 xs) (h2 : NumsAt w v2 ys) (hx : xs.length ≤ 1000000) :
    Calls Tryz.prog 29 #[v1, v2] w fun e w' => e = .returned (.bool (decide (xs = ys))) ∧ Chg (fun _ => False) w w' := by
  have h := same_numbersR w (xs := xs.map (fun n : Nat => (n : Int))) (ys := ys.map (fun n : Nat => (n : Int))) (by rw [nums_ints]; exact h1) (by rw [nums_ints]; exact h2) (by rw [List.length_map]; exact hx)
  have e : decide (xs.map (fun n : Nat => (n : Int)) = ys.map (fun n : Nat => (n : Int))) = decide (xs = ys) := by
    rw [decide_eq_decide]; exact ⟨ints_inj, fun e => by rw [e]⟩
  rw [e] at h
  exact h

/-! ### stacks -/

set_option maxHeartbeats 2000000 in
theorem rsame_is (w : World) {F F' : Nat → Prop} {v v' : Value} {l l' : List Pk} (h : PksAt w F v l) (h' : PksAt w F' v' l') :
    Calls Tryz.prog 28 #[v, v'] w fun e w' => e = .returned (.bool (decide (l = l'))) ∧ Chg (fun _ => False) w w' := by
  obtain ⟨oa, cap, lv, rfl, hlv, hr, -, hly, hcap, hcm⟩ := h.is
  obtain ⟨oa', cap', lv', rfl, hlv', hr', -, hly', hcap', hcm'⟩ := h'.is
  have H := Lib.hid (And.intro hr hly)
  have H' := Lib.hid (And.intro hr' hly')
  clear h h' hr hr' hly hly'
  by_cases hl : l.length = l'.length
  · have hli : ((l.length : Int) != (l'.length : Int)) = false := by simp [hl]
    rw [← hl] at hcap' hli ⊢
    have HL := Lib.hid hl
    clear hl
    go_enter Tryz.func28, Tryz.ntmps28
    go_wp2_with fail
    go_loopw [5] (fun j wr => ∃ k : Nat, j = .int .i64 k ∧ k ≤ l.length ∧ l.take k = l'.take k ∧ Chg (fun _ => False) w wr) (fun j _ => l.length - (intOf j).toNat)
    · exact ⟨0, rfl, Nat.zero_le _, rfl, Chg.refl _ _⟩
    obtain ⟨k, rfl, hk, he, hc⟩ := hrel
    have HE := Lib.hid he
    have HC := Lib.hid hc
    clear he hc
    by_cases hlt : k < l.length
    · have hki : (k : Int) < (l.length : Int) := by omega
      have hkb : (l.length : Int) ≤ 9223372036854775807 := by have h1 := hcap; have h2 := hcm; unfold maxLen at h2; omega
      obtain ⟨p, hp⟩ : ∃ p, l[k]? = some p := ⟨l[k], List.getElem?_eq_getElem hlt⟩
      obtain ⟨u, hu⟩ : ∃ u, lv[k]? = some u := ⟨lv[k]'(by omega), List.getElem?_eq_getElem _⟩
      obtain ⟨p', hp'⟩ : ∃ p, l'[k]? = some p := ⟨l'[k]'(by rw [← HL.out]; exact hlt), List.getElem?_eq_getElem _⟩
      obtain ⟨u', hu'⟩ : ∃ u, lv'[k]? = some u := ⟨lv'[k]'(by rw [hlv', ← HL.out]; exact hlt), List.getElem?_eq_getElem _⟩
      obtain ⟨b, off, rfl⟩ := H.out.1.spot (by intro e; have e2 := congrArg List.length e; rw [List.length_zipWith, List.length_nil] at e2; omega)
      obtain ⟨b', off', rfl⟩ := H'.out.1.spot (by intro e; have e2 := congrArg List.length e; rw [List.length_zipWith, List.length_nil, hlv', ← HL.out] at e2; omega)
      obtain ⟨d0, d1, d2, d3⟩ := pk_cells (H.out.1.kept HC.out (fun _ _ h => h)) hp hu
      obtain ⟨e0, e1, e2, e3⟩ := pk_cells (H'.out.1.kept HC.out (fun _ _ h => h)) hp' hu'
      have hlyk := H.out.2 k p u hp hu
      have hlyk' := H'.out.2 k p' u' hp' hu'
      have hms := fun (W : World) (hW : Chg (fun _ => False) w W) => msame_is W p.man p'.man (hlyk.fresh hW) (hlyk'.fresh hW)
      obtain ⟨la, lc, rfl, -⟩ := hlyk.is
      obtain ⟨la', lc', rfl, -⟩ := hlyk'.is
      obtain ⟨n1, hn1⟩ : ∃ n, p.man.layers.length = n := ⟨_, rfl⟩
      obtain ⟨n1', hn1'⟩ : ∃ n, p'.man.layers.length = n := ⟨_, rfl⟩
      obtain ⟨s1, hs1⟩ : ∃ s, strV p.man.name = .string s := ⟨_, rfl⟩
      obtain ⟨s2, hs2⟩ : ∃ s, strV p.man.ver = .string s := ⟨_, rfl⟩
      obtain ⟨t1, ht1⟩ : ∃ s, strV p'.man.name = .string s := ⟨_, rfl⟩
      obtain ⟨t2, ht2⟩ : ∃ s, strV p'.man.ver = .string s := ⟨_, rfl⟩
      obtain ⟨R, hR⟩ : ∃ R, decide (p.man = p'.man) = R := ⟨_, rfl⟩
      obtain ⟨x0, hx0⟩ : ∃ n, p.owner = n := ⟨_, rfl⟩
      obtain ⟨y0, hy0⟩ : ∃ n, p'.owner = n := ⟨_, rfl⟩
      rw [hn1, hn1', hs1, hs2, ht1, ht2, hR] at hms
      rw [hx0] at d0
      rw [hs1] at d1
      rw [hs2] at d2
      rw [hn1] at d3
      rw [hy0] at e0
      rw [ht1] at e1
      rw [ht2] at e2
      rw [hn1'] at e3
      have HMs := Lib.hid hms
      have HP := Lib.hid (And.intro hp (And.intro hp' (And.intro hR (And.intro hx0 hy0))))
      clear hp hp' hu hu' hlyk hlyk' hms hs1 hs2 ht1 ht2 hn1 hn1' hR hx0 hy0
      by_cases hxy : x0 = y0
      · have hne : (x0 != y0) = false := by simp [hxy]
        cases R with
        | true =>
          have HXy := Lib.hid hxy
          clear hxy
          have q0 : ∀ n : FreshW wr, n.val.cell? ⟨b, off + k * 4, none⟩ = some (.int .i64 x0) := fun n => n.chg.cell d0 id
          have q1 : ∀ n : FreshW wr, n.val.cell? ⟨b, off + k * 4 + 1, none⟩ = some (.string s1) := fun n => n.chg.cell d1 id
          have q2 : ∀ n : FreshW wr, n.val.cell? ⟨b, off + k * 4 + 2, none⟩ = some (.string s2) := fun n => n.chg.cell d2 id
          have q3 : ∀ n : FreshW wr, n.val.cell? ⟨b, off + k * 4 + 3, none⟩ = some (.slice la n1 lc) := fun n => n.chg.cell d3 id
          have p0 : ∀ n : FreshW wr, n.val.cell? ⟨b', off' + k * 4, none⟩ = some (.int .i64 y0) := fun n => n.chg.cell e0 id
          have p1 : ∀ n : FreshW wr, n.val.cell? ⟨b', off' + k * 4 + 1, none⟩ = some (.string t1) := fun n => n.chg.cell e1 id
          have p2 : ∀ n : FreshW wr, n.val.cell? ⟨b', off' + k * 4 + 2, none⟩ = some (.string t2) := fun n => n.chg.cell e2 id
          have p3 : ∀ n : FreshW wr, n.val.cell? ⟨b', off' + k * 4 + 3, none⟩ = some (.slice la' n1' lc') := fun n => n.chg.cell e3 id
          have hmq : ∀ n : FreshW wr, Calls Tryz.prog 57 #[.agg #[.string s1, .string s2, .slice la n1 lc], .agg #[.string t1, .string t2, .slice la' n1' lc']] n.val fun e w'' => e = .returned (.bool true) ∧ ∃ m' : FreshW wr, w'' = m'.val := fun n => fresh_call (HMs.out _ (HC.out.trans' n.chg))
          have HMq := Lib.hid hmq
          clear hmq d0 d1 d2 d3 e0 e1 e2 e3
          go_wp2_with fail
          refine wp_region_fresh (by kernel_rfl) (by kernel_rfl) ?_
          repeat (go_big_quiet_step ((go_at_call 57; exact HMq.out _)))
          refine wpQuiet_nil ?_
          rintro _ ⟨nz, rfl⟩
          clear q0 q1 q2 q3 p0 p1 p2 p3
          go_wp2_with fail
          refine ⟨⟨k + 1, by go_num, hlt, ?_, HC.out.trans' nz.chg⟩, meas_step hlt⟩
          have h0 := of_decide_eq_true HP.out.2.2.1
          have h1 : p = p' := by
            have h2 : p.owner = p'.owner := by rw [HP.out.2.2.2.1, HP.out.2.2.2.2, HXy.out]
            cases p; cases p'; simp_all
          rw [List.take_add_one, List.take_add_one, HP.out.1, HP.out.2.1, HE.out, h1]
        | false =>
          have hd : decide (l = l') = false := by
            rw [decide_eq_false_iff_not]
            intro e
            have h1 := HP.out.1
            rw [e, HP.out.2.1] at h1
            have h2 := Option.some.inj h1
            exact of_decide_eq_false HP.out.2.2.1 (by rw [h2])
          have HD := Lib.hid hd
          clear hd hxy
          have q0 : ∀ n : FreshW wr, n.val.cell? ⟨b, off + k * 4, none⟩ = some (.int .i64 x0) := fun n => n.chg.cell d0 id
          have q1 : ∀ n : FreshW wr, n.val.cell? ⟨b, off + k * 4 + 1, none⟩ = some (.string s1) := fun n => n.chg.cell d1 id
          have q2 : ∀ n : FreshW wr, n.val.cell? ⟨b, off + k * 4 + 2, none⟩ = some (.string s2) := fun n => n.chg.cell d2 id
          have q3 : ∀ n : FreshW wr, n.val.cell? ⟨b, off + k * 4 + 3, none⟩ = some (.slice la n1 lc) := fun n => n.chg.cell d3 id
          have p0 : ∀ n : FreshW wr, n.val.cell? ⟨b', off' + k * 4, none⟩ = some (.int .i64 y0) := fun n => n.chg.cell e0 id
          have p1 : ∀ n : FreshW wr, n.val.cell? ⟨b', off' + k * 4 + 1, none⟩ = some (.string t1) := fun n => n.chg.cell e1 id
          have p2 : ∀ n : FreshW wr, n.val.cell? ⟨b', off' + k * 4 + 2, none⟩ = some (.string t2) := fun n => n.chg.cell e2 id
          have p3 : ∀ n : FreshW wr, n.val.cell? ⟨b', off' + k * 4 + 3, none⟩ = some (.slice la' n1' lc') := fun n => n.chg.cell e3 id
          have hmq : ∀ n : FreshW wr, Calls Tryz.prog 57 #[.agg #[.string s1, .string s2, .slice la n1 lc], .agg #[.string t1, .string t2, .slice la' n1' lc']] n.val fun e w'' => e = .returned (.bool false) ∧ ∃ m' : FreshW wr, w'' = m'.val := fun n => fresh_call (HMs.out _ (HC.out.trans' n.chg))
          have HMq := Lib.hid hmq
          clear hmq d0 d1 d2 d3 e0 e1 e2 e3
          go_wp2_with fail
          refine wp_region_fresh (by kernel_rfl) (by kernel_rfl) ?_
          repeat (go_big_quiet_step ((go_at_call 57; exact HMq.out _)))
          refine wpQuiet_nil ?_
          rintro _ ⟨nz, rfl⟩
          clear q0 q1 q2 q3 p0 p1 p2 p3
          go_wp2_with fail
          go_ret
          exact ⟨by rw [HD.out]; rfl, HC.out.trans' nz.chg⟩
      · have hne : (x0 != y0) = true := by simp [hxy]
        have hd : decide (l = l') = false := by
          rw [decide_eq_false_iff_not]
          intro e
          have h1 := HP.out.1
          rw [e, HP.out.2.1] at h1
          have h2 := Option.some.inj h1
          exact hxy (by rw [← HP.out.2.2.2.1, ← HP.out.2.2.2.2, h2])
        have HD := Lib.hid hd
        clear hd hxy
        have q0 : ∀ n : FreshW wr, n.val.cell? ⟨b, off + k * 4, none⟩ = some (.int .i64 x0) := fun n => n.chg.cell d0 id
        have q1 : ∀ n : FreshW wr, n.val.cell? ⟨b, off + k * 4 + 1, none⟩ = some (.string s1) := fun n => n.chg.cell d1 id
        have q2 : ∀ n : FreshW wr, n.val.cell? ⟨b, off + k * 4 + 2, none⟩ = some (.string s2) := fun n => n.chg.cell d2 id
        have q3 : ∀ n : FreshW wr, n.val.cell? ⟨b, off + k * 4 + 3, none⟩ = some (.slice la n1 lc) := fun n => n.chg.cell d3 id
        have p0 : ∀ n : FreshW wr, n.val.cell? ⟨b', off' + k * 4, none⟩ = some (.int .i64 y0) := fun n => n.chg.cell e0 id
        have p1 : ∀ n : FreshW wr, n.val.cell? ⟨b', off' + k * 4 + 1, none⟩ = some (.string t1) := fun n => n.chg.cell e1 id
        have p2 : ∀ n : FreshW wr, n.val.cell? ⟨b', off' + k * 4 + 2, none⟩ = some (.string t2) := fun n => n.chg.cell e2 id
        have p3 : ∀ n : FreshW wr, n.val.cell? ⟨b', off' + k * 4 + 3, none⟩ = some (.slice la' n1' lc') := fun n => n.chg.cell e3 id
        have hmq : ∀ n : FreshW wr, Calls Tryz.prog 57 #[.agg #[.string s1, .string s2, .slice la n1 lc], .agg #[.string t1, .string t2, .slice la' n1' lc']] n.val fun e w'' => e = .returned (.bool R) ∧ ∃ m' : FreshW wr, w'' = m'.val := fun n => fresh_call (HMs.out _ (HC.out.trans' n.chg))
        have HMq := Lib.hid hmq
        clear hmq d0 d1 d2 d3 e0 e1 e2 e3
        go_wp2_with fail
        refine wp_region_fresh (by kernel_rfl) (by kernel_rfl) ?_
        repeat (go_big_quiet_step ((go_at_call 57; exact HMq.out _)))
        refine wpQuiet_nil ?_
        rintro _ ⟨nz, rfl⟩
        clear q0 q1 q2 q3 p0 p1 p2 p3
        go_wp2_with fail
        go_ret
        exact ⟨by rw [HD.out]; rfl, HC.out.trans' nz.chg⟩
    · have hki : ¬ (k : Int) < (l.length : Int) := by omega
      have hd : decide (l = l') = true := by
        rw [decide_eq_true_eq, ← List.take_of_length_le (l := l) (i := k) (by omega), HE.out, List.take_of_length_le (by have := HL.out; omega)]
      have HD := Lib.hid hd
      clear hd
      go_wp2_with fail
      go_ret
      exact ⟨by rw [HD.out]; rfl, HC.out⟩
  · have hli : ((l.length : Int) != (l'.length : Int)) = true := by simp; omega
    have hd : decide (l = l') = false := by
      rw [decide_eq_false_iff_not]; intro e; exact hl (by rw [e])
    have HD := Lib.hid hd
    clear hd hl
    go_enter Tryz.func28, Tryz.ntmps28
    go_wp2_with fail
    go_ret
    exact ⟨by rw [HD.out]; rfl, Chg.refl _ _⟩

/-! ### a root's state, as a law takes it -/
structure StAt (w : World) (G : Nat → Prop) (v1 v2 v3 : Value) (S : RS) : Prop where
  stack : PksAt w G v1 S.stack
  wants : PksAt w G v2 S.wants
  done : ∃ b, w.ownsRow b 3 1 v3 S.done.length (S.done.map (fun n : Nat => Value.int .i64 (n : Int)))
  fd : ∀ g, v3.ownBlock = some g → G g
  len : S.done.length ≤ 1000
def stV (v1 v2 v3 : Value) (S : RS) : Value := .agg #[v1, v2, .int .i64 (S.staged : Int), v3]
def RS.alike (S S' : RS) : Bool := decide (S.staged = S'.staged) && decide (S.stack = S'.stack) && decide (S.wants = S'.wants) && decide (S.done = S'.done)
theorem RS.alike_self (S : RS) : S.alike S = true := by simp [RS.alike]
theorem StAt.kept {G Sx : Nat → Prop} {v1 v2 v3 : Value} (h : StAt w G v1 v2 v3 S) (hc : Chg Sx w w') (hs : ∀ k, G k → ¬ Sx k) : StAt w' G v1 v2 v3 S := by
  obtain ⟨b, hb⟩ := h.done
  exact ⟨h.stack.kept hc hs, h.wants.kept hc hs, ⟨b, own_keptS hb hc (fun g hg => hs g (h.fd g hg))⟩, h.fd, h.len⟩
theorem StAt.fresh {G : Nat → Prop} {v1 v2 v3 : Value} (h : StAt w G v1 v2 v3 S) (hc : Chg (fun _ => False) w w') : StAt w' G v1 v2 v3 S := h.kept hc (fun _ _ h => h)
theorem StAt.slices {G : Nat → Prop} {v1 v2 v3 : Value} (h : StAt w G v1 v2 v3 S) : (∃ o c, v1 = .slice o S.stack.length c) ∧ (∃ o c, v2 = .slice o S.wants.length c) ∧ ∃ o c, v3 = .slice o S.done.length c := by
  obtain ⟨o1, c1, -, e1, -⟩ := h.stack.is
  obtain ⟨o2, c2, -, e2, -⟩ := h.wants.is
  obtain ⟨b, hb⟩ := h.done
  obtain ⟨o3, c3, e3⟩ := own_slice hb
  exact ⟨⟨o1, c1, e1⟩, ⟨o2, c2, e2⟩, ⟨o3, c3, e3⟩⟩

theorem size_state : (Tryz.prog.info? 59).map (·.size) = some 4 := by kernel_rfl

set_option maxHeartbeats 1000000 in
theorem state_is (w : World) (h : RtIs w B r kb F S sv wv dv) :
    Calls Tryz.prog 26 #[.pointer (some ⟨r, 0, none⟩)] w fun e w' => ∃ v1 v2 v3, e = .returned (stV v1 v2 v3 S) ∧ StAt w' (fun b => w.heap.size ≤ b ∧ b < w'.heap.size) v1 v2 v3 S ∧ Chg (fun _ => False) w w' := by
  have H := Lib.hid h
  obtain ⟨wa, hwa⟩ : ∃ wa, w.alloc (.cells #[.slice none 0 0, .slice none 0 0, .int .i64 0, .slice none 0 0] 59) = wa := ⟨_, rfl⟩
  have hca : Chg (fun _ => False) w wa := by rw [← hwa]; exact (Chg.refl _ _).alloc _
  have hba : wa.heap[w.heap.size]? = some (.cells #[.slice none 0 0, .slice none 0 0, .int .i64 0, .slice none 0 0] 59 (0, 0)) := by rw [← hwa]; exact block_alloc_new _ _
  have HCa := Lib.hid hca
  have HBa := Lib.hid hba
  have HSg := Lib.hid (staged_of wa (h.fresh hca))
  obtain ⟨N, hN⟩ : ∃ n, w.heap.size = n := ⟨_, rfl⟩
  have HN := Lib.hid hN
  have hlen := h.few.2.2
  have HLen := Lib.hid hlen
  clear h hca hba hN hlen
  go_enter Tryz.func26, Tryz.ntmps26
  go_wp2_with (first
    | (go_at_call 18; fail))
  try rw [hwa]
  clear hwa
  refine HSg.out.mono ?_
  rintro e w1 ⟨u1, rfl, hp1, hc1⟩
  obtain ⟨o1, p1, l1, hu1, -⟩ := id hp1.is
  subst hu1
  have HP1 := Lib.hid hp1
  have HC1 := Lib.hid (HCa.out.trans' hc1)
  have HCa1 := Lib.hid hc1
  have HSk := Lib.hid (stack_of w1 (H.out.fresh HC1.out))
  clear hp1 hc1 HSg
  obtain ⟨nW, hnW⟩ : ∃ n, S.wants.length = n := ⟨_, rfl⟩
  have HnW := Lib.hid hnW
  rw [hnW]
  clear hnW
  dsimp only
  go_wp2_with (first
    | (go_at_call 22; fail))
  refine HSk.out.mono ?_
  rintro e w2 ⟨u2, rfl, hp2, hc2⟩
  obtain ⟨o2, p2, l2, hu2, -⟩ := id hp2.is
  subst hu2
  have HP2 := Lib.hid hp2
  have HC2 := Lib.hid (HC1.out.trans' hc2)
  have HCa2 := Lib.hid hc2
  have HDn := Lib.hid (done_of w2 (H.out.fresh HC2.out))
  clear hp2 hc2 HSk
  obtain ⟨nS, hnS⟩ : ∃ n, S.stack.length = n := ⟨_, rfl⟩
  have HnS := Lib.hid hnS
  rw [hnS]
  clear hnS
  dsimp only
  go_wp2_with (first
    | (go_at_call 23; fail))
  refine HDn.out.mono ?_
  rintro e w3 ⟨u3, rfl, hp3, hc3⟩
  obtain ⟨o3, p3, hu3⟩ := own_slice hp3
  subst hu3
  have HP3 := Lib.hid hp3
  have HC3 := Lib.hid (HC2.out.trans' hc3)
  have HCa3 := Lib.hid hc3
  obtain ⟨nD, hnD⟩ : ∃ n, S.done.length = n := ⟨_, rfl⟩
  have HnD := Lib.hid hnD
  rw [hnD]
  clear hnD hp3 hc3 HDn
  obtain ⟨st, hst⟩ : ∃ n, S.staged = n := ⟨_, rfl⟩
  have HSt := Lib.hid hst
  rw [hst]
  clear hst
  have hb3 := ((HCa1.out.trans' HCa2.out).trans' HCa3.out).at HBa.out id
  rw [HN.out] at hb3
  have z0 : w3.frozen? ⟨N, 0, none⟩ = false := free_of_block hb3
  have z1 : w3.frozen? ⟨N, 1, none⟩ = false := free_of_block hb3
  have z2 : w3.frozen? ⟨N, 2, none⟩ = false := free_of_block hb3
  have z3 : w3.frozen? ⟨N, 3, none⟩ = false := free_of_block hb3
  have y0 : w3.cell? ⟨N, 0, none⟩ = some (.slice none 0 0) := cell_of_block hb3 rfl
  have y1 : w3.cell? ⟨N, 1, none⟩ = some (.slice none 0 0) := cell_of_block hb3 rfl
  have y2 : w3.cell? ⟨N, 2, none⟩ = some (.int .i64 0) := cell_of_block hb3 rfl
  have y3 : w3.cell? ⟨N, 3, none⟩ = some (.slice none 0 0) := cell_of_block hb3 rfl
  dsimp only
  try rw [HN.out]
  go_wp2_with fail
  have b1 := block_setCell (i := 0) (v := .slice o2 nS p2) hb3
  have b2 := block_setCell (i := 1) (v := .slice o1 nW p1) b1
  have b3 := block_setCell (i := 2) (v := .int .i64 (st : Int)) b2
  have b4 := block_setCell (i := 3) (v := .slice o3 nD p3) b3
  have hcs : Chg (· = N) w3 ((((w3.setCell ⟨N, 0, none⟩ (.slice o2 nS p2)).setCell ⟨N, 1, none⟩ (.slice o1 nW p1)).setCell ⟨N, 2, none⟩ (.int .i64 (st : Int))).setCell ⟨N, 3, none⟩ (.slice o3 nD p3)) := Chg.setCell (S := (· = N)) (Chg.setCell (S := (· = N)) (Chg.setCell (S := (· = N)) (Chg.setCell (S := (· = N)) (Chg.refl _ _) (fun _ => rfl) _) (fun _ => rfl) _) (fun _ => rfl) _) (fun _ => rfl) _
  obtain ⟨w4, hw4⟩ : ∃ w4, ((((w3.setCell ⟨N, 0, none⟩ (.slice o2 nS p2)).setCell ⟨N, 1, none⟩ (.slice o1 nW p1)).setCell ⟨N, 2, none⟩ (.int .i64 (st : Int))).setCell ⟨N, 3, none⟩ (.slice o3 nD p3)) = w4 := ⟨_, rfl⟩
  rw [hw4] at hcs b4 ⊢
  clear hw4 b1 b2 b3 z0 z1 z2 z3 y0 y1 y2 y3
  have hb4 : w4.heap[N]? = some (.cells #[.slice o2 nS p2, .slice o1 nW p1, .int .i64 (st : Int), .slice o3 nD p3] 59 (0, 0)) := by simpa using b4
  refine bodyPost_ret (results_cell_row rfl _ _ N _ _ _ _ rfl hb4 Tryz.underlying59 rfl size_state) rfl ?_
  have hN := HN.out
  have hsa : wa.heap.size ≤ w1.heap.size := HCa1.out.size
  have hNa : N < wa.heap.size := by rw [← hN]; exact lt_of_block HBa.out
  have hs12 := HCa2.out.size
  have hs23 := HCa3.out.size
  have hs34 := hcs.size
  have h1 := (HP1.out.fresh (HCa2.out.trans' HCa3.out)).kept hcs (fun b hb e => by have := hb.1; omega)
  have h2 := (HP2.out.fresh HCa3.out).kept hcs (fun b hb e => by have := hb.1; omega)
  have h3 := own_keptS HP3.out hcs (fun b hb e => by have := (HP3.out.lt b hb).1; omega)
  have hfd := fun g hg => HP3.out.lt g hg
  rw [HnW.out] at h1
  rw [HnS.out] at h2
  rw [HnD.out] at hfd
  refine ⟨.slice o2 nS p2, .slice o1 nW p1, .slice o3 nD p3, by unfold stV; rw [HSt.out], ⟨h2.wide (fun b hb => ⟨by have := hb.1; omega, by have := hb.2; omega⟩), h1.wide (fun b hb => ⟨by have := hb.1; omega, by have := hb.2; omega⟩), ⟨w2.heap.size, ?_⟩, fun g hg => ⟨by have := (hfd g hg).1; omega, by have := (hfd g hg).2; omega⟩, HLen.out⟩, HC3.out.new hcs (fun i e => by omega)⟩
  have h4 := h3
  rw [HnD.out] at h4 ⊢
  exact h4

/-! ### alike -/

set_option maxHeartbeats 1000000 in
theorem alike_is (w : World) {G G' : Nat → Prop} {S' : RS} {v1 v2 v3 u1 u2 u3 : Value} (h : StAt w G v1 v2 v3 S) (h' : StAt w G' u1 u2 u3 S') :
    Calls Tryz.prog 27 #[stV v1 v2 v3 S, stV u1 u2 u3 S'] w fun e w' => e = .returned (.bool (S.alike S')) ∧ Chg (fun _ => False) w w' := by
  obtain ⟨⟨x1, y1, e1⟩, ⟨x2, y2, e2⟩, ⟨x3, y3, e3⟩⟩ := h.slices
  obtain ⟨⟨x1', y1', e1'⟩, ⟨x2', y2', e2'⟩, ⟨x3', y3', e3'⟩⟩ := h'.slices
  obtain ⟨wa, hwa⟩ : ∃ wa, (w.alloc (.cells #[v1, v2, .int .i64 (S.staged : Int), v3] 59)).alloc (.cells #[u1, u2, .int .i64 (S'.staged : Int), u3] 59) = wa := ⟨_, rfl⟩
  have hca : Chg (fun _ => False) w wa := by rw [← hwa]; exact ((Chg.refl _ _).alloc _).alloc _
  have hx1 : wa.heap[w.heap.size]? = some (.cells #[v1, v2, .int .i64 (S.staged : Int), v3] 59 (0, 0)) := by
    rw [← hwa]; exact ((Chg.refl (fun _ => False) _).alloc _).at (block_alloc_new w _) id
  have hx2 : wa.heap[w.heap.size + 1]? = some (.cells #[u1, u2, .int .i64 (S'.staged : Int), u3] 59 (0, 0)) := by
    rw [← hwa]
    have := block_alloc_new (w.alloc (.cells #[v1, v2, .int .i64 (S.staged : Int), v3] 59)) (.cells #[u1, u2, .int .i64 (S'.staged : Int), u3] 59)
    rw [World.size_alloc] at this
    exact this
  have hS1 := fun (W : World) (hW : Chg (fun _ => False) w W) => rsame_is W (h.stack.fresh hW) (h'.stack.fresh hW)
  have hS2 := fun (W : World) (hW : Chg (fun _ => False) w W) => rsame_is W (h.wants.fresh hW) (h'.wants.fresh hW)
  have hS3 : ∀ (W : World) (_ : Chg (fun _ => False) w W), Calls Tryz.prog 29 #[v3, u3] W fun e w' => e = .returned (.bool (decide (S.done = S'.done))) ∧ Chg (fun _ => False) W w' := fun W hW => by
    obtain ⟨b, hb⟩ := h.done
    obtain ⟨b', hb'⟩ := h'.done
    exact nums_same W (SlAt.of_own (own_keptS hb hW (fun _ _ e => e)) : NumsAt W v3 S.done) (SlAt.of_own (own_keptS hb' hW (fun _ _ e => e)) : NumsAt W u3 S'.done) (by have := h.len; omega)
  obtain ⟨A, hA⟩ : ∃ A, S.alike S' = A := ⟨_, rfl⟩
  have hAl := hA
  unfold RS.alike at hAl
  rw [hA]
  obtain ⟨B0, hB0⟩ : ∃ B, decide (S.staged = S'.staged) = B := ⟨_, rfl⟩
  obtain ⟨B1, hB1⟩ : ∃ B, decide (S.stack = S'.stack) = B := ⟨_, rfl⟩
  obtain ⟨B2, hB2⟩ : ∃ B, decide (S.wants = S'.wants) = B := ⟨_, rfl⟩
  obtain ⟨B3, hB3⟩ : ∃ B, decide (S.done = S'.done) = B := ⟨_, rfl⟩
  rw [hB1] at hS1
  rw [hB2] at hS2
  rw [hB3] at hS3
  rw [hB0, hB1, hB2, hB3] at hAl
  unfold stV
  obtain ⟨st, hst⟩ : ∃ n, S.staged = n := ⟨_, rfl⟩
  obtain ⟨st', hst'⟩ : ∃ n, S'.staged = n := ⟨_, rfl⟩
  rw [hst] at hx1 hwa hB0 ⊢
  rw [hst'] at hx2 hwa hB0 ⊢
  obtain ⟨n1, hn1⟩ : ∃ n, S.stack.length = n := ⟨_, rfl⟩
  obtain ⟨n2, hn2⟩ : ∃ n, S.wants.length = n := ⟨_, rfl⟩
  obtain ⟨n3, hn3⟩ : ∃ n, S.done.length = n := ⟨_, rfl⟩
  obtain ⟨m1, hm1⟩ : ∃ n, S'.stack.length = n := ⟨_, rfl⟩
  obtain ⟨m2, hm2⟩ : ∃ n, S'.wants.length = n := ⟨_, rfl⟩
  obtain ⟨m3, hm3⟩ : ∃ n, S'.done.length = n := ⟨_, rfl⟩
  rw [hn1] at e1
  rw [hn2] at e2
  rw [hn3] at e3
  rw [hm1] at e1'
  rw [hm2] at e2'
  rw [hm3] at e3'
  subst e1; subst e2; subst e3; subst e1'; subst e2'; subst e3'
  obtain ⟨N, hN⟩ : ∃ N, w.heap.size + 1 = N := ⟨_, rfl⟩
  rw [hN] at hx2
  have hc := fun (W : World) (hW : Chg (fun _ => False) wa W) => (⟨hW.cell (cell_of_block hx1 (i := 0) rfl) id, hW.cell (cell_of_block hx1 (i := 1) rfl) id, hW.cell (cell_of_block hx1 (i := 2) rfl) id, hW.cell (cell_of_block hx1 (i := 3) rfl) id, hW.cell (cell_of_block hx2 (i := 0) rfl) id, hW.cell (cell_of_block hx2 (i := 1) rfl) id, hW.cell (cell_of_block hx2 (i := 2) rfl) id, hW.cell (cell_of_block hx2 (i := 3) rfl) id⟩ : W.cell? ⟨w.heap.size, 0, none⟩ = some (.slice x1 n1 y1) ∧ W.cell? ⟨w.heap.size, 1, none⟩ = some (.slice x2 n2 y2) ∧ W.cell? ⟨w.heap.size, 2, none⟩ = some (.int .i64 (st : Int)) ∧ W.cell? ⟨w.heap.size, 3, none⟩ = some (.slice x3 n3 y3) ∧ W.cell? ⟨N, 0, none⟩ = some (.slice x1' m1 y1') ∧ W.cell? ⟨N, 1, none⟩ = some (.slice x2' m2 y2') ∧ W.cell? ⟨N, 2, none⟩ = some (.int .i64 (st' : Int)) ∧ W.cell? ⟨N, 3, none⟩ = some (.slice x3' m3 y3'))
  have HS1 := Lib.hid hS1
  have HS2 := Lib.hid hS2
  have HS3 := Lib.hid hS3
  have HAl := Lib.hid hAl.symm
  have HCa := Lib.hid hca
  have HCell := Lib.hid hc
  obtain ⟨c1, c2, c3, c4, c5, c6, c7, c8⟩ := hc wa (Chg.refl _ _)
  clear h h' hS1 hS2 hS3 hA hAl hB1 hB2 hB3 hst hst' hn1 hn2 hn3 hm1 hm2 hm3 hca hx1 hx2 hc
  cases B0 with
  | false =>
    have hsb : ((st : Int) == (st' : Int)) = false := by have := of_decide_eq_false hB0; simp; omega
    clear hB0
    go_enter Tryz.func27, Tryz.ntmps27
    go_wp2_with (first
      | (go_at_call 28; fail)
      | (go_at_call 29; fail))
    go_ret
    exact ⟨by rw [HAl.out]; rfl, HCa.out⟩
  | true =>
  have hsb : ((st : Int) == (st' : Int)) = true := by have := of_decide_eq_true hB0; simp; omega
  clear hB0
  go_enter Tryz.func27, Tryz.ntmps27
  go_wp2_with (first
    | (go_at_call 28; fail)
    | (go_at_call 29; fail))
  try rw [hwa]
  try rw [hN]
  clear hwa hN c1 c2 c3 c4 c5 c6 c7 c8
  refine (HS1.out wa HCa.out).mono ?_
  rintro e wA ⟨rfl, hcA⟩
  have HCA := Lib.hid (HCa.out.trans' hcA)
  have HCl := Lib.hid hcA
  clear hcA
  cases B1 with
  | false =>
    dsimp only
    go_wp2_with fail
    go_ret
    exact ⟨by rw [HAl.out]; rfl, HCA.out⟩
  | true =>
  obtain ⟨c1, c2, c3, c4, c5, c6, c7, c8⟩ := HCell.out wA HCl.out
  dsimp only
  go_wp2_with (first
    | (go_at_call 28; fail))
  clear c1 c2 c3 c4 c5 c6 c7 c8
  refine (HS2.out wA HCA.out).mono ?_
  rintro e wB ⟨rfl, hcB⟩
  have HCB := Lib.hid (HCA.out.trans' hcB)
  have HCm := Lib.hid (HCl.out.trans' hcB)
  clear hcB
  cases B2 with
  | false =>
    dsimp only
    go_wp2_with fail
    go_ret
    exact ⟨by rw [HAl.out]; rfl, HCB.out⟩
  | true =>
  obtain ⟨c1, c2, c3, c4, c5, c6, c7, c8⟩ := HCell.out wB HCm.out
  dsimp only
  go_wp2_with (first
    | (go_at_call 29; fail))
  clear c1 c2 c3 c4 c5 c6 c7 c8
  refine (HS3.out wB HCB.out).mono ?_
  rintro e wC ⟨rfl, hcC⟩
  have HCC := Lib.hid (HCB.out.trans' hcC)
  clear hcC
  dsimp only
  go_wp2_with fail
  go_ret
  exact ⟨by rw [HAl.out]; rfl, HCC.out⟩

end Go.Proofs.YtbjagmlbamjdbaaGreat.roots
end

/-
  rootdb's laws: the chapter's example.
-/
section
set_option linter.unusedSimpArgs false
set_option linter.unusedVariables false
namespace Go.Proofs.YtbjagmlbamjdbaaGreat.roots
open Go.RowKit Go.Maps Go.My Go.ChangeMaps disks bufs wals kvs
set_option maxRecDepth 100000

variable {W w w' : World} {P Q : Nat → Prop} {r d s a : Nat} {X : DV} {m : List KV} {recs : List Txt} {S : RS}

def zer32 : Dg := List.replicate 32 0
def lpk : Pk := ⟨1, ⟨[97], [49], [⟨zer32, 5⟩]⟩⟩
def exS1 : RS := stageS nilS 7 [lpk]
def exS2 : RS := commitS exS1 7
theorem ex_e1 : stageE nilS 7 [lpk] = none := by decide
theorem ex_e2 : stageE exS1 8 [] = some 10 := by decide
theorem ex_e3 : commitE exS1 8 = some 11 := by decide
theorem ex_e4 : commitE exS1 7 = none := by decide
theorem ex_e5 : commitE exS2 7 = some 0 := by decide
theorem ex_e6 : abortE exS2 7 = some 11 := by decide
theorem ex_size : sizeF 1 [lpk] = 5 := by decide
theorem lpk_dig : ∀ p ∈ [lpk], p.dig := by
  intro p hp x hx
  rw [List.mem_singleton] at hp
  subst hp
  simp only [lpk, List.mem_singleton] at hx
  subst hx
  rfl

/-- The example's packages, as they are laid. -/
theorem lpk_at (w : World) {g h : Nat} (h1 : w.heap[g]? = some (.cells (rfC ⟨zer32, 5⟩).toArray 98 (0, 0))) (h2 : w.heap[h]? = some (.cells #[.int .i64 1, .string ⟨#[97]⟩, .string ⟨#[49]⟩, .slice (some ⟨g, 0, none⟩) 1 1] 90 (0, 0))) :
    PksAt w (fun b => b = g ∨ b = h) (.slice (some ⟨h, 0, none⟩) 1 1) [lpk] := by
  have hl : LysAt w (fun b => b = g ∨ b = h) (.slice (some ⟨g, 0, none⟩) 1 1) lpk.man.layers := by
    refine ⟨⟨some ⟨g, 0, none⟩, 1, rfl, ⟨fun _ => ⟨g, 0, rfl⟩, fun i r hr => ?_, fun b off ho i r j v hi hj => ?_⟩, fun _ b off ho => ?_, Nat.le_refl _, by unfold maxLen; omega⟩, fun x hx => ?_⟩
    · cases i with
      | zero => simp only [lpk, List.map_cons, List.map_nil, List.getElem?_cons_zero, Option.some.injEq] at hr; subst hr; rfl
      | succ i => simp [lpk] at hr
    · cases ho
      cases i with
      | zero =>
        simp only [lpk, List.map_cons, List.map_nil, List.getElem?_cons_zero, Option.some.injEq] at hi
        subst hi
        rw [show 0 + 0 * 33 + j = j by omega]
        exact cell_of_block h1 (by simpa using hj)
      | succ i => simp [lpk] at hi
    · cases ho; exact Or.inl rfl
    · simp only [lpk, List.mem_singleton] at hx; subst hx; rfl
  refine ⟨⟨some ⟨h, 0, none⟩, 1, [.slice (some ⟨g, 0, none⟩) 1 1], rfl, rfl, ⟨fun _ => ⟨h, 0, rfl⟩, fun i r hr => ?_, fun b off ho i r j v hi hj => ?_⟩, fun _ b off ho => ?_, fun i p u hp hu => ?_, Nat.le_refl _, by unfold maxLen; omega⟩, fun p hp => ?_⟩
  · cases i with
    | zero => simp only [List.zipWith_cons_cons, List.zipWith_nil_left, List.getElem?_cons_zero, Option.some.injEq] at hr; subst hr; rfl
    | succ i => simp at hr
  · cases ho
    cases i with
    | zero =>
      simp only [List.zipWith_cons_cons, List.zipWith_nil_left, List.getElem?_cons_zero, Option.some.injEq] at hi
      subst hi
      rw [show 0 + 0 * 4 + j = j by omega]
      exact cell_of_block h2 (by simpa [pkC, lpk, strV] using hj)
    | succ i => simp at hi
  · cases ho; exact Or.inr rfl
  · cases i with
    | zero =>
      simp only [List.getElem?_cons_zero, Option.some.injEq] at hp hu
      subst hp; subst hu
      exact hl
    | succ i => simp at hp
  · rw [List.mem_singleton] at hp
    subst hp
    simp [lpk, maxLen]

set_option maxHeartbeats 4000000 in
theorem works_any (w : World) : Calls Tryz.prog 17 #[] w fun e w' => e = .returned (.bool true) ∧ Chg (fun _ => False) w w' := by
  have HB := Lib.hid (Blank.new 60 (by omega) (by omega))
  have HNew := Lib.hid (ds_new w w (Chg.refl _ _) 60 (by omega) (by omega))
  go_enter Tryz.func17, Tryz.ntmps17
  go_wp2_with (first
    | (go_at_call 25; fail))
  refine HNew.out.mono ?_
  rintro e w1 ⟨d, rfl, P, hd⟩
  have HO := Lib.hid (open_blank w1 hd HB.out rfl)
  have HW1 := Lib.hid hd.chg
  have HP1 := Lib.hid hd.lt
  clear hd HNew
  dsimp only
  go_wp2_with (first
    | (go_at_call 24; fail))
  refine HO.out.mono ?_
  rintro e w2 ⟨r, rfl, Q, X, recs, a, m, hR, hlen, -, -⟩
  have hX : areaN X.B.length = 29 := by rw [hlen, DV.new_len]; rfl
  have HR := Lib.hid hR
  have HX := Lib.hid hX
  clear hR hX hlen HO
  dsimp only
  go_wp2_with (first
    | (go_at_call 19; fail))
  obtain ⟨w3, hw3⟩ : ∃ w3, (w2.alloc (.cells (rfC ⟨zer32, 5⟩).toArray 98)).alloc (.cells #[.int .i64 1, .string ⟨#[97]⟩, .string ⟨#[49]⟩, .slice (some ⟨w2.heap.size, 0, none⟩) 1 1] 90) = w3 := ⟨_, rfl⟩
  have hc3 : Chg (fun _ => False) w2 w3 := by rw [← hw3]; exact ((Chg.refl _ _).alloc _).alloc _
  have hg3 : w3.heap[w2.heap.size]? = some (.cells (rfC ⟨zer32, 5⟩).toArray 98 (0, 0)) := by rw [← hw3]; exact ((Chg.refl (fun _ => False) _).alloc _).at (block_alloc_new w2 _) id
  have hh3 : w3.heap[w2.heap.size + 1]? = some (.cells #[.int .i64 1, .string ⟨#[97]⟩, .string ⟨#[49]⟩, .slice (some ⟨w2.heap.size, 0, none⟩) 1 1] 90 (0, 0)) := by
    rw [← hw3]
    have := block_alloc_new (w2.alloc (.cells (rfC ⟨zer32, 5⟩).toArray 98)) (.cells #[.int .i64 1, .string ⟨#[97]⟩, .string ⟨#[49]⟩, .slice (some ⟨w2.heap.size, 0, none⟩) 1 1] 90)
    rw [World.size_alloc] at this
    exact this
  have hp3 := lpk_at w3 hg3 hh3
  have hlt3 := lt_of_block hh3
  have hst := rl_stage w3 (HR.out.fresh hc3) (by omega) 7 hp3 (fun b hb => ⟨fun hq => by have := HR.out.rt.lt b hq; omega, by omega⟩)
  rw [← hw3] at hst
  refine hst.mono ?_
  rw [hw3]
  rintro e w4 ⟨z, rfl, S', ⟨⟨Q4, X4, recs4, s4, a4, m4, hR4, hl4, hs4, ho4⟩, hc4⟩, ht4⟩
  obtain ⟨rfl, rfl⟩ := Told.done (ex_e1 ▸ ht4) (HR.out.room_stage ex_e1 lpk_dig (by decide) (by rw [HX.out]; exact of_decide_eq_true (by decide)))
  have hp4 : PksAt w4 (fun b => b = w2.heap.size ∨ b = w2.heap.size + 1) (.slice (some ⟨w2.heap.size + 1, 0, none⟩) 1 1) [lpk] := hp3.kept hc4 (fun b hb hq => by have := HR.out.rt.lt b hq; omega)
  have hoff4 : ∀ b, b = w2.heap.size ∨ b = w2.heap.size + 1 → ¬ Q4 b := fun b hb => ho4 b (by omega) (fun hq => by have := HR.out.rt.lt b hq; omega)
  obtain ⟨g, hg⟩ : ∃ g, w2.heap.size = g := ⟨_, rfl⟩
  have hlt4 : ∀ b, b = w2.heap.size ∨ b = w2.heap.size + 1 → b < w4.heap.size := fun b hb => by have := hc4.size; omega
  rw [hg] at hp4 hoff4 hlt4 ⊢
  have HLt4 := Lib.hid hlt4
  have HR4 := Lib.hid (show RL Q4 w w4 r d X4 recs4 s4 a4 m4 exS1 from hR4)
  have HX4 := Lib.hid (show areaN X4.B.length = 29 ∧ s4 ≤ 2 from ⟨by rw [hl4, HX.out], hs4⟩)
  have HP4 := Lib.hid hp4
  have HOff4 := Lib.hid hoff4
  clear hw3 hc3 hg3 hh3 hp3 hlt3 hst hR4 hl4 hs4 ho4 hc4 ht4 hp4 hoff4 hlt4 hg HR HX
  dsimp only
  go_wp2_with (first
    | (go_at_call 19; fail))
  have hst := rl_stage w4 HR4.out (by have := HX4.out.2; omega) 8 (PksAt.nil w4 (fun _ => False)) (fun b hb => hb.elim)
  refine hst.mono ?_
  clear hst
  rintro e w5 ⟨z, rfl, S', ⟨⟨Q5, X5, recs5, s5, a5, m5, hR5, hl5, hs5, ho5⟩, hc5⟩, ht5⟩
  obtain ⟨hz, rfl⟩ := ht5.early ex_e2
  obtain rfl : z = 10 := hz
  have HR5 := Lib.hid (show RL Q5 w w5 r d X5 recs5 s5 a5 m5 exS1 from hR5)
  have HX5 := Lib.hid (show areaN X5.B.length = 29 ∧ s5 ≤ 3 from ⟨by rw [hl5, HX4.out.1], by have := HX4.out.2; omega⟩)
  have HP5 := Lib.hid (HP4.out.kept hc5 (fun b hb hq => HOff4.out b hb hq))
  have HOff5 := Lib.hid (show ∀ b, b = g ∨ b = g + 1 → ¬ Q5 b from fun b hb => ho5 b (HLt4.out b hb) (HOff4.out b hb))
  have HLt5 := Lib.hid (show ∀ b, b = g ∨ b = g + 1 → b < w5.heap.size from fun b hb => Nat.lt_of_lt_of_le (HLt4.out b hb) hc5.size)
  clear hR5 hl5 hs5 ho5 hc5 ht5
  dsimp only
  go_wp2_with (first
    | (go_at_call 20; fail))
  have hst := rl_commit w5 HR5.out (by have := HX5.out.2; omega) (by decide) 8
  refine hst.mono ?_
  clear hst
  rintro e w6 ⟨z, rfl, S', ⟨⟨Q6, X6, recs6, s6, a6, m6, hR6, hl6, hs6, ho6⟩, hc6⟩, ht6⟩
  obtain ⟨hz, rfl⟩ := ht6.early ex_e3
  obtain rfl : z = 11 := hz
  have HR6 := Lib.hid (show RL Q6 w w6 r d X6 recs6 s6 a6 m6 exS1 from hR6)
  have HX6 := Lib.hid (show areaN X6.B.length = 29 ∧ s6 ≤ 4 from ⟨by rw [hl6, HX5.out.1], by have := HX5.out.2; omega⟩)
  have HP6 := Lib.hid (HP5.out.kept hc6 (fun b hb hq => HOff5.out b hb hq))
  have HOff6 := Lib.hid (show ∀ b, b = g ∨ b = g + 1 → ¬ Q6 b from fun b hb => ho6 b (HLt5.out b hb) (HOff5.out b hb))
  have HLt6 := Lib.hid (show ∀ b, b = g ∨ b = g + 1 → b < w6.heap.size from fun b hb => Nat.lt_of_lt_of_le (HLt5.out b hb) hc6.size)
  clear hR6 hl6 hs6 ho6 hc6 ht6
  dsimp only
  go_wp2_with (first
    | (go_at_call 20; fail))
  have hst := rl_commit w6 HR6.out (by have := HX6.out.2; omega) (by decide) 7
  refine hst.mono ?_
  clear hst
  rintro e w7 ⟨z, rfl, S', ⟨⟨Q7, X7, recs7, s7, a7, m7, hR7, hl7, hs7, ho7⟩, hc7⟩, ht7⟩
  obtain ⟨rfl, rfl⟩ := Told.done (ex_e4 ▸ ht7) (HR6.out.room_commit ex_e4 (by decide) (by rw [HX6.out.1]; exact of_decide_eq_true (by decide)))
  have HR7 := Lib.hid (show RL Q7 w w7 r d X7 recs7 s7 a7 m7 exS2 from hR7)
  have HX7 := Lib.hid (show areaN X7.B.length = 29 ∧ s7 ≤ 5 from ⟨by rw [hl7, HX6.out.1], by have := HX6.out.2; omega⟩)
  have HP7 := Lib.hid (HP6.out.kept hc7 (fun b hb hq => HOff6.out b hb hq))
  have HOff7 := Lib.hid (show ∀ b, b = g ∨ b = g + 1 → ¬ Q7 b from fun b hb => ho7 b (HLt6.out b hb) (HOff6.out b hb))
  have HLt7 := Lib.hid (show ∀ b, b = g ∨ b = g + 1 → b < w7.heap.size from fun b hb => Nat.lt_of_lt_of_le (HLt6.out b hb) hc7.size)
  clear hR7 hl7 hs7 ho7 hc7 ht7
  dsimp only
  go_wp2_with (first
    | (go_at_call 20; fail))
  have hst := rl_commit w7 HR7.out (by have := HX7.out.2; omega) (by decide) 7
  refine hst.mono ?_
  clear hst
  rintro e w8 ⟨z, rfl, S', ⟨⟨Q8, X8, recs8, s8, a8, m8, hR8, hl8, hs8, ho8⟩, hc8⟩, ht8⟩
  obtain ⟨hz, rfl⟩ := ht8.early ex_e5
  obtain rfl : z = 0 := hz
  have HR8 := Lib.hid (show RL Q8 w w8 r d X8 recs8 s8 a8 m8 exS2 from hR8)
  have HX8 := Lib.hid (show areaN X8.B.length = 29 ∧ s8 ≤ 6 from ⟨by rw [hl8, HX7.out.1], by have := HX7.out.2; omega⟩)
  have HP8 := Lib.hid (HP7.out.kept hc8 (fun b hb hq => HOff7.out b hb hq))
  have HOff8 := Lib.hid (show ∀ b, b = g ∨ b = g + 1 → ¬ Q8 b from fun b hb => ho8 b (HLt7.out b hb) (HOff7.out b hb))
  have HLt8 := Lib.hid (show ∀ b, b = g ∨ b = g + 1 → b < w8.heap.size from fun b hb => Nat.lt_of_lt_of_le (HLt7.out b hb) hc8.size)
  clear hR8 hl8 hs8 ho8 hc8 ht8
  dsimp only
  go_wp2_with (first
    | (go_at_call 21; fail))
  have hst := rl_abort w8 HR8.out (by have := HX8.out.2; omega) 7
  refine hst.mono ?_
  clear hst
  rintro e w9 ⟨z, rfl, S', ⟨⟨Q9, X9, recs9, s9, a9, m9, hR9, hl9, hs9, ho9⟩, hc9⟩, ht9⟩
  obtain ⟨hz, rfl⟩ := ht9.early ex_e6
  obtain rfl : z = 11 := hz
  have HR9 := Lib.hid (show RL Q9 w w9 r d X9 recs9 s9 a9 m9 exS2 from hR9)
  have HX9 := Lib.hid (show areaN X9.B.length = 29 ∧ s9 ≤ 7 from ⟨by rw [hl9, HX8.out.1], by have := HX8.out.2; omega⟩)
  have HP9 := Lib.hid (HP8.out.kept hc9 (fun b hb hq => HOff8.out b hb hq))
  have HOff9 := Lib.hid (show ∀ b, b = g ∨ b = g + 1 → ¬ Q9 b from fun b hb => ho9 b (HLt8.out b hb) (HOff8.out b hb))
  have HLt9 := Lib.hid (show ∀ b, b = g ∨ b = g + 1 → b < w9.heap.size from fun b hb => Nat.lt_of_lt_of_le (HLt8.out b hb) hc9.size)
  clear hR9 hl9 hs9 ho9 hc9 ht9
  dsimp only
  go_wp2_with (first
    | (go_at_call 22; fail))
  obtain ⟨P9, kb, l, q, F9, sv, wv, dv, hrks, -⟩ := HR9.out.rt.ex
  refine (stack_of w9 hrks.rt).mono ?_
  rintro e wA ⟨vA, rfl, hpA, hcA⟩
  have hsm := rsame_is wA hpA (HP9.out.fresh hcA)
  have hone : decide (exS2.stack = [lpk]) = true := by decide
  rw [hone] at hsm
  obtain ⟨oA, cA, lA, hvA, -⟩ := id hpA.is
  have hlA : exS2.stack.length = 1 := rfl
  rw [hlA] at hvA
  subst hvA
  have HSm := Lib.hid hsm
  have HSz := Lib.hid (fun (W : World) (hW : Chg (fun _ => False) w9 W) => size_is W (HP9.out.fresh hW) (by decide) 1)
  rw [ex_size] at HSz
  have HCA := Lib.hid hcA
  have HC9 := Lib.hid HR9.out.rt.chg
  clear hpA hcA hsm hone hrks hlA
  dsimp only
  go_wp2_with (first
    | (go_at_call 28; refine HSm.out.mono ?_; rintro e wB ⟨rfl, hcB⟩; have HCB := Lib.hid (HCA.out.trans' hcB); clear hcB)
    | (go_at_call 15; refine (HSz.out wB HCB.out).mono ?_; rintro e wC ⟨rfl, hcC⟩; have HCC := Lib.hid (HCB.out.trans' hcC); clear hcC))
  go_ret
  exact ⟨rfl, HC9.out.trans' HCC.out⟩

end Go.Proofs.YtbjagmlbamjdbaaGreat.roots
end
