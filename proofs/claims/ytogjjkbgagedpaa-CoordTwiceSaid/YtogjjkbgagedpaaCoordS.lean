/-
  coord's laws: roots of plans, SameNumbers; arguments: two ints, Booleans; who lacks.
-/
import Derived.Test.YtogjjkbgagedpaaCoordR
import Derived.Test.YtogjjkbgagedpaaCoordO
namespace Go.Proofs.Ytogjjkbgagedpaa.coords
open Go.ChangeShapes Go.WideShapes Go.RowKit Go.Maps Go.My Go.ChangeMaps Go.Deep
set_option maxRecDepth 100000

variable {w w' : World}

theorem roots_plans (w : World) (oa : Option Addr) (cap : Nat) (ps : List Int) (h : RowsAt w 2 oa (ps.map planC)) (h10 : ps.length ≤ 10) : Calls Try.prog 21 #[.slice oa ps.length cap] w fun e w' => ∃ v, e = .returned v ∧ w'.ownsRow w.heap.size 3 1 v ps.length (ps.map (Value.int .i64)) ∧ Chg (fun _ => False) w w' := by
  obtain ⟨i0, hI0⟩ := info_parts info_int
  have HI0 := Lib.hid hI0
  have H := Lib.hid h
  clear h hI0
  go_enter Try.func21, Try.ntmps21
  go_wp2_with fail
  go_loopw [3, 4] (fun u j wr => ∃ k : Nat, j = .int .i64 k ∧ k ≤ ps.length ∧ wr.ownsRow w.heap.size 3 1 u k ((ps.take k).map (Value.int .i64)) ∧ Chg (fun _ => False) w wr) (fun _ j _ => ps.length - (intOf j).toNat)
  · exact ⟨0, rfl, Nat.zero_le _, World.ownsRow_nil _ _ _ _, Chg.refl _ _⟩
  obtain ⟨k, rfl, hk, ho, hc⟩ := hrel
  have HO := Lib.hid ho
  have HC := Lib.hid hc
  clear ho hc
  by_cases hlt : k < ps.length
  · have hki : (k : Int) < (ps.length : Int) := by omega
    have hd10 : decide ((k : Int) < 10) = true := by simp; omega
    obtain ⟨b, off, rfl⟩ := H.out.spot (by intro e; have := congrArg List.length e; simp at this; rw [this] at hlt; simp at hlt)
    obtain ⟨r, hr⟩ : ∃ r, ps[k]? = some r := ⟨ps[k], List.getElem?_eq_getElem hlt⟩
    have d0 : wr.cell? ⟨b, off + k * 2, none⟩ = some (.int .i64 r) := (H.out.kept HC.out (fun _ _ h => h)).cell b off rfl k (planC r) 0 _ (by rw [List.getElem?_map, hr]; rfl) rfl
    have hca := (Chg.refl (fun _ => False) wr).alloc (.cells #[.int .i64 r] 3)
    have HRow := Lib.hid (row_kept HO.out hca (fun _ _ h => h))
    have HCa := Lib.hid hca
    have Hr := Lib.hid hr
    clear hca hr
    go_wp2_with (first
      | (at_builtin; refine wpList_append_own_at _ rfl _ _ 41 rfl w.heap.size 3 i0 (.int .i64 0) 1 8 Try.underlying41 HI0.out.1 HI0.out.2.1 HI0.out.2.2.1 HI0.out.2.2.2 rfl (by decide) _ k _ rfl HRow.out ⟨wr.heap.size, 0, none⟩ 1 1 [.int .i64 r] rfl rfl (cells_new wr [.int .i64 r] _) (by intro x hx; rw [List.mem_singleton.1 hx]; rfl) (by unfold maxLen; omega) (by omega) (Nat.le_trans HC.out.size HCa.out.size) ?_; intro v6 w6 ho6 hg6 hx1 hx2; have HO6 := Lib.hid ho6; have HG6 := Lib.hid hg6; clear ho6 hg6 hx1 hx2))
    refine ⟨⟨k + 1, by go_num, hlt, ?_, (HC.out.trans' HCa.out).new (Chg.of_grown HG6.out) (fun j e => (HO.out.lt j e.symm).1)⟩, meas_step hlt⟩
    rw [List.take_add_one, Hr.out, Option.toList_some, List.map_append]
    exact HO6.out
  · have hki : ¬ (k : Int) < (ps.length : Int) := by omega
    have hkl : k = ps.length := by omega
    rw [hkl, List.take_length] at HO
    clear hkl
    go_wp2_with fail
    go_ret
    exact ⟨_, rfl, HO.out, HC.out⟩

theorem same_numbers (w : World) {v1 v2 : Value} {xs ys : List Int} (h1 : SlAt w v1 (xs.map (Value.int .i64))) (h2 : SlAt w v2 (ys.map (Value.int .i64))) (hx : xs.length ≤ 1000000) :
    Calls Try.prog 16 #[v1, v2] w fun e w' => e = .returned (.bool (decide (xs = ys))) ∧ Chg (fun _ => False) w w' := by
  obtain ⟨oa1, cap1, rfl, ne1, c1⟩ := h1
  obtain ⟨oa2, cap2, rfl, ne2, c2⟩ := h2
  rw [List.length_map, List.length_map]
  have HN1 := Lib.hid ne1
  have HC1 := Lib.hid c1
  have HN2 := Lib.hid ne2
  have HC2 := Lib.hid c2
  clear ne1 c1 ne2 c2
  by_cases hl : xs.length = ys.length
  · have hli : (xs.length : Int) = (ys.length : Int) := by omega
    rw [← hl]
    go_enter Try.func16, Try.ntmps16
    go_wp2_with fail
    go_loopw [5] (fun j wr => ∃ k : Nat, j = .int .i64 k ∧ k ≤ xs.length ∧ xs.take k = ys.take k ∧ Chg (fun _ => False) w wr) (fun j _ => xs.length - (intOf j).toNat)
    · exact ⟨0, rfl, Nat.zero_le _, rfl, Chg.refl _ _⟩
    obtain ⟨k, rfl, hk, he, hc⟩ := hrel
    have HE := Lib.hid he
    have HC := Lib.hid hc
    clear he hc
    by_cases hlt : k < xs.length
    · have hki : (k : Int) < (xs.length : Int) := by omega
      obtain ⟨b1, o1, rfl⟩ := HN1.out (by intro e; rw [List.map_eq_nil_iff] at e; rw [e] at hlt; simp at hlt)
      obtain ⟨b2, o2, rfl⟩ := HN2.out (by intro e; rw [List.map_eq_nil_iff] at e; rw [hl, e] at hlt; simp at hlt)
      obtain ⟨x, hxk⟩ : ∃ x, xs[k]? = some x := ⟨xs[k], List.getElem?_eq_getElem hlt⟩
      obtain ⟨y, hyk⟩ : ∃ y, ys[k]? = some y := ⟨ys[k], List.getElem?_eq_getElem (by omega)⟩
      have d1 : wr.cell? ⟨b1, o1 + k, none⟩ = some (.int .i64 x) := HC.out.cell (HC1.out b1 o1 rfl k _ (by rw [List.getElem?_map, hxk]; rfl)) id
      have d2 : wr.cell? ⟨b2, o2 + k, none⟩ = some (.int .i64 y) := HC.out.cell (HC2.out b2 o2 rfl k _ (by rw [List.getElem?_map, hyk]; rfl)) id
      have HXk := Lib.hid hxk
      have HYk := Lib.hid hyk
      clear hxk hyk
      go_wp2_with fail
      refine wp_region_noPanic ?_
      refine wp_region_held_drew (S := (fun w' => w'.cell? ⟨b1, o1 + k, none⟩ = some (.int .i64 x) ∧ w'.cell? ⟨b2, o2 + k, none⟩ = some (.int .i64 y))) (by kernel_rfl) (⟨d1, d2⟩) (fun hHeld => ?_)
      refine take_list (i := 0) (v := ?_) rfl (by kernel_rfl) (by kernel_rfl) (by kernel_rfl) (fun _ _ _ h => h) (Or.inl ⟨by rfl, fun w hSw => ?_⟩) hHeld ?_
      rotate_left
      · (obtain ⟨hSw1, hSw2⟩ := hSw; go_simp)
        try with_reducible rfl
      simp only [Act.put, List.setIfInBounds_toArray, List.set_cons_zero, List.set_cons_succ]
      refine take_list (i := 1) (v := ?_) rfl (by kernel_rfl) (by kernel_rfl) (by kernel_rfl) (fun _ _ _ h => h) (Or.inl ⟨by rfl, fun w hSw => ?_⟩) hHeld ?_
      rotate_left
      · (obtain ⟨hSw1, hSw2⟩ := hSw; go_simp)
        try with_reducible rfl
      simp only [Act.put, List.setIfInBounds_toArray, List.set_cons_zero, List.set_cons_succ]
      refine take_list (i := 2) (v := ?_) rfl (by kernel_rfl) (by kernel_rfl) (by kernel_rfl) (fun _ _ _ h => h) (Or.inl ⟨by rfl, fun w hSw => ?_⟩) hHeld ?_
      rotate_left
      · (obtain ⟨hSw1, hSw2⟩ := hSw; go_simp)
        try with_reducible rfl
      simp only [Act.put, List.setIfInBounds_toArray, List.set_cons_zero, List.set_cons_succ]
      refine take_list (i := 3) (v := ?_) rfl (by kernel_rfl) (by kernel_rfl) (by kernel_rfl) (fun _ _ _ h => h) (Or.inl ⟨by rfl, fun w hSw => ?_⟩) hHeld ?_
      rotate_left
      · (obtain ⟨hSw1, hSw2⟩ := hSw; go_simp)
        try with_reducible rfl
      simp only [Act.put, List.setIfInBounds_toArray, List.set_cons_zero, List.set_cons_succ]
      refine take_list (i := 4) (v := ?_) rfl (by kernel_rfl) (by kernel_rfl) (by kernel_rfl) (fun _ _ _ h => h) (Or.inl ⟨by rfl, fun w hSw => ?_⟩) hHeld ?_
      rotate_left
      · (obtain ⟨hSw1, hSw2⟩ := hSw; go_simp)
        try with_reducible rfl
      simp only [Act.put, List.setIfInBounds_toArray, List.set_cons_zero, List.set_cons_succ]
      refine take_list (i := 5) (v := ?_) rfl (by kernel_rfl) (by kernel_rfl) (by kernel_rfl) (fun _ _ _ h => h) (Or.inl ⟨by rfl, fun w hSw => ?_⟩) hHeld ?_
      rotate_left
      · (obtain ⟨hSw1, hSw2⟩ := hSw; go_simp)
        try with_reducible rfl
      simp only [Act.put, List.setIfInBounds_toArray, List.set_cons_zero, List.set_cons_succ]
      refine take_list (i := 6) (v := ?_) rfl (by kernel_rfl) (by kernel_rfl) (by kernel_rfl) (fun _ _ _ h => h) (Or.inl ⟨by rfl, fun w hSw => ?_⟩) hHeld ?_
      rotate_left
      · (obtain ⟨hSw1, hSw2⟩ := hSw; go_simp)
        try with_reducible rfl
      simp only [Act.put, List.setIfInBounds_toArray, List.set_cons_zero, List.set_cons_succ]
      refine take_list (i := 7) (v := ?_) rfl (by kernel_rfl) (by kernel_rfl) (by kernel_rfl) (fun _ _ _ h => h) (Or.inl ⟨by rfl, fun w hSw => ?_⟩) hHeld ?_
      rotate_left
      · (obtain ⟨hSw1, hSw2⟩ := hSw; go_simp)
        try with_reducible rfl
      simp only [Act.put, List.setIfInBounds_toArray, List.set_cons_zero, List.set_cons_succ]
      refine take_list (i := 8) (v := ?_) rfl (by kernel_rfl) (by kernel_rfl) (by kernel_rfl) (fun _ _ _ h => h) (Or.inl ⟨by rfl, fun w hSw => ?_⟩) hHeld ?_
      rotate_left
      · (obtain ⟨hSw1, hSw2⟩ := hSw; go_simp)
        try with_reducible rfl
      simp only [Act.put, List.setIfInBounds_toArray, List.set_cons_zero, List.set_cons_succ]
      refine wpAnyH_done (by kernel_rfl) ?_ _
      refine NoPanic.normal ?_
      clear hHeld d1 d2
      by_cases hxy : x = y
      · have hne : (x == y) = true := by simp [hxy]
        have HXy := Lib.hid hxy
        clear hxy
        go_wp2_with fail
        refine ⟨⟨k + 1, by go_num, hlt, ?_, HC.out.drew⟩, meas_step hlt⟩
        rw [List.take_add_one, List.take_add_one, HXk.out, HYk.out, HE.out, HXy.out]
      · have hne : (x == y) = false := by simp [hxy]
        have hd : decide (xs = ys) = false := by
          rw [decide_eq_false_iff_not]
          intro e
          rw [e, HYk.out] at HXk
          exact hxy (Option.some.inj HXk.out).symm
        have HD := Lib.hid hd
        clear hd hxy
        go_wp2_with fail
        go_ret
        exact ⟨by rw [HD.out]; rfl, HC.out.drew⟩
    · have hki : ¬ (k : Int) < (xs.length : Int) := by omega
      have hd : decide (xs = ys) = true := by
        rw [decide_eq_true_eq, ← List.take_of_length_le (l := xs) (i := k) (by omega), HE.out, List.take_of_length_le (by omega)]
      have HD := Lib.hid hd
      clear hd
      go_wp2_with fail
      go_ret
      exact ⟨by rw [HD.out]; rfl, HC.out⟩
  · have hli : ¬ (xs.length : Int) = (ys.length : Int) := by omega
    have hd : decide (xs = ys) = false := by
      rw [decide_eq_false_iff_not]; intro e; exact hl (by rw [e])
    have HD := Lib.hid hd
    clear hd hl
    go_enter Try.func16, Try.ntmps16
    go_wp2_with fail
    go_ret
    exact ⟨by rw [HD.out]; rfl, Chg.refl _ _⟩

theorem cells_bool : Try.prog.cellsOf 4 = 1 := by kernel_rfl
theorem cells_two : Try.prog.cellsOf 51 = 2 := by kernel_rfl

theorem trod_bools {H : Type} {enc : TypeId × Value → H} {W : World} {base : Nat} {sp : Nat → Bool} {held : Bool} {t : Nat} {l : List (List Value)} (ht : Try.prog.underlying t = some .bool) (h : ∀ x ∈ l, ∃ fuel y, DataW.trod enc Try.prog W base sp held fuel t x = some y) :
    ∃ bs : List Bool, l = bs.map (fun z => [Value.bool z]) := by
  induction l with
  | nil => exact ⟨[], rfl⟩
  | cons x l ih =>
    obtain ⟨bs, rfl⟩ := ih (fun y hy => h y (by simp [hy]))
    obtain ⟨fuel, y, hy⟩ := h x (by simp)
    obtain ⟨b, rfl, _⟩ := DataW.trod_bool ht hy
    exact ⟨b :: bs, rfl⟩

theorem open_bools {H : Type} {enc : TypeId × Value → H} {W : World} {v : Value} {d : DataW H} {ps : List MemPlace} {r : Reach} {b0 : Nat}
    (hv : Value.okWide Try.prog W r b0 52 v) (h : DataW.Trod enc Try.prog W 0 (fun _ => true) true 52 v d ps) :
    ∃ bs : List Bool, SlAt W v (bs.map Value.bool) := by
  obtain ⟨oa, l, cap, rfl, h1, h2, h3, h4⟩ := open_rows Try.underlying52 cells_bool (by omega) hv h
  obtain ⟨bs, rfl⟩ := trod_bools Try.underlying4 h4
  refine ⟨bs, ?_⟩
  have := h3.flat cap
  rw [flat_one] at this
  exact this

theorem open_two_ints {H : Type} {enc : TypeId × Value → H} {W : World} {v : Value} {d : DataW H} {ps : List MemPlace} {r : Reach} {b0 : Nat}
    (hv : Value.okWide Try.prog W r b0 51 v) (h : DataW.Trod enc Try.prog W 0 (fun _ => true) true 51 v d ps) :
    ∃ a b : Int, v = .agg #[.int .i64 a, .int .i64 b] ∧ inR a ∧ inR b := by
  obtain ⟨fuel, hf⟩ := h
  obtain ⟨xs, k, _, _, hlen, hxs, hx⟩ := DataW.trod_array Try.underlying51 hf
  rw [cells_two] at hlen
  have g0 := hx 0 (by omega)
  have g1 := hx 1 (by omega)
  rw [List.getElem?_eq_getElem (by omega), cells_int] at g0 g1
  obtain ⟨a, e0, _, wa⟩ := DataW.trod_int Try.underlying3 g0
  obtain ⟨b, e1, _, wb⟩ := DataW.trod_int Try.underlying3 g1
  refine ⟨a, b, ?_, wf_inR wa, wf_inR wb⟩
  have hv' := hv
  simp only [Value.okWide, Try.underlying51] at hv'
  obtain ⟨cs, rfl, h2, _⟩ := hv'
  rw [cells_two] at h2
  obtain ⟨l, hl⟩ : ∃ l, cs.toList = l := ⟨_, rfl⟩
  have hc : (Value.agg cs).cells.toList = l := by simpa [Value.cells] using hl
  rw [hc] at e0 e1
  have hll : l.length = 2 := by rw [← hl, Array.length_toList, h2]
  match l, hll with
  | [x, y], _ =>
    simp at e0 e1
    subst e0 e1
    congr 1
    exact Array.toList_inj.1 hl

theorem lacks_put {E : EV} {r : Int} (hnd : E.ps.Nodup) (hr : r ∈ E.ps) (hno : ¬ (mget E.ans r).getD false = true) : (lacksOf (E.yes r) E.ps.length).length + 1 = (lacksOf E E.ps.length).length := by
  have key : ∀ l : List Int, l.Nodup → ((l.filter (fun s => !(mget (mput E.ans r true) s).getD false)).length + (if r ∈ l then 1 else 0)) = (l.filter (fun s => !(mget E.ans s).getD false)).length := by
    intro l
    induction l with
    | nil => intro _; simp
    | cons s l ih =>
      intro h
      have h1 := List.nodup_cons.1 h
      have h2 := ih h1.2
      by_cases e : s = r
      · subst e
        rw [if_neg h1.1] at h2
        have n1 : (mget (mput E.ans s true) s).getD false = true := by rw [mget_mput, if_pos rfl]; rfl
        have n2 : (mget E.ans s).getD false = false := by simpa using hno
        simp only [List.filter_cons, n1, n2, List.mem_cons, true_or, if_true, Bool.not_true, Bool.not_false, Bool.false_eq_true, if_false, List.length_cons]
        omega
      · have n1 : mget (mput E.ans r true) s = mget E.ans s := by rw [mget_mput, if_neg e]
        have e' : ¬ r = s := fun h => e h.symm
        simp only [List.filter_cons, n1, List.mem_cons, e', false_or]
        split
        · simp only [List.length_cons]; omega
        · exact h2
  have := key E.ps hnd
  rw [if_pos hr] at this
  unfold lacksOf
  rw [List.take_length, show (E.yes r).ps = E.ps from rfl, List.take_length]
  exact this

end Go.Proofs.Ytogjjkbgagedpaa.coords
