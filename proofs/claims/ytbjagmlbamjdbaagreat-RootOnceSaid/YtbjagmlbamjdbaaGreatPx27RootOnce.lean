/- . -/
import Derived.Test.YtbjagmlbamjdbaaGreatPx5RootOnce
import Derived.Test.YtbjagmlbamjdbaaGreatPx18RootOnce
import Derived.Test.YtbjagmlbamjdbaaGreatPx21RootOnce
import Derived.Test.YtbjagmlbamjdbaaGreatPx23RootOnce
import Derived.Test.YtbjagmlbamjdbaaGreatPx26RootOnce
import Derived.Laws.StructEq

set_option linter.unusedSimpArgs false
set_option linter.unusedVariables false
section
namespace Go.Proofs.YtbjagmlbamjdbaaGreat.roots
open Go.RowKit Go.Maps Go.My Go.ChangeMaps disks bufs wals kvs
set_option maxRecDepth 100000

variable {w w' : World}

theorem rf_ext (z : Rf) (hz : z.sum.length = 32) : (rfC z).toArray.extract 0 (0 + 32) = (cellsB z.sum).toArray := by
  unfold rfC
  have hl : (cellsB z.sum).length = 32 := by unfold cellsB; rw [List.length_map, hz]
  simp [hl]
theorem size_run (w : World) : (sizeOf 96).run Tryz.prog w = .ok 32 w := by kernel_rfl
theorem part_dig (w : World) (z : Rf) (hz : z.sum.length = 32) : (part 96 (rfC z).toArray 0).run Tryz.prog w = .ok (.agg (cellsB z.sum).toArray) w := by
  have h1 := size_run w
  have h2 := rf_ext z hz
  unfold part
  rw [Sem.run_bind, Tryz.isAgg96]
  simp only [Result.andThen_ok, if_true, Sem.run_bind]
  rw [h1]
  simp only [Result.andThen_ok, Sem.run_pure, h2]
theorem part_int (w : World) (z : Rf) (hz : z.sum.length = 32) : (part 3 (rfC z).toArray 32).run Tryz.prog w = .ok (.int .i64 z.size) w := by
  unfold part
  rw [Sem.run_bind, Tryz.isAgg3]
  have : (rfC z).toArray[32]? = some (.int .i64 z.size) := by
    have hl : (cellsB z.sum).length = 32 := by unfold cellsB; rw [List.length_map, hz]
    unfold rfC
    simp [hl]
  simp only [Result.andThen_ok, Bool.false_eq_true, if_false, this, Sem.run_pure]
theorem ref_fields0 : (Tryz.prog.fieldsOf 98).toList.map (fun f => (decide (f.name ≠ "_"), f.type, f.offset)) = [(true, 96, 0), (true, 3, 32)] := by
  unfold Program.fieldsOf
  rw [Tryz.underlying98]
  rfl
theorem two_of {α β : Type} {g : α → β} {l : List α} {x y : β} (h : l.map g = [x, y]) : ∃ a b, l = [a, b] ∧ g a = x ∧ g b = y := by
  match l, h with
  | [a, b], h =>
    simp only [List.map_cons, List.map_nil, List.cons.injEq, and_true] at h
    exact ⟨a, b, rfl, h.1, h.2⟩
theorem ref_fields : ∃ f0 f1, (Tryz.prog.fieldsOf 98).toList = [f0, f1] ∧ f0.name ≠ "_" ∧ f0.type = 96 ∧ f0.offset = 0 ∧ f1.name ≠ "_" ∧ f1.type = 3 ∧ f1.offset = 32 := by
  obtain ⟨a, b, e, h1, h2⟩ := two_of ref_fields0
  simp only [Prod.mk.injEq, decide_eq_true_eq] at h1 h2
  exact ⟨a, b, e, h1.1, h1.2.1, h1.2.2, h2.1, h2.2.1, h2.2.2⟩
theorem eq_dig (w : World) (d : Nat) (x y : Txt) (hx : x.length = 32) (hy : y.length = 32) : (Op.equalIn (d + 3) 96 (.agg (cellsB x).toArray) (.agg (cellsB y).toArray)).run Tryz.prog w = .ok (decide (x = y)) w := by
  obtain ⟨i, hi, hz, hsz, hby⟩ := u8_parts
  have hc : Tryz.prog.cellsOf 5 = 1 := by kernel_rfl
  rw [run_equalIn_array w (d + 2) _ _ Tryz.underlying96 hi, hc, List.range_eq_range', run_eqItems_bytes w (d + 1) x y (by omega) 32 0 (by omega)]
  simp

theorem eqFields_two {P : Program} (w : World) (d : Nat) (xs ys : Array Value) (f0 f1 : Field) (a b a' b' : Value) (r0 r1 : Bool) (n0 : f0.name ≠ "_") (n1 : f1.name ≠ "_")
    (p1 : (part f0.type xs f0.offset).run P w = .ok a w) (p2 : (part f0.type ys f0.offset).run P w = .ok b w) (p3 : (Op.equalIn d f0.type a b).run P w = .ok r0 w)
    (q1 : (part f1.type xs f1.offset).run P w = .ok a' w) (q2 : (part f1.type ys f1.offset).run P w = .ok b' w) (q3 : (Op.equalIn d f1.type a' b').run P w = .ok r1 w) :
    (Op.eqFields d xs ys [f0, f1]).run P w = .ok (r0 && r1) w := by
  unfold Op.eqFields
  rw [if_pos n0]
  simp only [Sem.run_bind, p1, p2, p3, Result.andThen_ok]
  cases r0
  · simp
  · simp only [Bool.not_true, Bool.false_eq_true, if_false, Bool.true_and]
    unfold Op.eqFields
    rw [if_pos n1]
    simp only [Sem.run_bind, q1, q2, q3, Result.andThen_ok]
    cases r1
    · simp
    · simp [Op.eqFields]

theorem eq_ref (w : World) (d : Nat) (x y : Rf) (hx : x.sum.length = 32) (hy : y.sum.length = 32) :
    (Op.equalIn (d + 4) 98 (.agg (rfC x).toArray) (.agg (rfC y).toArray)).run Tryz.prog w = .ok (decide (x = y)) w := by
  obtain ⟨f0, f1, e, a1, a2, a3, b1, b2, b3⟩ := ref_fields
  have hst : Tryz.prog.stoodInHeld 98 = false := by kernel_rfl
  have hun : Tryz.prog.underlying 98 = some (.struct (Tryz.prog.fieldsOf 98)) := by
    unfold Program.fieldsOf
    rw [Tryz.underlying98]
  have h1 := part_dig w x hx
  have h2 := part_dig w y hy
  have h3 := part_int w x hx
  have h4 := part_int w y hy
  have h5 := eq_dig w d x.sum y.sum hx hy
  have h6 := run_equalIn_int (P := Tryz.prog) w (d + 2) 3 .i64 .i64 x.size y.size Tryz.underlying3
  rw [run_equalIn_struct w (d + 3) _ _ _ hun hst, e]
  have ex : x = y ↔ x.sum = y.sum ∧ x.size = y.size := by cases x; cases y; simp
  have hz := eqFields_two w (d + 3) (rfC x).toArray (rfC y).toArray f0 f1 _ _ _ _ _ _ a1 b1 (by rw [a2, a3]; exact h1) (by rw [a2, a3]; exact h2) (by rw [a2]; exact h5) (by rw [b2, b3]; exact h3) (by rw [b2, b3]; exact h4) (by rw [b2]; exact h6)
  rw [hz]
  congr 1
  rw [Bool.eq_iff_iff, Bool.and_eq_true, decide_eq_true_eq, decide_eq_true_eq, ex, beq_iff_eq]

theorem run_equal_ref (w : World) (x y : Rf) (hx : x.sum.length = 32) (hy : y.sum.length = 32) :
    (Op.equal 98 (.agg (rfC x).toArray) (.agg (rfC y).toArray)).run Tryz.prog w = .ok (decide (x = y)) w := by
  have h := eq_ref w 9996 x y hx hy
  unfold Op.equal
  rw [show Op.maxDepth = 9996 + 4 from rfl]
  exact h

theorem yieldsIf_neq_ref {ops : Array Oper} {S : World → Prop} {op : Oper} {a : Act} (hw : Region.wanted op (yielded ops a.tmps) = true) (p q : Operand) (ho : op.op = .binOp .neq 98 p q 98) (x y : Rf)
    (hp : a.eval p = .agg (rfC x).toArray) (hq : a.eval q = .agg (rfC y).toArray) (hx : x.sum.length = 32) (hy : y.sum.length = 32) :
    YieldsIf Tryz.prog ops S op (.bool (!decide (x = y))) a :=
  .inl ⟨hw, fun w' _ => by
    have he := run_equal_ref w' x y hx hy
    have hg : Tryz.prog.eqGuardType Tryz.prog.depth 98 = false := by kernel_rfl
    unfold execOp
    simp [ho, hp, hq, eqGuard, binOp, hg, he]⟩

end Go.Proofs.YtbjagmlbamjdbaaGreat.roots
end

section
namespace Go.Proofs.YtbjagmlbamjdbaaGreat.roots
open Go.RowKit Go.Maps Go.My Go.ChangeMaps disks bufs wals kvs
set_option maxRecDepth 100000

variable {w w' : World}

theorem rf_range {L : List Rf} {b off k : Nat} {x : Rf} (h : RowsAt w 33 (some ⟨b, off, none⟩) (L.map rfC)) (hx : L[k]? = some x) : w.rangeAt b (off + k * 33) (rfC x) := fun j u hj => by
  have hk : (L.map rfC)[k]? = some (rfC x) := by rw [List.getElem?_map, hx]; rfl
  exact h.cell b off rfl k (rfC x) j u hk hj
theorem rfC_len {x : Rf} (h : x.sum.length = 32) : (rfC x).length = 33 := by unfold rfC cellsB; rw [List.length_append, List.length_map, h]; rfl

set_option maxHeartbeats 2000000 in
theorem msame_is (w : World) (m m' : Mf) {F F' : Nat → Prop} {v v' : Value} (h : LysAt w F v m.layers) (h' : LysAt w F' v' m'.layers) :
    Calls Tryz.prog 57 #[.agg #[strV m.name, strV m.ver, v], .agg #[strV m'.name, strV m'.ver, v']] w fun e w' => e = .returned (.bool (decide (m = m'))) ∧ Chg (fun _ => False) w w' := by
  obtain ⟨nm, vr, L⟩ := m
  obtain ⟨nm', vr', L'⟩ := m'
  simp only at h h' ⊢
  obtain ⟨oa, cap, rfl, hr, -, hcap, hcm⟩ := h.is
  obtain ⟨oa', cap', rfl, hr', -, hcap', hcm'⟩ := h'.is
  have HD := Lib.hid h.dig
  have HD' := Lib.hid h'.dig
  obtain ⟨s1, hs1⟩ : ∃ s, strV nm = .string s := ⟨_, rfl⟩
  obtain ⟨s2, hs2⟩ : ∃ s, strV vr = .string s := ⟨_, rfl⟩
  obtain ⟨t1, ht1⟩ : ∃ s, strV nm' = .string s := ⟨_, rfl⟩
  obtain ⟨t2, ht2⟩ : ∃ s, strV vr' = .string s := ⟨_, rfl⟩
  have q1 := str_same hs1 ht1
  have q2 := str_same hs2 ht2
  obtain ⟨R, hR⟩ : ∃ R, decide ((⟨nm, vr, L⟩ : Mf) = ⟨nm', vr', L'⟩) = R := ⟨_, rfl⟩
  rw [hR]
  have HR := Lib.hid hR
  rw [hs1, hs2, ht1, ht2]
  have hcx := ((Chg.refl (fun _ => False) w).alloc (.cells #[.string s1, .string s2, .slice oa L.length cap] 88)).alloc (.cells #[.string t1, .string t2, .slice oa' L'.length cap'] 88)
  have HCx := Lib.hid hcx
  have H := Lib.hid (hr.kept hcx (fun _ _ h => h))
  have H' := Lib.hid (hr'.kept hcx (fun _ _ h => h))
  clear h h' hr hr' hs1 hs2 ht1 ht2 hR hcx
  by_cases e1 : nm = nm'
  · rw [decide_eq_true e1] at q1
    by_cases e2 : vr = vr'
    · rw [decide_eq_true e2] at q2
      by_cases e3 : L.length = L'.length
      · have e3i : ((L.length : Int) != (L'.length : Int)) = false := by simp [e3]
        have HE := Lib.hid (And.intro e1 (And.intro e2 e3))
        have hx1 := block_alloc_new w (.cells #[.string s1, .string s2, .slice oa L.length cap] 88)
        have hx2 := block_alloc_new (w.alloc (.cells #[.string s1, .string s2, .slice oa L.length cap] 88)) (.cells #[.string t1, .string t2, .slice oa' L'.length cap'] 88)
        obtain ⟨wb, hwb⟩ : ∃ wb, (w.alloc (.cells #[.string s1, .string s2, .slice oa L.length cap] 88)).alloc (.cells #[.string t1, .string t2, .slice oa' L'.length cap'] 88) = wb := ⟨_, rfl⟩
        have hx1 : wb.heap[w.heap.size]? = some (.cells #[.string s1, .string s2, .slice oa L.length cap] 88 (0, 0)) := by rw [← hwb]; exact ((Chg.refl (fun _ => False) _).alloc _).at hx1 id
        rw [World.size_alloc, hwb] at hx2
        rw [hwb] at HCx H H'
        have c1 : wb.cell? ⟨w.heap.size, 2, none⟩ = some (.slice oa L.length cap) := cell_of_block hx1 rfl
        have c2 : wb.cell? ⟨w.heap.size + 1, 2, none⟩ = some (.slice oa' L'.length cap') := cell_of_block hx2 rfl
        clear e1 e2 e3
        have HX1 := Lib.hid c1
        have HX2 := Lib.hid c2
        have HY1 := Lib.hid hx1
        have HY2 := Lib.hid hx2
        clear c1 c2 hx1 hx2
        obtain ⟨gx, hgx⟩ : ∃ g, w.heap.size + 1 = g := ⟨_, rfl⟩
        rw [hgx] at HX2
        have c1 := HX1.out
        have c2 := HX2.out
        have a1 : wb.cell? ⟨w.heap.size, 0, none⟩ = some (.string s1) := cell_of_block HY1.out rfl
        have a2 : wb.cell? ⟨w.heap.size, 1, none⟩ = some (.string s2) := cell_of_block HY1.out rfl
        have b1 : wb.cell? ⟨gx, 0, none⟩ = some (.string t1) := by rw [← hgx]; exact cell_of_block HY2.out rfl
        have b2 : wb.cell? ⟨gx, 1, none⟩ = some (.string t2) := by rw [← hgx]; exact cell_of_block HY2.out rfl
        go_enter Tryz.func57, Tryz.ntmps57
        go_wp2_with fail
        clear a1 a2 b1 b2
        try rw [hwb]
        try rw [hgx]
        clear hwb hgx
        go_loopw [5] (fun j wr => ∃ k : Nat, j = .int .i64 k ∧ k ≤ L.length ∧ L.take k = L'.take k ∧ Chg (fun _ => False) wb wr) (fun j _ => L.length - (intOf j).toNat)
        · exact ⟨0, rfl, Nat.zero_le _, rfl, Chg.refl _ _⟩
        clear c1 c2
        obtain ⟨k, rfl, hk, he, hc⟩ := hrel
        have HE2 := Lib.hid he
        have HC := Lib.hid hc
        have c1 := hc.cell HX1.out id
        have c2 := hc.cell HX2.out id
        clear he hc
        by_cases hlt : k < L.length
        · have hki : (k : Int) < (L.length : Int) := by omega
          have hki2 : (k : Int) < (L'.length : Int) := by have := HE.out.2.2; omega
          have hkb : (L.length : Int) ≤ 9223372036854775807 := by have h1 := hcap; have h2 := hcm; unfold maxLen at h2; omega
          obtain ⟨x, hx⟩ : ∃ x, L[k]? = some x := ⟨L[k], List.getElem?_eq_getElem hlt⟩
          obtain ⟨y, hy⟩ : ∃ y, L'[k]? = some y := ⟨L'[k]'(by have := HE.out.2.2; omega), List.getElem?_eq_getElem _⟩
          obtain ⟨b, off, rfl⟩ := H.out.spot (by intro e; rw [List.map_eq_nil_iff] at e; rw [e] at hlt; simp at hlt)
          obtain ⟨b', off', rfl⟩ := H'.out.spot (by intro e; rw [List.map_eq_nil_iff] at e; have h2 := HE.out.2.2; rw [e] at h2; simp only [List.length_nil] at h2; omega)
          have hx32 := HD.out x (List.mem_of_getElem? hx)
          have hy32 := HD'.out y (List.mem_of_getElem? hy)
          have hrx := rf_range (H.out.kept HC.out (fun _ _ h => h)) hx
          have hry := rf_range (H'.out.kept HC.out (fun _ _ h => h)) hy
          have HXY := Lib.hid (And.intro hx hy)
          have HRx := Lib.hid (And.intro hrx hry)
          clear hx hy hrx hry
          go_wp2_with fail
          refine wp_region_noPanic ?_
          refine wp_region_held_drew (S := (fun w' => w'.cell? ⟨w.heap.size, 2, none⟩ = some (.slice (some ⟨b, off, none⟩) L.length cap) ∧ w'.cell? ⟨gx, 2, none⟩ = some (.slice (some ⟨b', off', none⟩) L'.length cap') ∧ w'.rangeAt b (off + k * 33) (rfC x) ∧ w'.rangeAt b' (off' + k * 33) (rfC y))) (by kernel_rfl) (⟨c1, c2, HRx.out.1, HRx.out.2⟩) (fun hHeld => ?_)
          refine tk 0 (v := ?_) hHeld rfl (fun w hSw => ?_) ?_
          rotate_left
          · (obtain ⟨hSw1, hSw2, -, -⟩ := hSw; go_simp)
            try with_reducible rfl
          simp only [Act.put, zA, zB, zC]
          refine tk 1 (v := ?_) hHeld rfl (fun w hSw => ?_) ?_
          rotate_left
          · (obtain ⟨hSw1, hSw2, -, -⟩ := hSw; go_simp)
            try with_reducible rfl
          simp only [Act.put, zA, zB, zC]
          refine tk 2 (v := ?_) hHeld rfl (fun w hSw => ?_) ?_
          rotate_left
          · (obtain ⟨hSw1, hSw2, -, -⟩ := hSw; go_simp)
            try with_reducible rfl
          simp only [Act.put, zA, zB, zC]
          refine tk 3 (v := ?_) hHeld rfl (fun w hSw => ?_) ?_
          rotate_left
          · (obtain ⟨hSw1, hSw2, -, -⟩ := hSw; go_simp)
            try with_reducible rfl
          simp only [Act.put, zA, zB, zC]
          refine tk 5 (v := ?_) hHeld rfl (fun w hSw => ?_) ?_
          rotate_left
          · (obtain ⟨hSw1, hSw2, -, -⟩ := hSw; go_simp)
            try with_reducible rfl
          simp only [Act.put, zA, zB, zC]
          refine tk 6 (v := ?_) hHeld rfl (fun w hSw => ?_) ?_
          rotate_left
          · (obtain ⟨hSw1, hSw2, -, -⟩ := hSw; go_simp)
            try with_reducible rfl
          simp only [Act.put, zA, zB, zC]
          refine tk 7 (v := ?_) hHeld rfl (fun w hSw => ?_) ?_
          rotate_left
          · (obtain ⟨hSw1, hSw2, -, -⟩ := hSw; go_simp)
            try with_reducible rfl
          simp only [Act.put, zA, zB, zC]
          refine tk 8 (v := ?_) hHeld rfl (fun w hSw => ?_) ?_
          rotate_left
          · (obtain ⟨hSw1, hSw2, -, -⟩ := hSw; go_simp)
            try with_reducible rfl
          simp only [Act.put, zA, zB, zC]
          refine take_list (i := 4) rfl (by kernel_rfl) (by kernel_rfl) (by kernel_rfl) (fun _ _ _ h => h) (yieldsIf_load_mid (by rfl) 98 _ rfl b (off + k * 33) rfl (rfC x) _ (fun w h => h.2.2.1) Tryz.underlying98 rfl (size_ref.trans (by rw [rfC_len hx32]))) hHeld ?_
          simp only [Act.put, zA, zB, zC]
          refine take_list (i := 9) rfl (by kernel_rfl) (by kernel_rfl) (by kernel_rfl) (fun _ _ _ h => h) (yieldsIf_load_mid (by rfl) 98 _ rfl b' (off' + k * 33) rfl (rfC y) _ (fun w h => h.2.2.2) Tryz.underlying98 rfl (size_ref.trans (by rw [rfC_len hy32]))) hHeld ?_
          simp only [Act.put, zA, zB, zC]
          refine take_list (i := 10) rfl (by kernel_rfl) (by kernel_rfl) (by kernel_rfl) (fun _ _ _ h => h) (yieldsIf_neq_ref (by rfl) _ _ rfl x y rfl rfl hx32 hy32) hHeld ?_
          simp only [Act.put, zA, zB, zC]
          refine wpAnyH_done (by kernel_rfl) ?_ _
          refine NoPanic.normal ?_
          clear hHeld c1 c2
          by_cases hxy : x = y
          · have hd : decide (x = y) = true := decide_eq_true hxy
            rw [hd]
            have HXe := Lib.hid hxy
            clear hxy hd
            go_wp2_with fail
            refine ⟨⟨k + 1, by go_num, hlt, ?_, HC.out.drew⟩, meas_step hlt⟩
            rw [List.take_add_one, List.take_add_one, HXY.out.1, HXY.out.2, HE2.out, HXe.out]
          · have hd : decide (x = y) = false := decide_eq_false hxy
            rw [hd]
            obtain rfl : R = false := by
              rw [← HR.out, decide_eq_false_iff_not]
              rintro e
              cases e
              rw [HXY.out.1] at HXY
              exact hxy (Option.some.inj HXY.out.2)
            clear hxy hd
            go_wp2_with fail
            go_ret
            exact ⟨rfl, HCx.out.trans' HC.out.drew⟩
        · have hki : ¬ (k : Int) < (L.length : Int) := by omega
          obtain rfl : R = true := by
            rw [← HR.out, decide_eq_true_eq]
            have h1 : L = L' := by
              rw [← List.take_of_length_le (l := L) (i := k) (by omega), HE2.out, List.take_of_length_le (by have := HE.out.2.2; omega)]
            rw [HE.out.1, HE.out.2.1, h1]
          go_wp2_with fail
          go_ret
          exact ⟨rfl, HCx.out.trans' HC.out⟩
      · have e3i : ((L.length : Int) != (L'.length : Int)) = true := by simp; omega
        obtain rfl : R = false := by rw [← HR.out, decide_eq_false_iff_not]; rintro e; cases e; exact e3 rfl
        clear e1 e2 e3
        go_enter Tryz.func57, Tryz.ntmps57
        go_wp2_with fail
        go_ret
        exact ⟨rfl, HCx.out⟩
    · rw [decide_eq_false e2] at q2
      obtain rfl : R = false := by rw [← HR.out, decide_eq_false_iff_not]; rintro e; cases e; exact e2 rfl
      clear e1 e2
      go_enter Tryz.func57, Tryz.ntmps57
      go_wp2_with fail
      go_ret
      exact ⟨rfl, HCx.out⟩
  · rw [decide_eq_false e1] at q1
    obtain rfl : R = false := by rw [← HR.out, decide_eq_false_iff_not]; rintro e; cases e; exact e1 rfl
    clear e1
    go_enter Tryz.func57, Tryz.ntmps57
    go_wp2_with fail
    go_ret
    exact ⟨rfl, HCx.out⟩

end Go.Proofs.YtbjagmlbamjdbaaGreat.roots
end

section
namespace Go.Proofs.YtbjagmlbamjdbaaGreat.roots
open Go.RowKit Go.Maps Go.My Go.ChangeMaps disks bufs wals kvs
set_option maxRecDepth 100000

variable {w w' : World} {B r kb : Nat} {F : Nat → Prop} {S : RS} {sv wv dv : Value}

set_option maxHeartbeats 1000000 in
theorem same_numbersR (w : World) {v1 v2 : Value} {xs ys : List Int} (h1 : SlAt w v1 (xs.map (Value.int .i64))) (h2 : SlAt w v2 (ys.map (Value.int .i64))) (hx : xs.length ≤ 1000000) :
    Calls Tryz.prog 29 #[v1, v2] w fun e w' => e = .returned (.bool (decide (xs = ys))) ∧ Chg (fun _ => False) w w' := by
  obtain ⟨oa1, cap1, rfl, ne1, c1⟩ := h1
  obtain ⟨oa2, cap2, rfl, ne2, c2⟩ := h2
  rw [List.length_map, List.length_map]
  have HN1 := Lib.hid ne1
  have HC1 := Lib.hid c1
  have HN2 := Lib.hid ne2
  have HC2 := Lib.hid c2
  clear ne1 c1 ne2 c2
  by_cases hl : xs.length = ys.length
  · have hli : (xs.length : Int) = (ys.length : Int) := by omega
    rw [← hl]
    go_enter Tryz.func29, Tryz.ntmps29
    go_wp2_with fail
    go_loopw [5] (fun j wr => ∃ k : Nat, j = .int .i64 k ∧ k ≤ xs.length ∧ xs.take k = ys.take k ∧ Chg (fun _ => False) w wr) (fun j _ => xs.length - (intOf j).toNat)
    · exact ⟨0, rfl, Nat.zero_le _, rfl, Chg.refl _ _⟩
    obtain ⟨k, rfl, hk, he, hc⟩ := hrel
    have HE := Lib.hid he
    have HC := Lib.hid hc
    clear he hc
    by_cases hlt : k < xs.length
    · have hki : (k : Int) < (xs.length : Int) := by omega
      obtain ⟨b1, o1, rfl⟩ := HN1.out (by intro e; rw [List.map_eq_nil_iff] at e; rw [e] at hlt; simp at hlt)
      obtain ⟨b2, o2, rfl⟩ := HN2.out (by intro e; rw [List.map_eq_nil_iff] at e; rw [hl, e] at hlt; simp at hlt)
      obtain ⟨x, hxk⟩ : ∃ x, xs[k]? = some x := ⟨xs[k], List.getElem?_eq_getElem hlt⟩
      obtain ⟨y, hyk⟩ : ∃ y, ys[k]? = some y := ⟨ys[k], List.getElem?_eq_getElem (by omega)⟩
      have d1 : wr.cell? ⟨b1, o1 + k, none⟩ = some (.int .i64 x) := HC.out.cell (HC1.out b1 o1 rfl k _ (by rw [List.getElem?_map, hxk]; rfl)) id
      have d2 : wr.cell? ⟨b2, o2 + k, none⟩ = some (.int .i64 y) := HC.out.cell (HC2.out b2 o2 rfl k _ (by rw [List.getElem?_map, hyk]; rfl)) id
      have HXk := Lib.hid hxk
      have HYk := Lib.hid hyk
      clear hxk hyk
      go_wp2_with fail
      refine wp_region_noPanic ?_
      refine wp_region_held_drew (S := (fun w' => w'.cell? ⟨b1, o1 + k, none⟩ = some (.int .i64 x) ∧ w'.cell? ⟨b2, o2 + k, none⟩ = some (.int .i64 y))) (by kernel_rfl) (⟨d1, d2⟩) (fun hHeld => ?_)
      refine tk 0 (v := ?_) hHeld rfl (fun w hSw => ?_) ?_
      rotate_left
      · (obtain ⟨hSw1, hSw2⟩ := hSw; go_simp)
        try with_reducible rfl
      simp only [Act.put, zA, zB, zC]
      refine tk 1 (v := ?_) hHeld rfl (fun w hSw => ?_) ?_
      rotate_left
      · (obtain ⟨hSw1, hSw2⟩ := hSw; go_simp)
        try with_reducible rfl
      simp only [Act.put, zA, zB, zC]
      refine tk 2 (v := ?_) hHeld rfl (fun w hSw => ?_) ?_
      rotate_left
      · (obtain ⟨hSw1, hSw2⟩ := hSw; go_simp)
        try with_reducible rfl
      simp only [Act.put, zA, zB, zC]
      refine tk 3 (v := ?_) hHeld rfl (fun w hSw => ?_) ?_
      rotate_left
      · (obtain ⟨hSw1, hSw2⟩ := hSw; go_simp)
        try with_reducible rfl
      simp only [Act.put, zA, zB, zC]
      refine tk 4 (v := ?_) hHeld rfl (fun w hSw => ?_) ?_
      rotate_left
      · (obtain ⟨hSw1, hSw2⟩ := hSw; go_simp)
        try with_reducible rfl
      simp only [Act.put, zA, zB, zC]
      refine tk 5 (v := ?_) hHeld rfl (fun w hSw => ?_) ?_
      rotate_left
      · (obtain ⟨hSw1, hSw2⟩ := hSw; go_simp)
        try with_reducible rfl
      simp only [Act.put, zA, zB, zC]
      refine tk 6 (v := ?_) hHeld rfl (fun w hSw => ?_) ?_
      rotate_left
      · (obtain ⟨hSw1, hSw2⟩ := hSw; go_simp)
        try with_reducible rfl
      simp only [Act.put, zA, zB, zC]
      refine tk 7 (v := ?_) hHeld rfl (fun w hSw => ?_) ?_
      rotate_left
      · (obtain ⟨hSw1, hSw2⟩ := hSw; go_simp)
        try with_reducible rfl
      simp only [Act.put, zA, zB, zC]
      refine tk 8 (v := ?_) hHeld rfl (fun w hSw => ?_) ?_
      rotate_left
      · (obtain ⟨hSw1, hSw2⟩ := hSw; go_simp)
        try with_reducible rfl
      simp only [Act.put, zA, zB, zC]
      refine wpAnyH_done (by kernel_rfl) ?_ _
      refine NoPanic.normal ?_
      clear hHeld d1 d2
      by_cases hxy : x = y
      · have hne : (x == y) = true := by simp [hxy]
        have HXy := Lib.hid hxy
        clear hxy
        go_wp2_with fail
        refine ⟨⟨k + 1, by go_num, hlt, ?_, HC.out.drew⟩, meas_step hlt⟩
        rw [List.take_add_one, List.take_add_one, HXk.out, HYk.out, HE.out, HXy.out]
      · have hne : (x == y) = false := by simp [hxy]
        have hd : decide (xs = ys) = false := by
          rw [decide_eq_false_iff_not]
          intro e
          rw [e, HYk.out] at HXk
          exact hxy (Option.some.inj HXk.out).symm
        have HD := Lib.hid hd
        clear hd hxy
        go_wp2_with fail
        go_ret
        exact ⟨by rw [HD.out]; rfl, HC.out.drew⟩
    · have hki : ¬ (k : Int) < (xs.length : Int) := by omega
      have hd : decide (xs = ys) = true := by
        rw [decide_eq_true_eq, ← List.take_of_length_le (l := xs) (i := k) (by omega), HE.out, List.take_of_length_le (by omega)]
      have HD := Lib.hid hd
      clear hd
      go_wp2_with fail
      go_ret
      exact ⟨by rw [HD.out]; rfl, HC.out⟩
  · have hli : ¬ (xs.length : Int) = (ys.length : Int) := by omega
    have hd : decide (xs = ys) = false := by
      rw [decide_eq_false_iff_not]; intro e; exact hl (by rw [e])
    have HD := Lib.hid hd
    clear hd hl
    go_enter Tryz.func29, Tryz.ntmps29
    go_wp2_with fail
    go_ret
    exact ⟨by rw [HD.out]; rfl, Chg.refl _ _⟩

theorem ints_inj : ∀ {xs ys : List Nat}, xs.map (fun n : Nat => (n : Int)) = ys.map (fun n : Nat => (n : Int)) → xs = ys
  | [], [], _ => rfl
  | [], _ :: _, h => by simp at h
  | _ :: _, [], h => by simp at h
  | x :: xs, y :: ys, h => by
    rw [List.map_cons, List.map_cons, List.cons.injEq] at h
    rw [ints_inj h.2, Int.ofNat.inj h.1]
theorem nums_ints (l : List Nat) : (l.map (fun n : Nat => (n : Int))).map (Value.int .i64) = l.map (fun n : Nat => Value.int .i64 (n : Int)) := by rw [List.map_map]; rfl
theorem nums_same (w : World) {v1 v2 : Value} {xs ys : List Nat} (h1 : NumsAt w v1 xs) (h2 : NumsAt w v2 ys) (hx : xs.length ≤ 1000000) :
    Calls Tryz.prog 29 #[v1, v2] w fun e w' => e = .returned (.bool (decide (xs = ys))) ∧ Chg (fun _ => False) w w' := by
  have h := same_numbersR w (xs := xs.map (fun n : Nat => (n : Int))) (ys := ys.map (fun n : Nat => (n : Int))) (by rw [nums_ints]; exact h1) (by rw [nums_ints]; exact h2) (by rw [List.length_map]; exact hx)
  have e : decide (xs.map (fun n : Nat => (n : Int)) = ys.map (fun n : Nat => (n : Int))) = decide (xs = ys) := by
    rw [decide_eq_decide]; exact ⟨ints_inj, fun e => by rw [e]⟩
  rw [e] at h
  exact h


set_option maxHeartbeats 2000000 in
theorem rsame_is (w : World) {F F' : Nat → Prop} {v v' : Value} {l l' : List Pk} (h : PksAt w F v l) (h' : PksAt w F' v' l') :
    Calls Tryz.prog 28 #[v, v'] w fun e w' => e = .returned (.bool (decide (l = l'))) ∧ Chg (fun _ => False) w w' := by
  obtain ⟨oa, cap, lv, rfl, hlv, hr, -, hly, hcap, hcm⟩ := h.is
  obtain ⟨oa', cap', lv', rfl, hlv', hr', -, hly', hcap', hcm'⟩ := h'.is
  have H := Lib.hid (And.intro hr hly)
  have H' := Lib.hid (And.intro hr' hly')
  clear h h' hr hr' hly hly'
  by_cases hl : l.length = l'.length
  · have hli : ((l.length : Int) != (l'.length : Int)) = false := by simp [hl]
    rw [← hl] at hcap' hli ⊢
    have HL := Lib.hid hl
    clear hl
    go_enter Tryz.func28, Tryz.ntmps28
    go_wp2_with fail
    go_loopw [5] (fun j wr => ∃ k : Nat, j = .int .i64 k ∧ k ≤ l.length ∧ l.take k = l'.take k ∧ Chg (fun _ => False) w wr) (fun j _ => l.length - (intOf j).toNat)
    · exact ⟨0, rfl, Nat.zero_le _, rfl, Chg.refl _ _⟩
    obtain ⟨k, rfl, hk, he, hc⟩ := hrel
    have HE := Lib.hid he
    have HC := Lib.hid hc
    clear he hc
    by_cases hlt : k < l.length
    · have hki : (k : Int) < (l.length : Int) := by omega
      have hkb : (l.length : Int) ≤ 9223372036854775807 := by have h1 := hcap; have h2 := hcm; unfold maxLen at h2; omega
      obtain ⟨p, hp⟩ : ∃ p, l[k]? = some p := ⟨l[k], List.getElem?_eq_getElem hlt⟩
      obtain ⟨u, hu⟩ : ∃ u, lv[k]? = some u := ⟨lv[k]'(by omega), List.getElem?_eq_getElem _⟩
      obtain ⟨p', hp'⟩ : ∃ p, l'[k]? = some p := ⟨l'[k]'(by rw [← HL.out]; exact hlt), List.getElem?_eq_getElem _⟩
      obtain ⟨u', hu'⟩ : ∃ u, lv'[k]? = some u := ⟨lv'[k]'(by rw [hlv', ← HL.out]; exact hlt), List.getElem?_eq_getElem _⟩
      obtain ⟨b, off, rfl⟩ := H.out.1.spot (by intro e; have e2 := congrArg List.length e; rw [List.length_zipWith, List.length_nil] at e2; omega)
      obtain ⟨b', off', rfl⟩ := H'.out.1.spot (by intro e; have e2 := congrArg List.length e; rw [List.length_zipWith, List.length_nil, hlv', ← HL.out] at e2; omega)
      obtain ⟨d0, d1, d2, d3⟩ := pk_cells (H.out.1.kept HC.out (fun _ _ h => h)) hp hu
      obtain ⟨e0, e1, e2, e3⟩ := pk_cells (H'.out.1.kept HC.out (fun _ _ h => h)) hp' hu'
      have hlyk := H.out.2 k p u hp hu
      have hlyk' := H'.out.2 k p' u' hp' hu'
      have hms := fun (W : World) (hW : Chg (fun _ => False) w W) => msame_is W p.man p'.man (hlyk.fresh hW) (hlyk'.fresh hW)
      obtain ⟨la, lc, rfl, -⟩ := hlyk.is
      obtain ⟨la', lc', rfl, -⟩ := hlyk'.is
      obtain ⟨n1, hn1⟩ : ∃ n, p.man.layers.length = n := ⟨_, rfl⟩
      obtain ⟨n1', hn1'⟩ : ∃ n, p'.man.layers.length = n := ⟨_, rfl⟩
      obtain ⟨s1, hs1⟩ : ∃ s, strV p.man.name = .string s := ⟨_, rfl⟩
      obtain ⟨s2, hs2⟩ : ∃ s, strV p.man.ver = .string s := ⟨_, rfl⟩
      obtain ⟨t1, ht1⟩ : ∃ s, strV p'.man.name = .string s := ⟨_, rfl⟩
      obtain ⟨t2, ht2⟩ : ∃ s, strV p'.man.ver = .string s := ⟨_, rfl⟩
      obtain ⟨R, hR⟩ : ∃ R, decide (p.man = p'.man) = R := ⟨_, rfl⟩
      obtain ⟨x0, hx0⟩ : ∃ n, p.owner = n := ⟨_, rfl⟩
      obtain ⟨y0, hy0⟩ : ∃ n, p'.owner = n := ⟨_, rfl⟩
      rw [hn1, hn1', hs1, hs2, ht1, ht2, hR] at hms
      rw [hx0] at d0
      rw [hs1] at d1
      rw [hs2] at d2
      rw [hn1] at d3
      rw [hy0] at e0
      rw [ht1] at e1
      rw [ht2] at e2
      rw [hn1'] at e3
      have HMs := Lib.hid hms
      have HP := Lib.hid (And.intro hp (And.intro hp' (And.intro hR (And.intro hx0 hy0))))
      clear hp hp' hu hu' hlyk hlyk' hms hs1 hs2 ht1 ht2 hn1 hn1' hR hx0 hy0
      by_cases hxy : x0 = y0
      · have hne : (x0 != y0) = false := by simp [hxy]
        cases R with
        | true =>
          have HXy := Lib.hid hxy
          clear hxy
          have q0 : ∀ n : FreshW wr, n.val.cell? ⟨b, off + k * 4, none⟩ = some (.int .i64 x0) := fun n => n.chg.cell d0 id
          have q1 : ∀ n : FreshW wr, n.val.cell? ⟨b, off + k * 4 + 1, none⟩ = some (.string s1) := fun n => n.chg.cell d1 id
          have q2 : ∀ n : FreshW wr, n.val.cell? ⟨b, off + k * 4 + 2, none⟩ = some (.string s2) := fun n => n.chg.cell d2 id
          have q3 : ∀ n : FreshW wr, n.val.cell? ⟨b, off + k * 4 + 3, none⟩ = some (.slice la n1 lc) := fun n => n.chg.cell d3 id
          have p0 : ∀ n : FreshW wr, n.val.cell? ⟨b', off' + k * 4, none⟩ = some (.int .i64 y0) := fun n => n.chg.cell e0 id
          have p1 : ∀ n : FreshW wr, n.val.cell? ⟨b', off' + k * 4 + 1, none⟩ = some (.string t1) := fun n => n.chg.cell e1 id
          have p2 : ∀ n : FreshW wr, n.val.cell? ⟨b', off' + k * 4 + 2, none⟩ = some (.string t2) := fun n => n.chg.cell e2 id
          have p3 : ∀ n : FreshW wr, n.val.cell? ⟨b', off' + k * 4 + 3, none⟩ = some (.slice la' n1' lc') := fun n => n.chg.cell e3 id
          have hmq : ∀ n : FreshW wr, Calls Tryz.prog 57 #[.agg #[.string s1, .string s2, .slice la n1 lc], .agg #[.string t1, .string t2, .slice la' n1' lc']] n.val fun e w'' => e = .returned (.bool true) ∧ ∃ m' : FreshW wr, w'' = m'.val := fun n => fresh_call (HMs.out _ (HC.out.trans' n.chg))
          have HMq := Lib.hid hmq
          clear hmq d0 d1 d2 d3 e0 e1 e2 e3
          go_wp2_with fail
          refine wp_region_fresh (by kernel_rfl) (by kernel_rfl) ?_
          repeat (go_big_quiet_step ((go_at_call 57; exact HMq.out _)))
          refine wpQuiet_nil ?_
          rintro _ ⟨nz, rfl⟩
          clear q0 q1 q2 q3 p0 p1 p2 p3
          go_wp2_with fail
          refine ⟨⟨k + 1, by go_num, hlt, ?_, HC.out.trans' nz.chg⟩, meas_step hlt⟩
          have h0 := of_decide_eq_true HP.out.2.2.1
          have h1 : p = p' := by
            have h2 : p.owner = p'.owner := by rw [HP.out.2.2.2.1, HP.out.2.2.2.2, HXy.out]
            cases p; cases p'; simp_all
          rw [List.take_add_one, List.take_add_one, HP.out.1, HP.out.2.1, HE.out, h1]
        | false =>
          have hd : decide (l = l') = false := by
            rw [decide_eq_false_iff_not]
            intro e
            have h1 := HP.out.1
            rw [e, HP.out.2.1] at h1
            have h2 := Option.some.inj h1
            exact of_decide_eq_false HP.out.2.2.1 (by rw [h2])
          have HD := Lib.hid hd
          clear hd hxy
          have q0 : ∀ n : FreshW wr, n.val.cell? ⟨b, off + k * 4, none⟩ = some (.int .i64 x0) := fun n => n.chg.cell d0 id
          have q1 : ∀ n : FreshW wr, n.val.cell? ⟨b, off + k * 4 + 1, none⟩ = some (.string s1) := fun n => n.chg.cell d1 id
          have q2 : ∀ n : FreshW wr, n.val.cell? ⟨b, off + k * 4 + 2, none⟩ = some (.string s2) := fun n => n.chg.cell d2 id
          have q3 : ∀ n : FreshW wr, n.val.cell? ⟨b, off + k * 4 + 3, none⟩ = some (.slice la n1 lc) := fun n => n.chg.cell d3 id
          have p0 : ∀ n : FreshW wr, n.val.cell? ⟨b', off' + k * 4, none⟩ = some (.int .i64 y0) := fun n => n.chg.cell e0 id
          have p1 : ∀ n : FreshW wr, n.val.cell? ⟨b', off' + k * 4 + 1, none⟩ = some (.string t1) := fun n => n.chg.cell e1 id
          have p2 : ∀ n : FreshW wr, n.val.cell? ⟨b', off' + k * 4 + 2, none⟩ = some (.string t2) := fun n => n.chg.cell e2 id
          have p3 : ∀ n : FreshW wr, n.val.cell? ⟨b', off' + k * 4 + 3, none⟩ = some (.slice la' n1' lc') := fun n => n.chg.cell e3 id
          have hmq : ∀ n : FreshW wr, Calls Tryz.prog 57 #[.agg #[.string s1, .string s2, .slice la n1 lc], .agg #[.string t1, .string t2, .slice la' n1' lc']] n.val fun e w'' => e = .returned (.bool false) ∧ ∃ m' : FreshW wr, w'' = m'.val := fun n => fresh_call (HMs.out _ (HC.out.trans' n.chg))
          have HMq := Lib.hid hmq
          clear hmq d0 d1 d2 d3 e0 e1 e2 e3
          go_wp2_with fail
          refine wp_region_fresh (by kernel_rfl) (by kernel_rfl) ?_
          repeat (go_big_quiet_step ((go_at_call 57; exact HMq.out _)))
          refine wpQuiet_nil ?_
          rintro _ ⟨nz, rfl⟩
          clear q0 q1 q2 q3 p0 p1 p2 p3
          go_wp2_with fail
          go_ret
          exact ⟨by rw [HD.out]; rfl, HC.out.trans' nz.chg⟩
      · have hne : (x0 != y0) = true := by simp [hxy]
        have hd : decide (l = l') = false := by
          rw [decide_eq_false_iff_not]
          intro e
          have h1 := HP.out.1
          rw [e, HP.out.2.1] at h1
          have h2 := Option.some.inj h1
          exact hxy (by rw [← HP.out.2.2.2.1, ← HP.out.2.2.2.2, h2])
        have HD := Lib.hid hd
        clear hd hxy
        have q0 : ∀ n : FreshW wr, n.val.cell? ⟨b, off + k * 4, none⟩ = some (.int .i64 x0) := fun n => n.chg.cell d0 id
        have q1 : ∀ n : FreshW wr, n.val.cell? ⟨b, off + k * 4 + 1, none⟩ = some (.string s1) := fun n => n.chg.cell d1 id
        have q2 : ∀ n : FreshW wr, n.val.cell? ⟨b, off + k * 4 + 2, none⟩ = some (.string s2) := fun n => n.chg.cell d2 id
        have q3 : ∀ n : FreshW wr, n.val.cell? ⟨b, off + k * 4 + 3, none⟩ = some (.slice la n1 lc) := fun n => n.chg.cell d3 id
        have p0 : ∀ n : FreshW wr, n.val.cell? ⟨b', off' + k * 4, none⟩ = some (.int .i64 y0) := fun n => n.chg.cell e0 id
        have p1 : ∀ n : FreshW wr, n.val.cell? ⟨b', off' + k * 4 + 1, none⟩ = some (.string t1) := fun n => n.chg.cell e1 id
        have p2 : ∀ n : FreshW wr, n.val.cell? ⟨b', off' + k * 4 + 2, none⟩ = some (.string t2) := fun n => n.chg.cell e2 id
        have p3 : ∀ n : FreshW wr, n.val.cell? ⟨b', off' + k * 4 + 3, none⟩ = some (.slice la' n1' lc') := fun n => n.chg.cell e3 id
        have hmq : ∀ n : FreshW wr, Calls Tryz.prog 57 #[.agg #[.string s1, .string s2, .slice la n1 lc], .agg #[.string t1, .string t2, .slice la' n1' lc']] n.val fun e w'' => e = .returned (.bool R) ∧ ∃ m' : FreshW wr, w'' = m'.val := fun n => fresh_call (HMs.out _ (HC.out.trans' n.chg))
        have HMq := Lib.hid hmq
        clear hmq d0 d1 d2 d3 e0 e1 e2 e3
        go_wp2_with fail
        refine wp_region_fresh (by kernel_rfl) (by kernel_rfl) ?_
        repeat (go_big_quiet_step ((go_at_call 57; exact HMq.out _)))
        refine wpQuiet_nil ?_
        rintro _ ⟨nz, rfl⟩
        clear q0 q1 q2 q3 p0 p1 p2 p3
        go_wp2_with fail
        go_ret
        exact ⟨by rw [HD.out]; rfl, HC.out.trans' nz.chg⟩
    · have hki : ¬ (k : Int) < (l.length : Int) := by omega
      have hd : decide (l = l') = true := by
        rw [decide_eq_true_eq, ← List.take_of_length_le (l := l) (i := k) (by omega), HE.out, List.take_of_length_le (by have := HL.out; omega)]
      have HD := Lib.hid hd
      clear hd
      go_wp2_with fail
      go_ret
      exact ⟨by rw [HD.out]; rfl, HC.out⟩
  · have hli : ((l.length : Int) != (l'.length : Int)) = true := by simp; omega
    have hd : decide (l = l') = false := by
      rw [decide_eq_false_iff_not]; intro e; exact hl (by rw [e])
    have HD := Lib.hid hd
    clear hd hl
    go_enter Tryz.func28, Tryz.ntmps28
    go_wp2_with fail
    go_ret
    exact ⟨by rw [HD.out]; rfl, Chg.refl _ _⟩

structure StAt (w : World) (G : Nat → Prop) (v1 v2 v3 : Value) (S : RS) : Prop where
  stack : PksAt w G v1 S.stack
  wants : PksAt w G v2 S.wants
  done : ∃ b, w.ownsRow b 3 1 v3 S.done.length (S.done.map (fun n : Nat => Value.int .i64 (n : Int)))
  fd : ∀ g, v3.ownBlock = some g → G g
  len : S.done.length ≤ 1000
def stV (v1 v2 v3 : Value) (S : RS) : Value := .agg #[v1, v2, .int .i64 (S.staged : Int), v3]
def RS.alike (S S' : RS) : Bool := decide (S.staged = S'.staged) && decide (S.stack = S'.stack) && decide (S.wants = S'.wants) && decide (S.done = S'.done)
theorem RS.alike_self (S : RS) : S.alike S = true := by simp [RS.alike]
theorem StAt.kept {G Sx : Nat → Prop} {v1 v2 v3 : Value} (h : StAt w G v1 v2 v3 S) (hc : Chg Sx w w') (hs : ∀ k, G k → ¬ Sx k) : StAt w' G v1 v2 v3 S := by
  obtain ⟨b, hb⟩ := h.done
  exact ⟨h.stack.kept hc hs, h.wants.kept hc hs, ⟨b, own_keptS hb hc (fun g hg => hs g (h.fd g hg))⟩, h.fd, h.len⟩
theorem StAt.fresh {G : Nat → Prop} {v1 v2 v3 : Value} (h : StAt w G v1 v2 v3 S) (hc : Chg (fun _ => False) w w') : StAt w' G v1 v2 v3 S := h.kept hc (fun _ _ h => h)
theorem StAt.slices {G : Nat → Prop} {v1 v2 v3 : Value} (h : StAt w G v1 v2 v3 S) : (∃ o c, v1 = .slice o S.stack.length c) ∧ (∃ o c, v2 = .slice o S.wants.length c) ∧ ∃ o c, v3 = .slice o S.done.length c := by
  obtain ⟨o1, c1, -, e1, -⟩ := h.stack.is
  obtain ⟨o2, c2, -, e2, -⟩ := h.wants.is
  obtain ⟨b, hb⟩ := h.done
  obtain ⟨o3, c3, e3⟩ := own_slice hb
  exact ⟨⟨o1, c1, e1⟩, ⟨o2, c2, e2⟩, ⟨o3, c3, e3⟩⟩

theorem size_state : (Tryz.prog.info? 59).map (·.size) = some 4 := by kernel_rfl

set_option maxHeartbeats 1000000 in
theorem state_is (w : World) (h : RtIs w B r kb F S sv wv dv) :
    Calls Tryz.prog 26 #[.pointer (some ⟨r, 0, none⟩)] w fun e w' => ∃ v1 v2 v3, e = .returned (stV v1 v2 v3 S) ∧ StAt w' (fun b => w.heap.size ≤ b ∧ b < w'.heap.size) v1 v2 v3 S ∧ Chg (fun _ => False) w w' := by
  have H := Lib.hid h
  obtain ⟨wa, hwa⟩ : ∃ wa, w.alloc (.cells #[.slice none 0 0, .slice none 0 0, .int .i64 0, .slice none 0 0] 59) = wa := ⟨_, rfl⟩
  have hca : Chg (fun _ => False) w wa := by rw [← hwa]; exact (Chg.refl _ _).alloc _
  have hba : wa.heap[w.heap.size]? = some (.cells #[.slice none 0 0, .slice none 0 0, .int .i64 0, .slice none 0 0] 59 (0, 0)) := by rw [← hwa]; exact block_alloc_new _ _
  have HCa := Lib.hid hca
  have HBa := Lib.hid hba
  have HSg := Lib.hid (staged_of wa (h.fresh hca))
  obtain ⟨N, hN⟩ : ∃ n, w.heap.size = n := ⟨_, rfl⟩
  have HN := Lib.hid hN
  have hlen := h.few.2.2
  have HLen := Lib.hid hlen
  clear h hca hba hN hlen
  go_enter Tryz.func26, Tryz.ntmps26
  go_wp2_with (first
    | (go_at_call 18; fail))
  try rw [hwa]
  clear hwa
  refine HSg.out.mono ?_
  rintro e w1 ⟨u1, rfl, hp1, hc1⟩
  obtain ⟨o1, p1, l1, hu1, -⟩ := id hp1.is
  subst hu1
  have HP1 := Lib.hid hp1
  have HC1 := Lib.hid (HCa.out.trans' hc1)
  have HCa1 := Lib.hid hc1
  have HSk := Lib.hid (stack_of w1 (H.out.fresh HC1.out))
  clear hp1 hc1 HSg
  obtain ⟨nW, hnW⟩ : ∃ n, S.wants.length = n := ⟨_, rfl⟩
  have HnW := Lib.hid hnW
  rw [hnW]
  clear hnW
  dsimp only
  go_wp2_with (first
    | (go_at_call 22; fail))
  refine HSk.out.mono ?_
  rintro e w2 ⟨u2, rfl, hp2, hc2⟩
  obtain ⟨o2, p2, l2, hu2, -⟩ := id hp2.is
  subst hu2
  have HP2 := Lib.hid hp2
  have HC2 := Lib.hid (HC1.out.trans' hc2)
  have HCa2 := Lib.hid hc2
  have HDn := Lib.hid (done_of w2 (H.out.fresh HC2.out))
  clear hp2 hc2 HSk
  obtain ⟨nS, hnS⟩ : ∃ n, S.stack.length = n := ⟨_, rfl⟩
  have HnS := Lib.hid hnS
  rw [hnS]
  clear hnS
  dsimp only
  go_wp2_with (first
    | (go_at_call 23; fail))
  refine HDn.out.mono ?_
  rintro e w3 ⟨u3, rfl, hp3, hc3⟩
  obtain ⟨o3, p3, hu3⟩ := own_slice hp3
  subst hu3
  have HP3 := Lib.hid hp3
  have HC3 := Lib.hid (HC2.out.trans' hc3)
  have HCa3 := Lib.hid hc3
  obtain ⟨nD, hnD⟩ : ∃ n, S.done.length = n := ⟨_, rfl⟩
  have HnD := Lib.hid hnD
  rw [hnD]
  clear hnD hp3 hc3 HDn
  obtain ⟨st, hst⟩ : ∃ n, S.staged = n := ⟨_, rfl⟩
  have HSt := Lib.hid hst
  rw [hst]
  clear hst
  have hb3 := ((HCa1.out.trans' HCa2.out).trans' HCa3.out).at HBa.out id
  rw [HN.out] at hb3
  have z0 : w3.frozen? ⟨N, 0, none⟩ = false := free_of_block hb3
  have z1 : w3.frozen? ⟨N, 1, none⟩ = false := free_of_block hb3
  have z2 : w3.frozen? ⟨N, 2, none⟩ = false := free_of_block hb3
  have z3 : w3.frozen? ⟨N, 3, none⟩ = false := free_of_block hb3
  have y0 : w3.cell? ⟨N, 0, none⟩ = some (.slice none 0 0) := cell_of_block hb3 rfl
  have y1 : w3.cell? ⟨N, 1, none⟩ = some (.slice none 0 0) := cell_of_block hb3 rfl
  have y2 : w3.cell? ⟨N, 2, none⟩ = some (.int .i64 0) := cell_of_block hb3 rfl
  have y3 : w3.cell? ⟨N, 3, none⟩ = some (.slice none 0 0) := cell_of_block hb3 rfl
  dsimp only
  try rw [HN.out]
  go_wp2_with fail
  have b1 := block_setCell (i := 0) (v := .slice o2 nS p2) hb3
  have b2 := block_setCell (i := 1) (v := .slice o1 nW p1) b1
  have b3 := block_setCell (i := 2) (v := .int .i64 (st : Int)) b2
  have b4 := block_setCell (i := 3) (v := .slice o3 nD p3) b3
  have hcs : Chg (· = N) w3 ((((w3.setCell ⟨N, 0, none⟩ (.slice o2 nS p2)).setCell ⟨N, 1, none⟩ (.slice o1 nW p1)).setCell ⟨N, 2, none⟩ (.int .i64 (st : Int))).setCell ⟨N, 3, none⟩ (.slice o3 nD p3)) := Chg.setCell (S := (· = N)) (Chg.setCell (S := (· = N)) (Chg.setCell (S := (· = N)) (Chg.setCell (S := (· = N)) (Chg.refl _ _) (fun _ => rfl) _) (fun _ => rfl) _) (fun _ => rfl) _) (fun _ => rfl) _
  obtain ⟨w4, hw4⟩ : ∃ w4, ((((w3.setCell ⟨N, 0, none⟩ (.slice o2 nS p2)).setCell ⟨N, 1, none⟩ (.slice o1 nW p1)).setCell ⟨N, 2, none⟩ (.int .i64 (st : Int))).setCell ⟨N, 3, none⟩ (.slice o3 nD p3)) = w4 := ⟨_, rfl⟩
  rw [hw4] at hcs b4 ⊢
  clear hw4 b1 b2 b3 z0 z1 z2 z3 y0 y1 y2 y3
  have hb4 : w4.heap[N]? = some (.cells #[.slice o2 nS p2, .slice o1 nW p1, .int .i64 (st : Int), .slice o3 nD p3] 59 (0, 0)) := by simpa using b4
  refine bodyPost_ret (results_cell_row rfl _ _ N _ _ _ _ rfl hb4 Tryz.underlying59 rfl size_state) rfl ?_
  have hN := HN.out
  have hsa : wa.heap.size ≤ w1.heap.size := HCa1.out.size
  have hNa : N < wa.heap.size := by rw [← hN]; exact lt_of_block HBa.out
  have hs12 := HCa2.out.size
  have hs23 := HCa3.out.size
  have hs34 := hcs.size
  have h1 := (HP1.out.fresh (HCa2.out.trans' HCa3.out)).kept hcs (fun b hb e => by have := hb.1; omega)
  have h2 := (HP2.out.fresh HCa3.out).kept hcs (fun b hb e => by have := hb.1; omega)
  have h3 := own_keptS HP3.out hcs (fun b hb e => by have := (HP3.out.lt b hb).1; omega)
  have hfd := fun g hg => HP3.out.lt g hg
  rw [HnW.out] at h1
  rw [HnS.out] at h2
  rw [HnD.out] at hfd
  refine ⟨.slice o2 nS p2, .slice o1 nW p1, .slice o3 nD p3, by unfold stV; rw [HSt.out], ⟨h2.wide (fun b hb => ⟨by have := hb.1; omega, by have := hb.2; omega⟩), h1.wide (fun b hb => ⟨by have := hb.1; omega, by have := hb.2; omega⟩), ⟨w2.heap.size, ?_⟩, fun g hg => ⟨by have := (hfd g hg).1; omega, by have := (hfd g hg).2; omega⟩, HLen.out⟩, HC3.out.new hcs (fun i e => by omega)⟩
  have h4 := h3
  rw [HnD.out] at h4 ⊢
  exact h4


set_option maxHeartbeats 1000000 in
theorem alike_is (w : World) {G G' : Nat → Prop} {S' : RS} {v1 v2 v3 u1 u2 u3 : Value} (h : StAt w G v1 v2 v3 S) (h' : StAt w G' u1 u2 u3 S') :
    Calls Tryz.prog 27 #[stV v1 v2 v3 S, stV u1 u2 u3 S'] w fun e w' => e = .returned (.bool (S.alike S')) ∧ Chg (fun _ => False) w w' := by
  obtain ⟨⟨x1, y1, e1⟩, ⟨x2, y2, e2⟩, ⟨x3, y3, e3⟩⟩ := h.slices
  obtain ⟨⟨x1', y1', e1'⟩, ⟨x2', y2', e2'⟩, ⟨x3', y3', e3'⟩⟩ := h'.slices
  obtain ⟨wa, hwa⟩ : ∃ wa, (w.alloc (.cells #[v1, v2, .int .i64 (S.staged : Int), v3] 59)).alloc (.cells #[u1, u2, .int .i64 (S'.staged : Int), u3] 59) = wa := ⟨_, rfl⟩
  have hca : Chg (fun _ => False) w wa := by rw [← hwa]; exact ((Chg.refl _ _).alloc _).alloc _
  have hx1 : wa.heap[w.heap.size]? = some (.cells #[v1, v2, .int .i64 (S.staged : Int), v3] 59 (0, 0)) := by
    rw [← hwa]; exact ((Chg.refl (fun _ => False) _).alloc _).at (block_alloc_new w _) id
  have hx2 : wa.heap[w.heap.size + 1]? = some (.cells #[u1, u2, .int .i64 (S'.staged : Int), u3] 59 (0, 0)) := by
    rw [← hwa]
    have := block_alloc_new (w.alloc (.cells #[v1, v2, .int .i64 (S.staged : Int), v3] 59)) (.cells #[u1, u2, .int .i64 (S'.staged : Int), u3] 59)
    rw [World.size_alloc] at this
    exact this
  have hS1 := fun (W : World) (hW : Chg (fun _ => False) w W) => rsame_is W (h.stack.fresh hW) (h'.stack.fresh hW)
  have hS2 := fun (W : World) (hW : Chg (fun _ => False) w W) => rsame_is W (h.wants.fresh hW) (h'.wants.fresh hW)
  have hS3 : ∀ (W : World) (_ : Chg (fun _ => False) w W), Calls Tryz.prog 29 #[v3, u3] W fun e w' => e = .returned (.bool (decide (S.done = S'.done))) ∧ Chg (fun _ => False) W w' := fun W hW => by
    obtain ⟨b, hb⟩ := h.done
    obtain ⟨b', hb'⟩ := h'.done
    exact nums_same W (SlAt.of_own (own_keptS hb hW (fun _ _ e => e)) : NumsAt W v3 S.done) (SlAt.of_own (own_keptS hb' hW (fun _ _ e => e)) : NumsAt W u3 S'.done) (by have := h.len; omega)
  obtain ⟨A, hA⟩ : ∃ A, S.alike S' = A := ⟨_, rfl⟩
  have hAl := hA
  unfold RS.alike at hAl
  rw [hA]
  obtain ⟨B0, hB0⟩ : ∃ B, decide (S.staged = S'.staged) = B := ⟨_, rfl⟩
  obtain ⟨B1, hB1⟩ : ∃ B, decide (S.stack = S'.stack) = B := ⟨_, rfl⟩
  obtain ⟨B2, hB2⟩ : ∃ B, decide (S.wants = S'.wants) = B := ⟨_, rfl⟩
  obtain ⟨B3, hB3⟩ : ∃ B, decide (S.done = S'.done) = B := ⟨_, rfl⟩
  rw [hB1] at hS1
  rw [hB2] at hS2
  rw [hB3] at hS3
  rw [hB0, hB1, hB2, hB3] at hAl
  unfold stV
  obtain ⟨st, hst⟩ : ∃ n, S.staged = n := ⟨_, rfl⟩
  obtain ⟨st', hst'⟩ : ∃ n, S'.staged = n := ⟨_, rfl⟩
  rw [hst] at hx1 hwa hB0 ⊢
  rw [hst'] at hx2 hwa hB0 ⊢
  obtain ⟨n1, hn1⟩ : ∃ n, S.stack.length = n := ⟨_, rfl⟩
  obtain ⟨n2, hn2⟩ : ∃ n, S.wants.length = n := ⟨_, rfl⟩
  obtain ⟨n3, hn3⟩ : ∃ n, S.done.length = n := ⟨_, rfl⟩
  obtain ⟨m1, hm1⟩ : ∃ n, S'.stack.length = n := ⟨_, rfl⟩
  obtain ⟨m2, hm2⟩ : ∃ n, S'.wants.length = n := ⟨_, rfl⟩
  obtain ⟨m3, hm3⟩ : ∃ n, S'.done.length = n := ⟨_, rfl⟩
  rw [hn1] at e1
  rw [hn2] at e2
  rw [hn3] at e3
  rw [hm1] at e1'
  rw [hm2] at e2'
  rw [hm3] at e3'
  subst e1; subst e2; subst e3; subst e1'; subst e2'; subst e3'
  obtain ⟨N, hN⟩ : ∃ N, w.heap.size + 1 = N := ⟨_, rfl⟩
  rw [hN] at hx2
  have hc := fun (W : World) (hW : Chg (fun _ => False) wa W) => (⟨hW.cell (cell_of_block hx1 (i := 0) rfl) id, hW.cell (cell_of_block hx1 (i := 1) rfl) id, hW.cell (cell_of_block hx1 (i := 2) rfl) id, hW.cell (cell_of_block hx1 (i := 3) rfl) id, hW.cell (cell_of_block hx2 (i := 0) rfl) id, hW.cell (cell_of_block hx2 (i := 1) rfl) id, hW.cell (cell_of_block hx2 (i := 2) rfl) id, hW.cell (cell_of_block hx2 (i := 3) rfl) id⟩ : W.cell? ⟨w.heap.size, 0, none⟩ = some (.slice x1 n1 y1) ∧ W.cell? ⟨w.heap.size, 1, none⟩ = some (.slice x2 n2 y2) ∧ W.cell? ⟨w.heap.size, 2, none⟩ = some (.int .i64 (st : Int)) ∧ W.cell? ⟨w.heap.size, 3, none⟩ = some (.slice x3 n3 y3) ∧ W.cell? ⟨N, 0, none⟩ = some (.slice x1' m1 y1') ∧ W.cell? ⟨N, 1, none⟩ = some (.slice x2' m2 y2') ∧ W.cell? ⟨N, 2, none⟩ = some (.int .i64 (st' : Int)) ∧ W.cell? ⟨N, 3, none⟩ = some (.slice x3' m3 y3'))
  have HS1 := Lib.hid hS1
  have HS2 := Lib.hid hS2
  have HS3 := Lib.hid hS3
  have HAl := Lib.hid hAl.symm
  have HCa := Lib.hid hca
  have HCell := Lib.hid hc
  obtain ⟨c1, c2, c3, c4, c5, c6, c7, c8⟩ := hc wa (Chg.refl _ _)
  clear h h' hS1 hS2 hS3 hA hAl hB1 hB2 hB3 hst hst' hn1 hn2 hn3 hm1 hm2 hm3 hca hx1 hx2 hc
  cases B0 with
  | false =>
    have hsb : ((st : Int) == (st' : Int)) = false := by have := of_decide_eq_false hB0; simp; omega
    clear hB0
    go_enter Tryz.func27, Tryz.ntmps27
    go_wp2_with (first
      | (go_at_call 28; fail)
      | (go_at_call 29; fail))
    go_ret
    exact ⟨by rw [HAl.out]; rfl, HCa.out⟩
  | true =>
  have hsb : ((st : Int) == (st' : Int)) = true := by have := of_decide_eq_true hB0; simp; omega
  clear hB0
  go_enter Tryz.func27, Tryz.ntmps27
  go_wp2_with (first
    | (go_at_call 28; fail)
    | (go_at_call 29; fail))
  try rw [hwa]
  try rw [hN]
  clear hwa hN c1 c2 c3 c4 c5 c6 c7 c8
  refine (HS1.out wa HCa.out).mono ?_
  rintro e wA ⟨rfl, hcA⟩
  have HCA := Lib.hid (HCa.out.trans' hcA)
  have HCl := Lib.hid hcA
  clear hcA
  cases B1 with
  | false =>
    dsimp only
    go_wp2_with fail
    go_ret
    exact ⟨by rw [HAl.out]; rfl, HCA.out⟩
  | true =>
  obtain ⟨c1, c2, c3, c4, c5, c6, c7, c8⟩ := HCell.out wA HCl.out
  dsimp only
  go_wp2_with (first
    | (go_at_call 28; fail))
  clear c1 c2 c3 c4 c5 c6 c7 c8
  refine (HS2.out wA HCA.out).mono ?_
  rintro e wB ⟨rfl, hcB⟩
  have HCB := Lib.hid (HCA.out.trans' hcB)
  have HCm := Lib.hid (HCl.out.trans' hcB)
  clear hcB
  cases B2 with
  | false =>
    dsimp only
    go_wp2_with fail
    go_ret
    exact ⟨by rw [HAl.out]; rfl, HCB.out⟩
  | true =>
  obtain ⟨c1, c2, c3, c4, c5, c6, c7, c8⟩ := HCell.out wB HCm.out
  dsimp only
  go_wp2_with (first
    | (go_at_call 29; fail))
  clear c1 c2 c3 c4 c5 c6 c7 c8
  refine (HS3.out wB HCB.out).mono ?_
  rintro e wC ⟨rfl, hcC⟩
  have HCC := Lib.hid (HCB.out.trans' hcC)
  clear hcC
  dsimp only
  go_wp2_with fail
  go_ret
  exact ⟨by rw [HAl.out]; rfl, HCC.out⟩

end Go.Proofs.YtbjagmlbamjdbaaGreat.roots
end

section
namespace Go.Proofs.YtbjagmlbamjdbaaGreat.roots
open Go.RowKit Go.Maps Go.My Go.ChangeMaps disks bufs wals kvs
set_option maxRecDepth 100000

variable {W w w' : World} {Q G G' F : Nat → Prop} {r d s a N : Nat} {X : DV} {m : List KV} {recs : List Txt} {S S' : RS}

structure Lv (W w : World) (r d : Nat) (G : Nat → Prop) (S : RS) (N : Nat) : Prop where
  ex : ∃ Q X recs s a m, RL Q W w r d X recs s a m S ∧ s ≤ N ∧ 3754 ≤ 64 * areaN X.B.length ∧ ∀ b, G b → ¬ Q b
  lt : ∀ b, G b → b < w.heap.size
theorem Lv.chg (h : Lv W w r d G S N) : Chg (fun _ => False) W w := by obtain ⟨Q, X, recs, s, a, m, h1, -⟩ := h.ex; exact h1.rt.chg
theorem Lv.more (h : Lv W w r d G S N) (hc : Chg (fun _ => False) w w') (hg : ∀ b, G' b → G b ∨ (w.heap.size ≤ b ∧ b < w'.heap.size)) : Lv W w' r d G' S N := by
  obtain ⟨Q, X, recs, s, a, m, h1, h2, h3, h4⟩ := h.ex
  refine ⟨⟨Q, X, recs, s, a, m, h1.fresh hc, h2, h3, fun b hb hq => ?_⟩, fun b hb => (hg b hb).elim (fun e => Nat.lt_of_lt_of_le (h.lt b e) hc.size) (fun e => e.2)⟩
  rcases hg b hb with e | e
  · exact h4 b e hq
  · have := h1.rt.lt b hq; omega
theorem Lv.fresh (h : Lv W w r d G S N) (hc : Chg (fun _ => False) w w') : Lv W w' r d G S N := h.more hc (fun _ e => Or.inl e)
theorem Lv.is (h : Lv W w r d G S N) : ∃ kb F sv wv dv, RtIs w W.heap.size r kb F S sv wv dv := by
  obtain ⟨Q, X, recs, s, a, m, h1, -⟩ := h.ex
  obtain ⟨P0, kb, q1, q2, F0, sv, wv, dv, hrk, -⟩ := h1.rt.ex
  exact ⟨_, _, _, _, _, hrk.rt⟩
theorem Lv.mono {N' : Nat} (h : Lv W w r d G S N) (hN : N ≤ N') : Lv W w r d G S N' := by obtain ⟨Q, X, recs, s, a, m, h1, h2, h3, h4⟩ := h.ex; exact ⟨⟨Q, X, recs, s, a, m, h1, by omega, h3, h4⟩, h.lt⟩
theorem Lv.good (h : Lv W w r d G S N) : RGood S := by obtain ⟨Q, X, recs, s, a, m, h1, -⟩ := h.ex; exact h1.rt.good

structure LvGo (W w w' : World) (r d : Nat) (G : Nat → Prop) (S : RS) (N : Nat) : Prop where
  lv : Lv W w' r d G S N
  chg : Chg (fun b => ¬ G b) w w'
theorem lv_next (hn : RNext Q W w w' r d X s S') (hs : s ≤ N) (hX : 3754 ≤ 64 * areaN X.B.length) (hG : ∀ b, G b → ¬ Q b) (hl : ∀ b, G b → b < w.heap.size) : LvGo W w w' r d G S' (N + 1) := by
  obtain ⟨Q', X', recs', s', a', m', h1, h2, h3, h4⟩ := hn.ex
  exact ⟨⟨⟨Q', X', recs', s', a', m', h1, by omega, by rw [h2]; exact hX, fun b hb => h4 b (hl b hb) (hG b hb)⟩, fun b hb => Nat.lt_of_lt_of_le (hl b hb) hn.chg.size⟩, hn.chg.mono (fun b _ hq hg => hG b hg hq)⟩

theorem lv_stage_early (w : World) (h : Lv W w r d G S N) (hN : N ≤ 1000) (t : Int) {v : Value} {ps : List Pk} (hp : PksAt w F v ps) (hF : ∀ b, F b → G b) {y : Nat} (he : stageE S t ps = some y) :
    Calls Tryz.prog 19 #[.pointer (some ⟨r, 0, none⟩), .int .i64 t, v] w fun e w' => e = .returned (.int .i64 (y : Int)) ∧ LvGo W w w' r d G S (N + 1) := by
  obtain ⟨Q, X, recs, s, a, m, h1, h2, h3, h4⟩ := h.ex
  refine (rl_stage w h1 (by omega) t hp (fun b hb => ⟨h4 b (hF b hb), h.lt b (hF b hb)⟩)).mono ?_
  rintro e w' ⟨z, rfl, S', hn, ht⟩
  obtain ⟨rfl, rfl⟩ := ht.early he
  exact ⟨rfl, lv_next hn h2 h3 h4 h.lt⟩
theorem lv_stage (w : World) (h : Lv W w r d G S N) (hN : N ≤ 1000) (t : Int) {v : Value} {ps : List Pk} (hp : PksAt w F v ps) (hF : ∀ b, F b → G b) (he : stageE S t ps = none) (h31 : S.done.length ≤ 31) :
    Calls Tryz.prog 19 #[.pointer (some ⟨r, 0, none⟩), .int .i64 t, v] w fun e w' => e = .returned (.int .i64 0) ∧ LvGo W w w' r d G (stageS S t.toNat ps) (N + 1) := by
  obtain ⟨Q, X, recs, s, a, m, h1, h2, h3, h4⟩ := h.ex
  refine (rl_stage w h1 (by omega) t hp (fun b hb => ⟨h4 b (hF b hb), h.lt b (hF b hb)⟩)).mono ?_
  rintro e w' ⟨z, rfl, S', hn, ht⟩
  have hr : ¬ DoWhy X m (stageB t.toNat ps) 7 := by
    refine h1.room_stage he (pks_dig hp) h31 ?_
    obtain ⟨-, hc, -, n, rfl, n1, n2, hn⟩ := stage_told he
    rw [Int.toNat_natCast]
    have := rootN_le (h1.rt.good.stage n2 n1 hn hc (pks_dig hp)) h31
    omega
  obtain ⟨rfl, rfl⟩ := Told.done (he ▸ ht) hr
  exact ⟨rfl, lv_next hn h2 h3 h4 h.lt⟩
theorem lv_commit_early (w : World) (h : Lv W w r d G S N) (hN : N ≤ 1000) (hd : S.done.length < 1000) (t : Int) {y : Nat} (he : commitE S t = some y) :
    Calls Tryz.prog 20 #[.pointer (some ⟨r, 0, none⟩), .int .i64 t] w fun e w' => e = .returned (.int .i64 (y : Int)) ∧ LvGo W w w' r d G S (N + 1) := by
  obtain ⟨Q, X, recs, s, a, m, h1, h2, h3, h4⟩ := h.ex
  refine (rl_commit w h1 (by omega) hd t).mono ?_
  rintro e w' ⟨z, rfl, S', hn, ht⟩
  obtain ⟨rfl, rfl⟩ := ht.early he
  exact ⟨rfl, lv_next hn h2 h3 h4 h.lt⟩
theorem lv_commit (w : World) (h : Lv W w r d G S N) (hN : N ≤ 1000) (t : Int) (he : commitE S t = none) (h31 : S.done.length ≤ 30) :
    Calls Tryz.prog 20 #[.pointer (some ⟨r, 0, none⟩), .int .i64 t] w fun e w' => e = .returned (.int .i64 0) ∧ LvGo W w w' r d G (commitS S t.toNat) (N + 1) := by
  obtain ⟨Q, X, recs, s, a, m, h1, h2, h3, h4⟩ := h.ex
  refine (rl_commit w h1 (by omega) (by omega) t).mono ?_
  rintro e w' ⟨z, rfl, S', hn, ht⟩
  have hr : ¬ DoWhy X m (commitB S t.toNat) 7 := by
    refine h1.room_commit he h31 ?_
    obtain ⟨-, n, rfl, n1, n2, hn, -⟩ := commit_told he
    rw [Int.toNat_natCast]
    have := rootN_le (h1.rt.good.commit n1 n2 hn) (by simp only [commitS, List.length_append, List.length_cons, List.length_nil]; omega)
    omega
  obtain ⟨rfl, rfl⟩ := Told.done (he ▸ ht) hr
  exact ⟨rfl, lv_next hn h2 h3 h4 h.lt⟩
theorem lv_abort_early (w : World) (h : Lv W w r d G S N) (hN : N ≤ 1000) (t : Int) {y : Nat} (he : abortE S t = some y) :
    Calls Tryz.prog 21 #[.pointer (some ⟨r, 0, none⟩), .int .i64 t] w fun e w' => e = .returned (.int .i64 (y : Int)) ∧ LvGo W w w' r d G S (N + 1) := by
  obtain ⟨Q, X, recs, s, a, m, h1, h2, h3, h4⟩ := h.ex
  refine (rl_abort w h1 (by omega) t).mono ?_
  rintro e w' ⟨z, rfl, S', hn, ht⟩
  obtain ⟨rfl, rfl⟩ := ht.early he
  exact ⟨rfl, lv_next hn h2 h3 h4 h.lt⟩
theorem lv_abort (w : World) (h : Lv W w r d G S N) (hN : N ≤ 1000) (t : Int) (he : abortE S t = none) (h31 : S.done.length ≤ 31) :
    Calls Tryz.prog 21 #[.pointer (some ⟨r, 0, none⟩), .int .i64 t] w fun e w' => e = .returned (.int .i64 0) ∧ LvGo W w w' r d G (abortS S) (N + 1) := by
  obtain ⟨Q, X, recs, s, a, m, h1, h2, h3, h4⟩ := h.ex
  refine (rl_abort w h1 (by omega) t).mono ?_
  rintro e w' ⟨z, rfl, S', hn, ht⟩
  have hr : ¬ DoWhy X m (abortB S) 7 := h1.room_abort h31 (by have := rootN_le h1.rt.good.abort h31; omega)
  obtain ⟨rfl, rfl⟩ := Told.done (he ▸ ht) hr
  exact ⟨rfl, lv_next hn h2 h3 h4 h.lt⟩
theorem lv_open (w : World) (h : Lv W w r d G S N) (hN : N ≤ 1000) (hd : S.done.length ≤ 1000) :
    Calls Tryz.prog 24 #[.pointer (some ⟨d, 0, none⟩)] w fun e w' => ∃ r', e = .returned (.tuple #[.pointer (some ⟨r', 0, none⟩), .int .i64 0]) ∧ LvGo W w w' r' d G S N := by
  obtain ⟨Q, X, recs, s, a, m, h1, h2, h3, h4⟩ := h.ex
  obtain ⟨P, hD, hP⟩ := h1.rt.disk
  refine (open_is w hD h1.st (by omega) (by rw [h1.fuse]; omega) h1.rep h1.rt.nd h1.rt.good h1.rt.is hd).mono ?_
  rintro e w' ⟨r', rfl, Q', m', k1, k2, k3, k4⟩
  exact ⟨r', rfl, ⟨⟨Q', X, recs, s, a, m', ⟨k1, h1.st, k2, h1.fuse⟩, h2, h3, fun b hb => k3 b (h.lt b hb) (fun e => h4 b hb (hP b e))⟩, fun b hb => Nat.lt_of_lt_of_le (h.lt b hb) k4.size⟩, k4.mono (fun b _ hp hg => h4 b hg (hP b hp))⟩

structure WantAt (w : World) (G : Nat → Prop) (g : Nat) (v1 v2 v3 : Value) (S : RS) : Prop where
  st : StAt w G v1 v2 v3 S
  cell : w.heap[g]? = some (.cells #[v1, v2, .int .i64 (S.staged : Int), v3] 59 (0, 0))
  at' : G g
theorem WantAt.kept {g : Nat} {v1 v2 v3 : Value} (h : WantAt w G g v1 v2 v3 S) (hc : Chg (fun b => ¬ G b) w w') : WantAt w' G g v1 v2 v3 S :=
  ⟨h.st.kept hc (fun b hb hn => hn hb), hc.at h.cell (fun hn => hn h.at'), h.at'⟩
theorem StAt.wide {v1 v2 v3 : Value} (h : StAt w G v1 v2 v3 S) (hs : ∀ b, G b → G' b) : StAt w G' v1 v2 v3 S := ⟨h.stack.wide hs, h.wants.wide hs, h.done, fun g hg => hs g (h.fd g hg), h.len⟩
theorem WantAt.fresh {g : Nat} {v1 v2 v3 : Value} (h : WantAt w G g v1 v2 v3 S) (hc : Chg (fun _ => False) w w') : WantAt w' G g v1 v2 v3 S := h.kept (hc.mono (fun _ _ e => e.elim))

end Go.Proofs.YtbjagmlbamjdbaaGreat.roots
end
