/- . -/
import Derived.Test.YtbjagmlbamjdbaaGreatPx1RootOnce
import Derived.Test.YtbjagmlbamjdbaaGreatPx2RootOnce
import Derived.Test.YtbjagmlbamjdbaaGreatPx3RootOnce
import Derived.Test.YtbjagmlbamjdbaaGreatPx4RootOnce
import Derived.DeepKeys
import Derived.Deep.RegionHeld3
import Derived.Deep.MidRow
import Derived.Shelf.GgSortFunc.InsertionK
import Derived.Shelf.SlSortCmp.WholeK
import Derived.Shelf.SlSortCmp.NoneTotal

set_option linter.unusedSimpArgs false
set_option linter.unusedVariables false
section
namespace Go.Proofs.YtbjagmlbamjdbaaGreat.bufs
open Go.RowKit Go.My disks
set_option maxRecDepth 100000

theorem cellsB_at {x : Blk} {k : Nat} (hk : k < x.length) : (cellsB x).toArray[k]? = some (.int .u8 (x[k].toNat : Int)) := by simp [cellsB, hk]

theorem run_eqItems_bytes (w : World) (d : Nat) (x y : Blk) (hx : x.length = y.length) : ∀ (n k : Nat), k + n = x.length →
    (Op.eqItems (d + 1) 5 1 (cellsB x).toArray (cellsB y).toArray (List.range' k n)).run Tryz.prog w = .ok (decide (x.drop k = y.drop k)) w
  | 0, k, h => by
    rw [List.drop_eq_nil_of_le (by omega), List.drop_eq_nil_of_le (by omega)]
    simp [Op.eqItems]
  | n + 1, k, h => by
    have hk : k < x.length := by omega
    have hk2 : k < y.length := by omega
    have ih := run_eqItems_bytes w d x y hx n (k + 1) (by omega)
    have hpart : ∀ (z : Blk) (hz : k < z.length), (part 5 (cellsB z).toArray (k * 1)).run Tryz.prog w = .ok (.int .u8 (z[k].toNat : Int)) w := by
      intro z hz
      unfold part
      rw [Nat.mul_one, Sem.run_bind, Tryz.isAgg5]
      simp only [Result.andThen_ok, Bool.false_eq_true, if_false, cellsB_at hz, Sem.run_pure]
    rw [List.range'_succ]
    simp only [Op.eqItems, Sem.run_bind, hpart x hk, hpart y hk2, Result.andThen_ok]
    rw [run_equalIn_int (P := Tryz.prog) w d 5 .u8 .u8 _ _ Tryz.underlying5]
    simp only [Result.andThen_ok]
    have hdx : x.drop k = x[k] :: x.drop (k + 1) := List.drop_eq_getElem_cons hk
    have hdy : y.drop k = y[k] :: y.drop (k + 1) := List.drop_eq_getElem_cons hk2
    by_cases e : x[k] = y[k]
    · have : ((x[k].toNat : Int) == (y[k].toNat : Int)) = true := by rw [e]; simp
      rw [this]
      simp only [Bool.not_true, Bool.false_eq_true, if_false, ih]
      congr 1
      rw [decide_eq_decide, hdx, hdy, e]
      exact ⟨fun h => by rw [h], fun h => (List.cons.inj h).2⟩
    · have : ((x[k].toNat : Int) == (y[k].toNat : Int)) = false := by
        rw [beq_eq_false_iff_ne]
        intro h1
        exact e (UInt8.toNat_inj.1 (by omega))
      rw [this]
      simp only [Bool.not_false, if_true, Sem.run_pure]
      congr 1
      symm
      rw [decide_eq_false_iff_not, hdx, hdy]
      exact fun h => e (List.cons.inj h).1

theorem run_equal_block (w : World) (t : TypeId) (x y : Blk) (ht : Tryz.prog.underlying t = some (.array 64 5)) (hx : x.length = 64) (hy : y.length = 64) :
    (Op.equal t (.agg (cellsB x).toArray) (.agg (cellsB y).toArray)).run Tryz.prog w = .ok (decide (x = y)) w := by
  obtain ⟨i, hi, hz, hsz, hby⟩ := u8_parts
  have hc : Tryz.prog.cellsOf 5 = 1 := by kernel_rfl
  unfold Op.equal
  rw [show Op.maxDepth = 9999 + 1 from rfl, run_equalIn_array w 9999 _ _ ht hi, hc, List.range_eq_range', show (9999 : Nat) = 9998 + 1 from rfl,
    run_eqItems_bytes w 9998 x y (by omega) 64 0 (by omega)]
  simp

theorem yieldsIf_eql_block {ops : Array Oper} {S : World → Prop} {op : Oper} {a : Act} (hw : Region.wanted op (yielded ops a.tmps) = true) (t : TypeId) (p q : Operand) (ho : op.op = .binOp .eql t p q t) (x y : Blk)
    (hp : a.eval p = .agg (cellsB x).toArray) (hq : a.eval q = .agg (cellsB y).toArray) (ht : Tryz.prog.underlying t = some (.array 64 5)) (hx : x.length = 64) (hy : y.length = 64) (hg : Tryz.prog.eqGuardType Tryz.prog.depth t = false) :
    YieldsIf Tryz.prog ops S op (.bool (decide (x = y))) a :=
  .inl ⟨hw, fun w' _ => by
    have he := run_equal_block w' t x y ht hx hy
    unfold execOp
    simp [ho, hp, hq, eqGuard, binOp, hg, he]⟩

end Go.Proofs.YtbjagmlbamjdbaaGreat.bufs
end

section
namespace Go.Proofs.YtbjagmlbamjdbaaGreat.wals
open Go.RowKit Go.My disks bufs
set_option maxRecDepth 100000

theorem head_ones (a b c : Int) : (#[.int .i64 a, .int .i64 b, .int .i64 c] : Array Value).all (·.oneCell') = true := all_oneCell_toArray (cs := [.int .i64 a, .int .i64 b, .int .i64 c]) (by simp [Value.oneCell'])
theorem size_head : (Tryz.prog.info? 175).map (·.size) = some 3 := by kernel_rfl
theorem blk_sub {w : World} {g : Nat} {b : Blk} {t : TypeId} (h : Arr w g t (cellsB b)) (o n cap : Nat) (hn : o + n ≤ b.length) (h0 : 0 < n) : SlAt w (.slice (some ⟨g, o, none⟩) n cap) (cellsB ((b.drop o).take n)) := by
  have hl : (cellsB ((b.drop o).take n)).length = n := by rw [cellsB_length, List.length_take, List.length_drop]; omega
  refine ⟨some ⟨g, o, none⟩, cap, by rw [hl], fun _ => ⟨_, _, rfl⟩, fun b' off ho i x hx => ?_⟩
  cases ho
  have hi : i < n := by have := (List.getElem?_eq_some_iff.1 hx).1; rwa [hl] at this
  refine h.cell ?_
  simp only [cellsB, List.getElem?_map, List.getElem?_take_of_lt hi, List.getElem?_drop] at hx ⊢
  exact hx

set_option maxHeartbeats 2000000 in
theorem read_any (w : World) (b : Blk) (hb : b.length = 64) (pl most : Nat) (hpl : pl < 2) (hm : most < 4294967296) :
    Calls Tryz.prog 105 #[.agg (cellsB b).toArray, .int .i64 pl, .int .i64 most] w fun e w' => ∃ (s a k : Nat) (ok : Bool), e = .returned (.tuple #[.agg #[.int .i64 s, .int .i64 a, .int .i64 k], .bool ok]) ∧
      readH b pl most = (if ok then some (s, a, k) else none) ∧ s ≤ 1152921504606846976 ∧ Chg (fun _ => False) w w' := by
  obtain ⟨s, hs⟩ : ∃ s, ofBe ((b.drop 4).take 8) = s := ⟨_, rfl⟩
  obtain ⟨k, hk⟩ : ∃ k, ofBe ((b.drop 12).take 4) = k := ⟨_, rfl⟩
  obtain ⟨a, ha⟩ : ∃ a : UInt8, b[2]?.getD 0 = a := ⟨_, rfl⟩
  have h1 := fun w' (h : Arr w' w.heap.size 178 (cellsB b)) => readFixed_any w' 8 (Or.inr rfl) _ _ _ _ (blk_sub h 4 8 8 (by omega) (by omega)) (by rw [List.length_take, List.length_drop]; omega)
  have h2 := fun w' (h : Arr w' w.heap.size 178 (cellsB b)) => readFixed_any w' 4 (Or.inl rfl) _ _ _ _ (blk_sub h 12 4 4 (by omega) (by omega)) (by rw [List.length_take, List.length_drop]; omega)
  rw [hs] at h1
  rw [hk] at h2
  have hs64 : s < 18446744073709551616 := by
    rw [← hs]
    have h3 := ofBe_lt ((b.drop 4).take 8)
    have h4 : (256 : Nat) ^ ((b.drop 4).take 8).length ≤ 256 ^ 8 := Nat.pow_le_pow_right (by omega) (by rw [List.length_take]; omega)
    have h5 : (256 : Nat) ^ 8 = 18446744073709551616 := rfl
    omega
  have hk32 : k < 4294967296 := by
    rw [← hk]
    have h3 := ofBe_lt ((b.drop 12).take 4)
    have h4 : (256 : Nat) ^ ((b.drop 12).take 4).length ≤ 256 ^ 4 := Nat.pow_le_pow_right (by omega) (by rw [List.length_take]; omega)
    have h5 : (256 : Nat) ^ 4 = 4294967296 := rfl
    omega
  have hrd : readH b pl most = if s < 1 ∨ 1152921504606846976 < s ∨ s % 2 ≠ pl ∨ 1 < a.toNat ∨ most < k then none else if headB s a.toNat k = b then some (s, a.toNat, k) else none := by
    unfold readH; rw [hs, hk, ha]
  have HR := Lib.hid hrd
  have H1 := Lib.hid h1
  have H2 := Lib.hid h2
  have HB := Lib.hid hb
  have ha2 : (cellsB b)[2]? = some (.int .u8 (a.toNat : Int)) := by
    have : b[2]? = some a := by rw [← ha, List.getElem?_eq_getElem (by omega)]; rfl
    simp [cellsB, this]
  have HA2 := Lib.hid ha2
  have hal := a.toNat_lt
  clear hrd h1 h2 hb ha2 hs hk ha
  obtain ⟨w0, hw0⟩ : ∃ w0, ((w.alloc (.cells (cellsB b).toArray 178)).alloc (.cells #[.int .i64 0, .int .i64 0, .int .i64 0] 175)) = w0 := ⟨_, rfl⟩
  have hArr : Arr w0 w.heap.size 178 (cellsB b) := by rw [← hw0]; exact at2_0
  have hRes : Arr w0 (w.heap.size + 1) 175 [.int .i64 0, .int .i64 0, .int .i64 0] := by rw [← hw0]; exact at2_1
  have hC0 : Chg (fun _ => False) w w0 := by rw [← hw0]; exact chg2
  have e2 := hArr.cell HA2.out
  have HArr := Lib.hid hArr
  have HRes := Lib.hid hRes
  have HC0 := Lib.hid hC0
  have HW0 := Lib.hid hw0
  clear hArr hRes hC0 hw0 HA2
  have hz2 : ((s : Int) % 2 != (pl : Int)) = decide (s % 2 ≠ pl) := by
    by_cases h : s % 2 = pl
    · have : (s : Int) % 2 = (pl : Int) := by omega
      simp [h, this]
    · have : ¬ (s : Int) % 2 = (pl : Int) := by omega
      simp [h, this]
  have hmm : (most : Int) % 18446744073709551616 = (most : Int) := by omega
  by_cases hbad : s < 1 ∨ 1152921504606846976 < s ∨ s % 2 ≠ pl ∨ 1 < a.toNat ∨ most < k
  · have hr : readH b pl most = none := by rw [HR.out, if_pos hbad]
    have HRn := Lib.hid hr
    clear hr HR
    have hor : s < 1 ∨ (1 ≤ s ∧ 1152921504606846976 < s) ∨ (1 ≤ s ∧ s ≤ 1152921504606846976 ∧ s % 2 ≠ pl) ∨ (1 ≤ s ∧ s ≤ 1152921504606846976 ∧ s % 2 = pl ∧ 1 < a.toNat) ∨ (1 ≤ s ∧ s ≤ 1152921504606846976 ∧ s % 2 = pl ∧ a.toNat ≤ 1 ∧ most < k) := by omega
    clear hbad
    rcases hor with c1 | ⟨c0, c1⟩ | ⟨c0, c1, c2⟩ | ⟨c0, c1, c2, c3⟩ | ⟨c0, c1, c2, c3, c4⟩
    · have i1 : (s : Int) < 1 := by omega
      clear c1
      clear hz2
      go_enter Tryz.func105, Tryz.ntmps105
      go_wp2_with (first
        | (go_at_call 150; fail))
      rw [HW0.out]
      refine (H1.out _ HArr.out).mono ?_
      rintro e w' ⟨rfl, rfl⟩
      dsimp only
      go_wp2_with (first
        | (go_at_call 150; fail))
      refine (H2.out _ HArr.out).mono ?_
      rintro e w' ⟨rfl, rfl⟩
      dsimp only
      go_wp2_with (first
        | (refine wpList_store_mid rfl 175 _ _ rfl (w.heap.size + 1) 0 #[.int .i64 0, .int .i64 0, .int .i64 0] rfl rfl HRes.out.there size_head (head_ones 0 0 0) ?_))
      have hst := HRes.out.store (vs := [.int .i64 0, .int .i64 0, .int .i64 0]) rfl
      refine bodyPost_ret (result_cell_tmp rfl _ rfl (hst.arr.load Tryz.underlying175 rfl size_head) rfl) rfl ?_
      exact ⟨0, 0, 0, false, rfl, HRn.out, by omega, HC0.out.new hst.chg (fun i hi => by omega)⟩
    · have i1 : (1 : Int) ≤ s := by omega
      have i2 : (1152921504606846976 : Int) < s := by omega
      clear c0 c1
      clear hz2
      go_enter Tryz.func105, Tryz.ntmps105
      go_wp2_with (first
        | (go_at_call 150; fail))
      rw [HW0.out]
      refine (H1.out _ HArr.out).mono ?_
      rintro e w' ⟨rfl, rfl⟩
      dsimp only
      go_wp2_with (first
        | (go_at_call 150; fail))
      refine (H2.out _ HArr.out).mono ?_
      rintro e w' ⟨rfl, rfl⟩
      dsimp only
      go_wp2_with (first
        | (refine wpList_store_mid rfl 175 _ _ rfl (w.heap.size + 1) 0 #[.int .i64 0, .int .i64 0, .int .i64 0] rfl rfl HRes.out.there size_head (head_ones 0 0 0) ?_))
      have hst := HRes.out.store (vs := [.int .i64 0, .int .i64 0, .int .i64 0]) rfl
      refine bodyPost_ret (result_cell_tmp rfl _ rfl (hst.arr.load Tryz.underlying175 rfl size_head) rfl) rfl ?_
      exact ⟨0, 0, 0, false, rfl, HRn.out, by omega, HC0.out.new hst.chg (fun i hi => by omega)⟩
    · have i1 : (1 : Int) ≤ s := by omega
      have i2 : (s : Int) ≤ 1152921504606846976 := by omega
      have hz : ((s : Int) % 2 != (pl : Int)) = true := by rw [hz2]; simp [c2]
      clear c0 c1 c2
      clear hz2
      go_enter Tryz.func105, Tryz.ntmps105
      go_wp2_with (first
        | (go_at_call 150; fail))
      rw [HW0.out]
      refine (H1.out _ HArr.out).mono ?_
      rintro e w' ⟨rfl, rfl⟩
      dsimp only
      go_wp2_with (first
        | (go_at_call 150; fail))
      refine (H2.out _ HArr.out).mono ?_
      rintro e w' ⟨rfl, rfl⟩
      dsimp only
      go_wp2_with (first
        | (refine wpList_store_mid rfl 175 _ _ rfl (w.heap.size + 1) 0 #[.int .i64 0, .int .i64 0, .int .i64 0] rfl rfl HRes.out.there size_head (head_ones 0 0 0) ?_))
      have hst := HRes.out.store (vs := [.int .i64 0, .int .i64 0, .int .i64 0]) rfl
      refine bodyPost_ret (result_cell_tmp rfl _ rfl (hst.arr.load Tryz.underlying175 rfl size_head) rfl) rfl ?_
      exact ⟨0, 0, 0, false, rfl, HRn.out, by omega, HC0.out.new hst.chg (fun i hi => by omega)⟩
    · have i1 : (1 : Int) ≤ s := by omega
      have i2 : (s : Int) ≤ 1152921504606846976 := by omega
      have hz : ((s : Int) % 2 != (pl : Int)) = false := by rw [hz2]; simp [c2]
      have i3 : (1 : Int) < (a.toNat : Int) := by omega
      clear c0 c1 c2 c3
      clear hz2
      go_enter Tryz.func105, Tryz.ntmps105
      go_wp2_with (first
        | (go_at_call 150; fail))
      rw [HW0.out]
      refine (H1.out _ HArr.out).mono ?_
      rintro e w' ⟨rfl, rfl⟩
      dsimp only
      go_wp2_with (first
        | (go_at_call 150; fail))
      refine (H2.out _ HArr.out).mono ?_
      rintro e w' ⟨rfl, rfl⟩
      dsimp only
      go_wp2_with (first
        | (refine wpList_store_mid rfl 175 _ _ rfl (w.heap.size + 1) 0 #[.int .i64 0, .int .i64 0, .int .i64 0] rfl rfl HRes.out.there size_head (head_ones 0 0 0) ?_))
      have hst := HRes.out.store (vs := [.int .i64 0, .int .i64 0, .int .i64 0]) rfl
      refine bodyPost_ret (result_cell_tmp rfl _ rfl (hst.arr.load Tryz.underlying175 rfl size_head) rfl) rfl ?_
      exact ⟨0, 0, 0, false, rfl, HRn.out, by omega, HC0.out.new hst.chg (fun i hi => by omega)⟩
    · have i1 : (1 : Int) ≤ s := by omega
      have i2 : (s : Int) ≤ 1152921504606846976 := by omega
      have hz : ((s : Int) % 2 != (pl : Int)) = false := by rw [hz2]; simp [c2]
      have i3 : (a.toNat : Int) ≤ 1 := by omega
      have i4 : (most : Int) < k := by omega
      clear c0 c1 c2 c3 c4
      clear hz2
      go_enter Tryz.func105, Tryz.ntmps105
      go_wp2_with (first
        | (go_at_call 150; fail))
      rw [HW0.out]
      refine (H1.out _ HArr.out).mono ?_
      rintro e w' ⟨rfl, rfl⟩
      dsimp only
      go_wp2_with (first
        | (go_at_call 150; fail))
      refine (H2.out _ HArr.out).mono ?_
      rintro e w' ⟨rfl, rfl⟩
      dsimp only
      go_wp2_with (first
        | (refine wpList_store_mid rfl 175 _ _ rfl (w.heap.size + 1) 0 #[.int .i64 0, .int .i64 0, .int .i64 0] rfl rfl HRes.out.there size_head (head_ones 0 0 0) ?_))
      have hst := HRes.out.store (vs := [.int .i64 0, .int .i64 0, .int .i64 0]) rfl
      refine bodyPost_ret (result_cell_tmp rfl _ rfl (hst.arr.load Tryz.underlying175 rfl size_head) rfl) rfl ?_
      exact ⟨0, 0, 0, false, rfl, HRn.out, by omega, HC0.out.new hst.chg (fun i hi => by omega)⟩
  · have hr : readH b pl most = if headB s a.toNat k = b then some (s, a.toNat, k) else none := by rw [HR.out, if_neg hbad]
    have HRg := Lib.hid hr
    have i1 : (1 : Int) ≤ s := by omega
    have i2 : (s : Int) ≤ 1152921504606846976 := by omega
    have hz : ((s : Int) % 2 != (pl : Int)) = false := by rw [hz2]; simp; omega
    have i3 : (a.toNat : Int) ≤ 1 := by omega
    have i4 : (k : Int) ≤ (most : Int) := by omega
    have HBad := Lib.hid hbad
    clear hr HR hbad hz2
    go_enter Tryz.func105, Tryz.ntmps105
    go_wp2_with (first
      | (go_at_call 150; fail))
    rw [HW0.out]
    refine (H1.out _ HArr.out).mono ?_
    rintro e w' ⟨rfl, rfl⟩
    dsimp only
    go_wp2_with (first
      | (go_at_call 150; fail))
    refine (H2.out _ HArr.out).mono ?_
    rintro e w' ⟨rfl, rfl⟩
    dsimp only
    go_wp2_with (first
      | (refine wpList_store_new rfl 175 _ _ rfl #[.int .i64 s, .int .i64 a.toNat, .int .i64 k] rfl rfl size_head rfl (head_ones _ _ _) ?_))
    have hl64 : (cellsB b).length = 64 := by rw [cellsB_length, HB.out]
    have hsb : (Tryz.prog.info? 178).map (·.size) = some (cellsB b).length := by rw [hl64]; exact size_wblock
    have hc1 : Chg (fun _ => False) w0 (w0.alloc (.cells #[.int .i64 s, .int .i64 a.toNat, .int .i64 k] 175)) := (Chg.refl _ _).alloc _
    have hA1 : Arr (w0.alloc (.cells #[.int .i64 s, .int .i64 a.toNat, .int .i64 k] 175)) w.heap.size 178 (cellsB b) := hc1.at HArr.out id
    have hN1 : Arr (w0.alloc (.cells #[.int .i64 s, .int .i64 a.toNat, .int .i64 k] 175)) w0.heap.size 175 [.int .i64 s, .int .i64 a.toNat, .int .i64 k] := at1
    have hR1 : Arr (w0.alloc (.cells #[.int .i64 s, .int .i64 a.toNat, .int .i64 k] 175)) (w.heap.size + 1) 175 [.int .i64 0, .int .i64 0, .int .i64 0] := hc1.at HRes.out id
    obtain ⟨w1, hw1⟩ : ∃ w1, w0.alloc (.cells #[.int .i64 s, .int .i64 a.toNat, .int .i64 k] 175) = w1 := ⟨_, rfl⟩
    rw [hw1] at hc1 hA1 hN1 hR1 ⊢
    have HC1 := Lib.hid hc1
    have HA1 := Lib.hid hA1
    have HN1 := Lib.hid hN1
    have HR1 := Lib.hid hR1
    have HSb := Lib.hid hsb
    clear hw1 hc1 hA1 hN1 hR1 hsb hl64
    have heq : ∀ w', (Op.equal 178 (.agg (cellsB (headB s a.toNat k)).toArray) (.agg (cellsB b).toArray)).run Tryz.prog w' = .ok (decide (headB s a.toNat k = b)) w' := fun w' => run_equal_block w' _ _ _ Tryz.underlying178 (headB_length _ _ _) HB.out
    have heg : Tryz.prog.eqGuardType Tryz.prog.depth 178 = false := by kernel_rfl
    have HEq := Lib.hid heq
    have HEg := Lib.hid heg
    clear heq heg
    refine wp_region_noPanic ?_
    refine wp_region_held_drew (S := (fun w' => w'.rangeAt w.heap.size 0 (cellsB b) ∧ w'.rangeAt w0.heap.size 0 [.int .i64 s, .int .i64 a.toNat, .int .i64 k])) (by kernel_rfl) (⟨HA1.out.range, HN1.out.range⟩) (fun hHeld => ?_)
    refine take_list (i := 3) rfl (by kernel_rfl) (by kernel_rfl) (by kernel_rfl) (fun _ _ _ h => h) ((yieldsIf_load_mid (by rfl) _ _ rfl _ _ rfl (cellsB b) _ (fun w h => h.1) Tryz.underlying178 rfl HSb.out)) hHeld ?_
    simp only [Act.put, zA, zB, zC]
    refine take_list (i := 0) rfl (by kernel_rfl) (by kernel_rfl) (by kernel_rfl) (fun _ _ _ h => h) ((yieldsIf_load_mid (by rfl) _ _ rfl _ _ rfl [.int .i64 s, .int .i64 a.toNat, .int .i64 k] _ (fun w h => h.2) Tryz.underlying175 rfl size_head)) hHeld ?_
    simp only [Act.put, zA, zB, zC]
    refine take_list (i := 1) rfl (by kernel_rfl) (by kernel_rfl) (by kernel_rfl) (fun _ _ _ h => h) ((yieldsIf_load_mid (by rfl) _ _ rfl _ _ rfl [.int .i64 s, .int .i64 a.toNat, .int .i64 k] _ (fun w h => h.2) Tryz.underlying175 rfl size_head)) hHeld ?_
    simp only [Act.put, zA, zB, zC]
    refine on1 2 rfl (fun K hK => ?_)
    go_simp
    refine (bytes_any _ s a.toNat k (by omega) (by omega) (by omega)).mono ?_
    rintro e w2 ⟨rfl, hc2⟩
    have HC2 := Lib.hid (HC1.out.trans' ((Chg.refl _ w1).drew.trans' hc2))
    have HA2 := Lib.hid (((Chg.refl _ w1).drew.trans' hc2).at HA1.out id)
    have HN2 := Lib.hid (((Chg.refl _ w1).drew.trans' hc2).at HN1.out id)
    have HR2 := Lib.hid (show Arr w2 (w.heap.size + 1) 175 _ from ((Chg.refl _ w1).drew.trans' hc2).at HR1.out id)
    clear hc2
    dsimp only
    refine hK _ _ (⟨Arr.range HA2.out, Arr.range HN2.out⟩) (fun hHeld2 => ?_)
    try simp only [Act.put, zA, zB, zC]
    refine take_list (i := 4) rfl (by kernel_rfl) (by kernel_rfl) (by kernel_rfl) (fun _ _ _ h => h) ((yieldsIf_eql_block (by rfl) _ _ _ rfl (headB s a.toNat k) b rfl rfl Tryz.underlying178 (headB_length _ _ _) HB.out HEg.out)) hHeld2 ?_
    simp only [Act.put, zA, zB, zC]
    refine on1 5 rfl (fun K hK => ?_)
    refine wp_store_mid 175 _ _ rfl (w.heap.size + 1) 0 #[.int .i64 s, .int .i64 a.toNat, .int .i64 k] rfl rfl HR2.out.there size_head (head_ones _ _ _) ?_
    have hst := HR2.out.store (vs := [.int .i64 s, .int .i64 a.toNat, .int .i64 k]) rfl
    rw [List.toList_toArray]
    have hlt0 := lt_of_block HRes.out
    refine hK _ _ ⟨Arr.range (hst.chg.at HA2.out (by omega)), Arr.range (hst.chg.at HN2.out (by omega))⟩ (fun hHeld3 => ?_)
    try simp only [Act.put, zA, zB, zC]
    refine take_list (i := 6) rfl (by kernel_rfl) (by kernel_rfl) (by kernel_rfl) (fun _ _ _ h => h) ((Or.inl ⟨by rfl, fun w' _ => rfl⟩)) hHeld3 ?_
    simp only [Act.put, zA, zB, zC]
    refine wpAnyH_done (by kernel_rfl) ?_ _
    refine NoPanic.normal ?_
    clear hHeld hHeld2 hHeld3
    (try simp only [Exit.inBlock, Exit.then])
    go_wp2_with fail
    refine bodyPost_ret (result_cell_tmp rfl _ rfl (hst.arr.load Tryz.underlying175 rfl size_head) (x := .bool (decide (headB s a.toNat k = b))) rfl) rfl ?_
    refine ⟨s, a.toNat, k, decide (headB s a.toNat k = b), rfl, ?_, by omega, (HC0.out.trans' HC2.out).new hst.chg (fun i hi => by omega)⟩
    rw [HRg.out]
    by_cases he : headB s a.toNat k = b
    · rw [if_pos he, decide_eq_true he]; rfl
    · rw [if_neg he, decide_eq_false he]; rfl

end Go.Proofs.YtbjagmlbamjdbaaGreat.wals
end

section
namespace Go.Proofs.YtbjagmlbamjdbaaGreat.bufs
open Go.RowKit Go.My disks
set_option maxRecDepth 100000

variable {w w' : World}

theorem append_cells {t e : TypeId} {z : Value} {nb : Nat} {i : TypeInfo} (ht : Tryz.prog.underlying t = some (.slice e)) (hi : Tryz.prog.info? e = some i) (hz : i.zero = some z) (hsz : i.size = 1) (hby : i.bytes = nb) (hzs : z.cells.size = 1)
    {base n : Nat} {v : Value} {xs ys : List Value} {oa : Option Addr} {m cap : Nat} (h : w.ownsRow base e 1 v n xs) (hs : SlAt w (.slice oa m cap) ys) (h1 : ∀ y ∈ ys, y.oneCell' = true) (hb : base ≤ w.heap.size) (hl : xs.length + ys.length ≤ 140737488355328) (hlb : (xs.length + ys.length) * nb ≤ 140737488355328) (ty : TypeId) :
    ∃ v' w', (Builtin.append_ #[t, t] ty #[v, .slice oa m cap]).run Tryz.prog w = .ok v' w' ∧ w'.ownsRow base e 1 v' (xs ++ ys).length (xs ++ ys) ∧ w.grownBy w' v.ownBlock ∧ (v'.ownBlock = v.ownBlock ∨ v'.ownBlock = some w.heap.size) := by
  obtain rfl : n = xs.length := by have := h.1; omega
  obtain rfl : m = ys.length := by
    obtain ⟨_, _, h1, _⟩ := hs
    simp only [Value.slice.injEq] at h1
    exact h1.2.1
  rw [List.length_append]
  cases oa with
  | none =>
    have hy : ys = [] := by
      cases ys with
      | nil => rfl
      | cons y ys =>
        obtain ⟨oa', cap', h1, h2, _⟩ := hs
        obtain ⟨b, off, h3⟩ := h2 (by simp)
        simp only [Value.slice.injEq] at h1
        rw [← h1.1] at h3; cases h3
    subst hy
    refine ⟨v, w, ?_, by simpa using h, ⟨rfl, rfl, rfl, Nat.le_refl _, fun _ _ _ => rfl⟩, Or.inl rfl⟩
    rcases h.2 with ⟨rfl, h0⟩ | ⟨g, cap', cur, rfl, _, hg, hc, _⟩
    · simp [Builtin.append_, run_underlying ht, sizeOf, typeInfo, hi, Builtin.lenOf, Builtin.firstCells]
    · simp [Builtin.append_, run_underlying ht, sizeOf, typeInfo, hi, Builtin.lenOf, Builtin.firstCells, hc, storeCells]
  | some a =>
    have hcells : ∀ j u, ys[j]? = some u → w.cell? (a.add j) = some u := by
      intro j u hu
      obtain ⟨oa', cap', h1, h2, h3⟩ := hs
      simp only [Value.slice.injEq] at h1
      obtain ⟨b, off, h4⟩ := h2 (by intro e; rw [e] at hu; simp at hu)
      have h5 := h3 b off h4 j u hu
      rw [← h1.1] at h4
      cases h4
      have : (⟨b, off, none⟩ : Addr).add j = ⟨b, off + j, none⟩ := by unfold Addr.add; split <;> simp_all
      rw [this]; exact h5
    obtain ⟨v', w', h1, h2, h3, -, h4⟩ := run_append_own_at (P := Tryz.prog) w base t ty e i z 1 nb ht hi hz hsz hby hzs (by decide) v xs.length xs h a ys.length cap ys (by omega) hcells h1 (by unfold maxLen; omega) hlb hb
    exact ⟨v', w', h1, h2, h3, h4⟩

theorem info_string : (Tryz.prog.info? 9).map (fun i => (i.zero, i.size, i.bytes)) = some (some (.string ⟨#[]⟩), 1, 16) := by kernel_rfl

theorem append_strs {base n : Nat} {v : Value} {xs ys : List Value} {oa : Option Addr} {m cap : Nat} (h : w.ownsRow base 9 1 v n xs) (hs : SlAt w (.slice oa m cap) ys) (h1 : ∀ y ∈ ys, y.oneCell' = true) (hb : base ≤ w.heap.size) (hl : xs.length + ys.length ≤ 1099511627776) (ty : TypeId) :
    ∃ v' w', (Builtin.append_ #[109, 109] ty #[v, .slice oa m cap]).run Tryz.prog w = .ok v' w' ∧ w'.ownsRow base 9 1 v' (xs ++ ys).length (xs ++ ys) ∧ w.grownBy w' v.ownBlock ∧ (v'.ownBlock = v.ownBlock ∨ v'.ownBlock = some w.heap.size) := by
  obtain ⟨i, hi, hz, hsz, hby⟩ := info_parts info_string
  exact append_cells Tryz.underlying109 hi hz hsz hby rfl h hs h1 hb (by omega) (by omega) ty

end Go.Proofs.YtbjagmlbamjdbaaGreat.bufs
end

section
namespace Go.My
open Go.RowKit Go.Maps Go.ChangeMaps Go.Proofs Go.Sort

variable {α : Type} [Inhabited α]

theorem flatK_list (enc : α → List Value) (k : Nat) (hk : ∀ x, (enc x).length = k) (d : List α) : (flatK enc k d.toArray).toList = (d.map enc).flatten := by
  have hl : (d.map enc).flatten.length = d.length * k := by
    rw [flat_length k _ (fun r hr => by obtain ⟨x, _, rfl⟩ := List.mem_map.1 hr; exact hk x), List.length_map]
  apply List.ext_getElem?
  intro t
  by_cases h : t < d.length * k
  · have hk0 : 0 < k := by
      rcases Nat.eq_zero_or_pos k with h0 | h0
      · subst h0; omega
      · exact h0
    have h1 : t / k < d.length := Nat.div_lt_of_lt_mul (by rw [Nat.mul_comm]; exact h)
    have h2 : t % k < k := Nat.mod_lt _ hk0
    have h3 := flat_get k (d.map enc) (fun r hr => by obtain ⟨x, _, rfl⟩ := List.mem_map.1 hr; exact hk x) (t / k) (t % k) h2
    rw [Nat.mul_comm, Nat.div_add_mod] at h3
    rw [h3]
    have h4 : t % k < (enc d[t / k]).length := by rw [hk]; exact h2
    simp [flatK, h, h1, h4]
  · have e1 : (flatK enc k d.toArray).toList.length ≤ t := by simp; omega
    have e2 : (d.map enc).flatten.length ≤ t := by rw [hl]; omega
    rw [List.getElem?_eq_none e1, List.getElem?_eq_none e2]

theorem take_putCells (F : Array Value) (cur : Array Value) (h : F.size ≤ cur.size) : (putCells id 0 F cur).toList.take F.size = F.toList := by
  apply List.ext_getElem?
  intro j
  by_cases hj : j < F.size
  · rw [List.getElem?_take_of_lt hj, Array.getElem?_toList]
    simp [putCells, hj, show j < cur.size by omega]
  · rw [List.getElem?_take_eq_none (by omega), List.getElem?_eq_none (by simp; omega)]

theorem chg_sorted (enc : α → List Value) (k : Nat) (w : World) (g n : Nat) (d : Array α) (os : Array Obj) : Chg (· = g) w (sortWorldK enc k w g 0 n d os) := by
  refine ⟨rfl, rfl, rfl, ?_, fun i hi hne => ?_⟩
  · simp [sortWorldK, putRowK, putRow, mapBlock, Sort.ahead]
  · unfold sortWorldK
    rw [heap_grow_old _ _ (by simpa [putRowK, putRow, mapBlock, Sort.ahead] using hi)]
    have : g ≠ i := fun e => hne (by rw [e])
    simp [putRowK, putRow, mapBlock, Sort.ahead, Array.getElem?_modify, this]

theorem heap_sortedK (enc : α → List Value) (k : Nat) {w : World} {g n : Nat} {os : Array Obj} {cur : Array Value} {e : TypeId} {fr : Nat × Nat} (d : Array α) (hb : w.heap[g]? = some (.cells cur e fr)) :
    (sortWorldK enc k w g 0 n d os).heap[g]? = some (.cells (putCells id 0 (flatK enc k d) cur) e fr) := by
  have hg : g < w.heap.size := (Array.getElem?_eq_some_iff.1 hb).1
  unfold sortWorldK
  rw [heap_grow_old _ _ (by simpa [putRowK, putRow, mapBlock, Sort.ahead] using hg)]
  simp [putRowK, putRow, mapBlock, Sort.ahead, Array.getElem?_modify, hb, onCells]

theorem recs_sorted (enc : α → List Value) (k : Nat) (hk : ∀ x, (enc x).length = k) {w : World} {base : Nat} {e : TypeId} {g cap : Nat} {d d' : List α} (h : OwnRecs w base e k (.slice (some ⟨g, 0, none⟩) d.length cap) (d.map enc))
    (hl : d'.length = d.length) (n : Nat) (os : Array Obj) : OwnRecs (sortWorldK enc k w g 0 n d'.toArray os) base e k (.slice (some ⟨g, 0, none⟩) d'.length cap) (d'.map enc) := by
  have hf : (d'.map enc).flatten.length = d'.length * k := by
    rw [flat_length k _ (fun r hr => by obtain ⟨x, _, rfl⟩ := List.mem_map.1 hr; exact hk x), List.length_map]
  refine ⟨⟨by rw [hf, List.length_map], ?_⟩, fun r hr => by obtain ⟨x, _, rfl⟩ := List.mem_map.1 hr; exact hk x⟩
  rcases h.row.2 with ⟨h1, -⟩ | ⟨g', cap', cur, h1, h2, h3, h4, h5, h6, h7⟩
  · cases h1
  · simp only [Value.slice.injEq, Option.some.injEq, Addr.mk.injEq, List.length_map] at h1 h4
    obtain ⟨⟨rfl, -⟩, -, rfl⟩ := h1
    have hs : (flatK enc k d'.toArray).size = d'.length * k := by simp
    refine Or.inr ⟨g, cap, putCells id 0 (flatK enc k d'.toArray) cur, by simp, h2, heap_sortedK enc k d'.toArray h3, by rw [List.length_map, hl]; exact h4, h5, by simpa [putCells] using h6, ?_⟩
    have hc : (flatK enc k d'.toArray).size ≤ cur.size := by rw [hs, h6, hl]; exact Nat.mul_le_mul_right k h4
    have := take_putCells (flatK enc k d'.toArray) cur hc
    rw [hs, flatK_list enc k hk] at this
    rw [List.length_map]; exact this

theorem recs_holds (enc : α → List Value) (k : Nat) (hk : ∀ x, (enc x).length = k) {w : World} {base : Nat} {e : TypeId} {g cap : Nat} {d : List α} (h : OwnRecs w base e k (.slice (some ⟨g, 0, none⟩) d.length cap) (d.map enc)) : HoldsK enc k w g 0 d.toArray := by
  intro j hj
  have hj' : j < d.length * k := by simpa using hj
  have hk0 : 0 < k := by
    rcases Nat.eq_zero_or_pos k with h0 | h0
    · subst h0; omega
    · exact h0
  have h1 : j / k < d.length := Nat.div_lt_of_lt_mul (by rw [Nat.mul_comm]; exact hj')
  have h2 : j % k < k := Nat.mod_lt _ hk0
  obtain ⟨g', cap', e1, _, _, _, hc, hf⟩ := h.cell (k := j / k) (by simpa using h1)
  simp only [Value.slice.injEq, Option.some.injEq, Addr.mk.injEq] at e1
  obtain ⟨⟨rfl, -⟩, -⟩ := e1
  have h4 : j % k < (enc d[j / k]).length := by rw [hk]; exact h2
  have h3 := hc (j % k) ((enc d[j / k])[j % k]) (by simp [h4])
  rw [Nat.mul_comm, Nat.div_add_mod] at h3
  rw [Nat.zero_add]
  refine ⟨?_, hf j⟩
  rw [h3, get_flatK enc k _ j (by simpa using hj')]
  simp [h1, h4]

end Go.My
end

section
namespace Go.Proofs.YtbjagmlbamjdbaaGreat.disks
open Go.Shelf

end Go.Proofs.YtbjagmlbamjdbaaGreat.disks
end

section
namespace Go.Proofs.YtbjagmlbamjdbaaGreat.disks
open Go.RowKit Go.Maps Go.My Go.ChangeMaps Go.Shelf Go.Lib Go.Sort
set_option maxRecDepth 100000

end Go.Proofs.YtbjagmlbamjdbaaGreat.disks
end

section
namespace Go.Proofs.YtbjagmlbamjdbaaGreat.disks
open Go.RowKit Go.Maps Go.My Go.ChangeMaps
set_option maxRecDepth 100000

variable {w w' : World} {d q : Nat} {F F' : Nat → Prop} {X X' : DV} {bv : Value} {m : List (Int × (Value × List Blk))}

def waitsOf (X : DV) : List (Nat × Nat) := ((List.range X.B.length).filter (fun i => !(X.L i).isEmpty)).map (fun i => (i, (X.L i).length))
theorem waits_pairwise (X : DV) : (waitsOf X).Pairwise (fun a b => a.1 < b.1) := by
  unfold waitsOf
  rw [List.pairwise_map]
  exact List.Pairwise.filter _ List.pairwise_lt_range

theorem sorted_is {X : DV} {ws : List (Nat × Nat)} (hB : X.B.length ≤ 4096) (hp : ws.Perm (waitsOf X)) (hs : ws.Pairwise (fun a b => a.1 % 4096 ≤ b.1 % 4096)) : ws = waitsOf X := by
  have hlt : ∀ a ∈ waitsOf X, a.1 < 4096 ∧ a.2 = (X.L a.1).length := by
    intro a ha
    simp only [waitsOf, List.mem_map, List.mem_filter, List.mem_range] at ha
    obtain ⟨i, hi, rfl⟩ := ha
    exact ⟨by omega, rfl⟩
  refine List.Perm.eq_of_pairwise (le := fun a b => a.1 % 4096 ≤ b.1 % 4096) ?_ hs ?_ hp
  · intro a b ha hb h1 h2
    have ha' := hlt a (hp.mem_iff.1 ha)
    have hb' := hlt b hb
    have : a.1 = b.1 := by
      rw [Nat.mod_eq_of_lt ha'.1, Nat.mod_eq_of_lt hb'.1] at h1 h2
      omega
    exact Prod.ext this (by rw [ha'.2, hb'.2, this])
  · refine (List.Pairwise.and_mem.1 (waits_pairwise X)).imp ?_
    rintro a b ⟨ha, hb, h⟩
    rw [Nat.mod_eq_of_lt (hlt a ha).1, Nat.mod_eq_of_lt (hlt b hb).1]
    omega

end Go.Proofs.YtbjagmlbamjdbaaGreat.disks
end

section
namespace Go.Proofs.YtbjagmlbamjdbaaGreat.disks
open Go.RowKit Go.Maps Go.My Go.ChangeMaps
set_option maxRecDepth 100000

variable {w w' : World} {d q : Nat} {F F' : Nat → Prop} {X X' : DV} {bv : Value} {m : List (Int × (Value × List Blk))}

def keepAt (keep : List Int) (k N : Nat) : Nat := match keep[k]? with | some z => if 0 ≤ z then z.toNat % (N + 1) else 0 | none => 0

def DV.crashN (X : DV) (keep : List Int) : Nat → DV
  | 0 => X
  | k + 1 => match (waitsOf X)[k]? with
    | some p => { X.crashN keep k with B := if 0 < keepAt keep k p.2 then (X.crashN keep k).B.set p.1 (((X.L p.1)[keepAt keep k p.2 - 1]?).getD []) else (X.crashN keep k).B, L := fun t => if t = p.1 then [] else (X.crashN keep k).L t }
    | none => X.crashN keep k

def DV.crash (X : DV) (keep : List Int) : DV := { X.crashN keep (waitsOf X).length with fuse := -1, down := false }

theorem crashN_succ (X : DV) (keep : List Int) {k i N : Nat} (h : (waitsOf X)[k]? = some (i, N)) : X.crashN keep (k + 1) =
    { X.crashN keep k with B := if 0 < keepAt keep k N then (X.crashN keep k).B.set i (((X.L i)[keepAt keep k N - 1]?).getD []) else (X.crashN keep k).B, L := fun t => if t = i then [] else (X.crashN keep k).L t } := by
  rw [DV.crashN, h]

theorem crashN_len (X : DV) (keep : List Int) (k : Nat) : (X.crashN keep k).B.length = X.B.length := by
  induction k with
  | zero => rfl
  | succ k ih =>
    rw [DV.crashN]
    split
    · simp only
      split
      · rw [List.length_set, ih]
      · exact ih
    · exact ih

theorem waitsOf_at {X : DV} {k i N : Nat} (h : (waitsOf X)[k]? = some (i, N)) : i < X.B.length ∧ N = (X.L i).length ∧ 0 < N := by
  have := List.mem_of_getElem? h
  simp only [waitsOf, List.mem_map, List.mem_filter, List.mem_range, Prod.mk.injEq] at this
  obtain ⟨j, ⟨h1, h2⟩, rfl, rfl⟩ := this
  refine ⟨h1, rfl, ?_⟩
  cases hL : X.L j with
  | nil => rw [hL] at h2; simp at h2
  | cons a l => simp

theorem crashN_L (X : DV) (keep : List Int) (k t : Nat) (h : ∀ (j : Nat) (p : Nat × Nat), j < k → (waitsOf X)[j]? = some p → p.1 ≠ t) : (X.crashN keep k).L t = X.L t := by
  induction k with
  | zero => rfl
  | succ k ih =>
    rw [DV.crashN]
    split
    · rename_i p hp
      simp only
      rw [if_neg (fun e => h k p (Nat.lt_succ_self k) hp e.symm)]
      exact ih (fun j p hj hp => h j p (by omega) hp)
    · exact ih (fun j p hj hp => h j p (by omega) hp)

theorem mem_mdel {K V : Type} [DecidableEq K] {m : List (K × V)} {k : K} {p : K × V} (h : p ∈ mdel m k) : p ∈ m ∧ p.1 ≠ k := by
  unfold mdel at h
  rw [List.mem_filter] at h
  exact ⟨h.1, by simpa using h.2⟩

theorem DiskIs.delL (h : DiskIs w d F X bv q m) (i : Nat) (hm : MapIs iKey Prod.fst w' q (mdel m (i : Int))) (hc : Chg (· = q) w w') : DiskIs w' d F { X with L := fun t => if t = i then [] else X.L t } bv q (mdel m (i : Int)) := by
  refine ⟨hc.at h.head h.d_ne_q, h.rows.kept hc (fun j hj e => row_ne_q h h.rows (e ▸ hj)), h.any, hm, fun p hp => ⟨(h.lists p (mem_mdel hp).1).1.kept hc (fun j hj e => row_ne_q h (h.lists p (mem_mdel hp).1).1 (e ▸ hj)), (h.lists p (mem_mdel hp).1).2⟩,
    fun t => ?_, fun p hp => h.off p (mem_mdel hp).1, fun p hp p' hp' hne => h.apart p (mem_mdel hp).1 p' (mem_mdel hp').1 hne, h.fd, h.fq, h.fb, fun p hp => h.fm p (mem_mdel hp).1, fun j hj => Nat.lt_of_lt_of_le (h.lt j hj) hc.size, h.size⟩
  rw [mget_mdel]
  by_cases ht : t = i
  · subst ht; simp
  · have : ¬ (t : Int) = (i : Int) := by omega
    simp only [if_neg ht, if_neg this]
    exact h.waits t

theorem meas_step {a k : Nat} (h : k < a) : a - (intOf (.int .i64 ((k : Int) + 1))).toNat < a - (intOf (.int .i64 (k : Int))).toNat := by simp [intOf]; omega

theorem DiskIs.gone (h : DiskIs w d F X bv q m) (i : Nat) (hi : inR i) : ∃ ob, (∀ ty, (Builtin.delete_ #[49, 3] ty #[.map (some q), .int .i64 (i : Int)]).run Tryz.prog w = .ok (.tuple #[]) (setBlock w q ob)) ∧
    DiskIs (setBlock w q ob) d F { X with L := fun t => if t = i then [] else X.L t } bv q (mdel m (i : Int)) ∧ Chg (· = q) w (setBlock w q ob) := by
  obtain ⟨ob, h1, h2⟩ := h.wmap.del Tryz.underlying49 (i : Int) (inR_wf hi) 0
  have hc : Chg (· = q) w (setBlock w q ob) := Chg.setBlock (S := (· = q)) (Chg.refl _ _) (fun _ => rfl) _
  exact ⟨ob, fun ty => h1, h.delL i h2 hc, hc⟩

end Go.Proofs.YtbjagmlbamjdbaaGreat.disks
end

section
namespace Go.Proofs.YtbjagmlbamjdbaaGreat.disks
open Go.RowKit Go.Maps Go.My Go.ChangeMaps
set_option maxRecDepth 100000

variable {W w w' : World} {d q : Nat} {F F' : Nat → Prop} {X X' Y : DV} {bv : Value} {m : List (Int × (Value × List Blk))}

theorem crashN_L_le (X : DV) (keep : List Int) (k j : Nat) : ((X.crashN keep k).L j).length ≤ (X.L j).length := by
  induction k with
  | zero => exact Nat.le_refl _
  | succ k ih =>
    rw [DV.crashN]
    split
    · simp only
      split
      · simp
      · exact ih
    · exact ih

theorem crash_L_le (X : DV) (keep : List Int) (j : Nat) : ((X.crash keep).L j).length ≤ (X.L j).length := crashN_L_le X keep _ j

end Go.Proofs.YtbjagmlbamjdbaaGreat.disks
end

section
namespace Go.Proofs.YtbjagmlbamjdbaaGreat.disks
open Go.RowKit Go.Maps Go.My Go.ChangeMaps
set_option maxRecDepth 100000

def placeOf (X : DV) (i : Nat) : Nat := ((List.range i).filter (fun j => !(X.L j).isEmpty)).length

theorem ws_at {X : DV} {i : Nat} (h : X.L i ≠ []) (hi : i < X.B.length) : (waitsOf X)[placeOf X i]? = some (i, (X.L i).length) := by
  have e : List.range X.B.length = List.range i ++ (i :: List.range' (i + 1) (X.B.length - (i + 1))) := by
    have h1 : List.range X.B.length = List.range i ++ List.range' i (X.B.length - i) := by
      rw [List.range_eq_range', List.range_eq_range']
      have := List.range'_append_1 (s := 0) (m := i) (n := X.B.length - i)
      rw [Nat.zero_add] at this
      rw [this]
      congr 1; omega
    rw [h1, show X.B.length - i = (X.B.length - (i + 1)) + 1 by omega, List.range'_succ]
  unfold waitsOf
  rw [e, List.filter_append, List.filter_cons, if_pos (by simpa using h), List.map_append, List.map_cons]
  rw [List.getElem?_append_right (by simp [placeOf]), List.length_map]
  simp [placeOf]

theorem ws_unique {X : DV} {j k t N M : Nat} (h1 : (waitsOf X)[j]? = some (t, N)) (h2 : (waitsOf X)[k]? = some (t, M)) : j = k := by
  have h := waits_pairwise X
  rw [List.pairwise_iff_getElem] at h
  obtain ⟨hj, e1⟩ := List.getElem?_eq_some_iff.1 h1
  obtain ⟨hk, e2⟩ := List.getElem?_eq_some_iff.1 h2
  rcases Nat.lt_trichotomy j k with hl | hl | hl
  · have := h j k hj hk hl
    rw [e1, e2] at this; simp at this
  · exact hl
  · have := h k j hk hj hl
    rw [e1, e2] at this; simp at this

theorem crashN_B_none (X : DV) (keep : List Int) (k t : Nat) (h : ∀ (j : Nat) (p : Nat × Nat), j < k → (waitsOf X)[j]? = some p → p.1 ≠ t) : (X.crashN keep k).B[t]? = X.B[t]? := by
  induction k with
  | zero => rfl
  | succ k ih =>
    have ih := ih (fun j p hj hp => h j p (by omega) hp)
    rw [DV.crashN]
    split
    · rename_i p hp
      simp only
      split
      · rw [List.getElem?_set_ne (h k p (by omega) hp)]; exact ih
      · exact ih
    · exact ih

theorem crashN_at (X : DV) (keep : List Int) {j t N : Nat} (hj : (waitsOf X)[j]? = some (t, N)) (k : Nat) (hk : j < k) :
    (X.crashN keep k).B[t]? = (if 0 < keepAt keep j N then some (((X.L t)[keepAt keep j N - 1]?).getD []) else X.B[t]?) ∧ (X.crashN keep k).L t = [] := by
  induction k with
  | zero => omega
  | succ k ih =>
    by_cases hjk : j = k
    · subst hjk
      have hno := crashN_B_none X keep j t (fun i p hi hp e => by
        obtain ⟨p1, p2⟩ := p
        simp only at e
        subst e
        have := ws_unique hp hj
        omega)
      have htl := (waitsOf_at hj).1
      rw [crashN_succ X keep hj]
      simp only [if_true, and_true]
      split
      · rw [List.getElem?_set_self (by rw [crashN_len]; exact htl)]
      · exact hno
    · obtain ⟨h1, h2⟩ := ih (by omega)
      rw [DV.crashN]
      split
      · rename_i p hp
        have hpt : p.1 ≠ t := fun e => by
          obtain ⟨p1, p2⟩ := p
          simp only at e
          subst e
          exact hjk (ws_unique hj hp)
        have hL : (if t = p.1 then [] else (X.crashN keep k).L t) = [] := by rw [if_neg (fun e => hpt e.symm)]; exact h2
        refine ⟨?_, hL⟩
        rw [← h1]
        by_cases hc : 0 < keepAt keep k p.2
        · simp only [if_pos hc]
          rw [List.getElem?_set_ne hpt]
        · simp only [if_neg hc]
      · exact ⟨h1, h2⟩

theorem crash_keeps (X : DV) (keep : List Int) {i : Nat} (hi : i < X.B.length) :
    (X.crash keep).L i = [] ∧ (X.L i = [] → (X.crash keep).B[i]? = X.B[i]?) ∧
      (X.L i ≠ [] → (X.crash keep).B[i]? = if 0 < keepAt keep (placeOf X i) (X.L i).length then some (((X.L i)[keepAt keep (placeOf X i) (X.L i).length - 1]?).getD []) else X.B[i]?) := by
  by_cases h : X.L i = []
  · have hno : ∀ (j : Nat) (p : Nat × Nat), j < (waitsOf X).length → (waitsOf X)[j]? = some p → p.1 ≠ i := fun j p _ hp e => by
      obtain ⟨p1, p2⟩ := p
      simp only at e
      subst e
      have := waitsOf_at hp
      rw [h] at this
      simp at this
      omega
    refine ⟨?_, fun _ => crashN_B_none X keep _ i hno, fun hn => absurd h hn⟩
    show (X.crashN keep (waitsOf X).length).L i = []
    rw [crashN_L X keep _ i hno, h]
  · have hw := ws_at h hi
    have hlt : placeOf X i < (waitsOf X).length := (List.getElem?_eq_some_iff.1 hw).1
    obtain ⟨h1, h2⟩ := crashN_at X keep hw (waitsOf X).length hlt
    exact ⟨h2, fun hn => absurd hn h, fun _ => h1⟩

end Go.Proofs.YtbjagmlbamjdbaaGreat.disks
end
