/-
  wal: begin, Open.
-/
import Derived.Test.YtbjagmlbamjdbaaGreatPx3RootStands
import Derived.Test.YtbjagmlbamjdbaaGreatPx5RootStands
import Derived.Test.YtbjagmlbamjdbaaGreatPx7RootStands
import Derived.Test.YtbjagmlbamjdbaaGreatPx9RootStands
import Derived.Deep.Cut
import Derived.Lib.Strings

section
set_option linter.unusedSimpArgs false
set_option linter.unusedVariables false
namespace Go.Proofs.YtbjagmlbamjdbaaGreat.wals
open Go.RowKit Go.My disks bufs
set_option maxRecDepth 100000

variable {w w' : World} {l d : Nat} {F Fd : Nat → Prop} {X : DV} {V : LV} {rv tv wv : Value}

set_option maxHeartbeats 1000000 in
theorem begin_any (w : World) (h : LogAt w l d F Fd X ⟨0, 0, 0, [], [], [], 0, false⟩) (hf : X.fuse ≤ 9223372036854775807) (hL : ∀ j, (X.L j).length < 1000000) :
    Calls Tryz.prog 103 #[.pointer (some ⟨l, 0, none⟩)] w fun e w' => e = .returned (.tuple #[if (putH X 1 0 0).1 = 0 then .pointer (some ⟨l, 0, none⟩) else .pointer none, .int .i64 (putH X 1 0 0).1]) ∧
      ∃ F' Fd', LogAt w' l d F' Fd' (putH X 1 0 0).2 (putV ⟨0, 0, 0, [], [], [], 0, false⟩ (putH X 1 0 0).1 1 0 0) ∧ (∀ k, F' k → F k ∨ w.heap.size ≤ k) ∧ (∀ k, Fd' k → Fd k ∨ w.heap.size ≤ k) ∧ Chg (fun k => F k ∨ Fd k) w w' := by
  have hp := put_any w h 1 0 0 (by omega) (by omega) (by omega) hf hL
  obtain ⟨R, hR⟩ : ∃ R, putH X 1 0 0 = R := ⟨_, rfl⟩
  rw [hR] at hp ⊢
  obtain ⟨n, hn⟩ : ∃ n, R.1 = n := ⟨_, rfl⟩
  rw [hn] at hp ⊢
  have HP := Lib.hid hp
  clear hp h hf hL hR hn
  by_cases hz : n = 0
  · subst hz
    go_enter Tryz.func103, Tryz.ntmps103
    go_wp2_with (first
      | (go_at_call 151; fail))
    refine HP.out.mono ?_
    rintro e w1 ⟨rfl, F', Fd', h1, h2, h3, h4⟩
    dsimp only
    go_wp2_with fail
    go_ret2
    exact ⟨rfl, F', Fd', h1, h2, h3, h4⟩
  · have hzb : (n != 0) = true := by simp [hz]
    rw [if_neg hz]
    have HZ := Lib.hid hz
    clear hz
    go_enter Tryz.func103, Tryz.ntmps103
    go_wp2_with (first
      | (go_at_call 151; fail))
    refine HP.out.mono ?_
    rintro e w1 ⟨rfl, F', Fd', h1, h2, h3, h4⟩
    dsimp only
    go_wp2_with fail
    go_ret2
    exact ⟨rfl, F', Fd', h1, h2, h3, h4⟩

/-- What Open leaves. -/
def OpenPost (w : World) (d : Nat) (Fd : Nat → Prop) (R : Int × DV × Option LV) (e : Ending) (w' : World) : Prop :=
  ∃ Fd', (∀ k, Fd' k → Fd k ∨ w.heap.size ≤ k) ∧ Chg Fd w w' ∧ ((∃ V l F', R.2.2 = some V ∧ e = .returned (.tuple #[.pointer (some ⟨l, 0, none⟩), .int .i64 0]) ∧ LogAt w' l d F' Fd' R.2.1 V ∧ ∀ k, F' k → w.heap.size ≤ k) ∨
    (R.2.2 = none ∧ e = .returned (.tuple #[.pointer none, .int .i64 R.1]) ∧ DiskAt w' d Fd' R.2.1))

theorem read_at (w : World) (h : DiskAt w d Fd X) (hd : X.down = false) (i : Nat) (hi : i < X.B.length) (hle : X.B.length ≤ 4096) : Calls Tryz.prog 101 #[.pointer (some ⟨d, 0, none⟩), .int .i64 (i : Int)] w fun e w' => ∃ v, e = .returned (.tuple #[v, .int .i64 0]) ∧ w'.ownsRow w.heap.size 5 1 v 64 (cellsB (X.cur i)) ∧ Chg (fun _ => False) w w' := by
  obtain ⟨bv, p, mm, hdk⟩ := h
  have hask : askedC X (i : Int) = 0 := by unfold askedC; rw [hd, if_neg (by decide), if_pos ⟨by omega, by omega⟩]
  have := disks.read_any _ hdk (i : Int) ⟨by omega, by omega⟩
  rw [hask, if_pos rfl, if_pos rfl, Int.toNat_natCast] at this
  exact this

theorem wpList_yields {P : Program} {ops : Array Oper} {rest : List Oper} {op : Oper} {a : Go.Act} {w : World} {Q : Exit → Go.Act → World → Prop} {S : World → Prop} {v : Value} (hy : YieldsIf P ops S op v a) (hS : S w) (h : wpList P ops Q rest (a.put op.dst v) w) : wpList P ops Q (op :: rest) a w := by
  rcases hy with ⟨hw, hv⟩ | ⟨hw, rfl⟩
  · simp only [wpList, hw, if_true, Oper.wp, hv w hS, Oper.upon]
    exact .inl h
  · exact wpList_skip hw h

theorem forget_zeros {K : Go.Act → World → Prop} {a : Go.Act} (w3 : World) (t : TypeId) (h : ∀ wz, Arr wz w3.heap.size t (List.replicate 64 (.int .u8 0)) → Chg (fun _ => False) w3 wz → wz.heap.size = w3.heap.size + 1 → K a wz) : K a (w3.alloc (.cells (List.replicate 64 (.int .u8 0)).toArray t)).drew :=
  h _ (at1 (w := w3)) ((Chg.refl _ _).alloc _).drew (by show (w3.alloc _).heap.size = _; rw [World.size_alloc])
theorem forget_zeros' {K : Go.Act → World → Prop} {a : Go.Act} (w3 : World) (t : TypeId) (h : ∀ wz, Arr wz w3.heap.size t (List.replicate 64 (.int .u8 0)) → Chg (fun _ => False) w3 wz → wz.heap.size = w3.heap.size + 1 → K a wz) : K a (w3.alloc (.cells (List.replicate 64 (.int .u8 0)).toArray t)) :=
  h _ at1 ((Chg.refl _ _).alloc _) (by rw [World.size_alloc])
theorem _root_.Go.My.Chg.range {w w' : World} (h : Chg (fun _ => False) w w') {b o : Nat} {cs : List Value} (hr : w.rangeAt b o cs) : w'.rangeAt b o cs := fun j x hx => h.cell (hr j x hx) id

set_option maxHeartbeats 1000000 in
theorem open_blank (w : World) (h : DiskAt w d Fd X) (hdn : X.down = false) (h6 : 6 ≤ X.B.length) (hle : X.B.length ≤ 4096) (hf : X.fuse ≤ 9223372036854775807) (hL : ∀ j, (X.L j).length < 500000) (hx : X.cur 0 = zeros 64) (hy : X.cur 1 = zeros 64) :
    Calls Tryz.prog 58 #[.pointer (some ⟨d, 0, none⟩)] w (OpenPost w d Fd (openF X)) := by
  have HXY0 := Lib.hid (And.intro hx hy)
  have hD1 : ∀ b1 b2 : Blk, X.cur 0 = b1 → X.cur 1 = b2 → decide (b1 = zeros 64) = true ∧ decide (b2 = zeros 64) = true := fun b1 b2 h1 h2 => ⟨decide_eq_true (h1 ▸ hx), decide_eq_true (h2 ▸ hy)⟩
  have HD := Lib.hid hD1
  clear hx hy hD1
  have HFL := Lib.hid (And.intro hf hL)
  have HN := Lib.hid (And.intro h6 (And.intro hle hdn))
  have H := Lib.hid h
  have HR0 := Lib.hid (read_at w h hdn 0 (by omega) hle)
  obtain ⟨n, hn⟩ : ∃ n, X.B.length = n := ⟨_, rfl⟩
  have HNn := Lib.hid hn
  have i1 : (6 : Int) ≤ n := by omega
  clear hf hL h6 hle hdn h hn
  go_enter Tryz.func58, Tryz.ntmps58
  go_wp2_with (first
    | (go_at_call 101; fail))
  refine HR0.out.mono ?_
  rintro e w1 ⟨v1, rfl, ho1, hc1⟩
  obtain ⟨oa1, cap1, rfl⟩ := own_slice ho1
  have HO1 := Lib.hid ho1
  have HC1 := Lib.hid hc1
  have hbk := blocks_any w1 (H.out.kept hc1 (fun _ _ h => h))
  rw [HNn.out] at hbk
  have HBk := Lib.hid hbk
  have HR1 := Lib.hid (read_at w1 (H.out.kept hc1 (fun _ _ h => h)) HN.out.2.2 1 (by have := HN.out; omega) HN.out.2.1)
  clear ho1 hc1 HR0 hbk
  dsimp only
  go_wp2_with (first
    | (go_at_call 102; refine HBk.out.mono ?_; rintro e w' ⟨rfl, rfl⟩)
    | (go_at_call 101; fail))
  refine HR1.out.mono ?_
  rintro e w2 ⟨v2, rfl, ho2, hc2⟩
  obtain ⟨oa2, cap2, rfl⟩ := own_slice ho2
  have HO2 := Lib.hid ho2
  have HC2 := Lib.hid hc2
  clear ho2 hc2 HR1 HBk
  dsimp only
  go_wp2_with fail
  obtain ⟨w3, hw3⟩ : ∃ w3, w2.alloc (.cells #[.pointer (some ⟨d, 0, none⟩), .int .i64 0, .int .i64 0, .int .i64 0, .slice none 0 0, .slice none 0 0, .slice none 0 0, .int .i64 0, .bool false] 177) = w3 := ⟨_, rfl⟩
  have hc3 : Chg (fun _ => False) w2 w3 := by rw [← hw3]; exact (Chg.refl _ _).alloc _
  have hlg : LogIs w3 w2.heap.size d (· = w2.heap.size) ⟨0, 0, 0, [], [], [], 0, false⟩ (.slice none 0 0) (.slice none 0 0) (.slice none 0 0) := by
    rw [← hw3]
    have hn : ∀ {g : Nat}, (Value.slice none 0 0).ownBlock = some g → False := fun h => by simp [Value.ownBlock] at h
    exact ⟨at1, ⟨rfl, Or.inl ⟨rfl, rfl⟩⟩, ⟨rfl, Or.inl ⟨rfl, rfl⟩⟩, ⟨rfl, Or.inl ⟨rfl, rfl⟩⟩, fun g h => (hn h).elim, rfl, fun g h => (hn h).elim, fun g h => (hn h).elim, fun g h => (hn h).elim, fun k hk => by rw [World.size_alloc]; have : k = w2.heap.size := hk; omega⟩
  rw [hw3]
  have HC3 := Lib.hid ((HC1.out.trans' HC2.out).trans' hc3)
  have HLg := Lib.hid hlg
  obtain ⟨b1, hb1⟩ : ∃ b1, X.cur 0 = b1 := ⟨_, rfl⟩
  obtain ⟨b2, hb2⟩ : ∃ b2, X.cur 1 = b2 := ⟨_, rfl⟩
  rw [hb1] at HO1
  rw [hb2] at HO2
  have hl1 : b1.length = 64 := by have := HO1.out.1; rw [cellsB_length] at this; omega
  have hl2 : b2.length = 64 := by have := HO2.out.1; rw [cellsB_length] at this; omega
  obtain ⟨g1, cc1, e1, hg1, hg1'⟩ := own_nonnil HO1.out (by intro e; rw [e] at hl1; simp at hl1)
  obtain ⟨g2, cc2, e2, hg2, hg2'⟩ := own_nonnil HO2.out (by intro e; rw [e] at hl2; simp at hl2)
  simp only [Value.slice.injEq] at e1 e2
  obtain ⟨rfl, -, rfl⟩ := e1
  obtain ⟨rfl, -, rfl⟩ := e2
  have hrg1 := own_range (own_kept HO1.out (HC2.out.trans' hc3))
  have hrg2 := own_range (own_kept HO2.out hc3)
  have HG1 := Lib.hid hrg1
  have HG2 := Lib.hid hrg2
  have hz1 : (cellsB b1).length = 64 := by rw [cellsB_length, hl1]
  have hz2 : (cellsB b2).length = 64 := by rw [cellsB_length, hl2]
  have HZ1 := Lib.hid (show (Tryz.prog.info? 178).map (·.size) = some (cellsB b1).length by rw [hz1]; exact size_wblock)
  have HZ2 := Lib.hid (show (Tryz.prog.info? 178).map (·.size) = some (cellsB b2).length by rw [hz2]; exact size_wblock)
  have HB := Lib.hid (And.intro hb1 (And.intro hb2 (And.intro hl1 hl2)))
  have HD1 := Lib.hid (HD.out b1 b2 hb1 hb2).1
  have HD2 := Lib.hid (HD.out b1 b2 hb1 hb2).2
  have HSz := Lib.hid (show g1 < w2.heap.size ∧ g2 < w2.heap.size from ⟨Nat.lt_of_lt_of_le hg1' HC2.out.size, hg2'⟩)
  clear hw3 hc3 hlg hb1 hb2 hl1 hl2 hg1 hg1' hg2 hg2' hrg1 hrg2 hz1 hz2
  have hsa1 : ∀ w', (Instr.arrayAt 178 (.slice (some ⟨g1, 0, none⟩) 64 cap1)).run Tryz.prog w' = .ok (.pointer (some ⟨g1, 0, none⟩)) w' := fun w' => run_arrayAt _ _ _ 64 _ _ _ Tryz.underlying178 (by omega)
  have hsa2 : ∀ w', (Instr.arrayAt 178 (.slice (some ⟨g2, 0, none⟩) 64 cap2)).run Tryz.prog w' = .ok (.pointer (some ⟨g2, 0, none⟩)) w' := fun w' => run_arrayAt _ _ _ 64 _ _ _ Tryz.underlying178 (by omega)
  refine wp_region_noPanic ?_
  refine wp_region_held_drew (S := (fun w' => w'.rangeAt g1 0 (cellsB b1) ∧ w'.rangeAt g2 0 (cellsB b2))) (by kernel_rfl) (⟨HG1.out, HG2.out⟩) (fun hHeld => ?_)
  refine take_list (i := 0) (v := ?_) rfl (by kernel_rfl) (by kernel_rfl) (by kernel_rfl) (fun _ _ _ h => h) (Or.inl ⟨by rfl, fun w hSw => ?_⟩) hHeld ?_
  rotate_left
  · (skip; go_simp)
    try with_reducible rfl
  simp only [Act.put, List.setIfInBounds_toArray, List.set_cons_zero, List.set_cons_succ]
  refine take_list (i := 1) (v := ?_) rfl (by kernel_rfl) (by kernel_rfl) (by kernel_rfl) (fun _ _ _ h => h) (Or.inl ⟨by rfl, fun w hSw => ?_⟩) hHeld ?_
  rotate_left
  · (skip; go_simp)
    try with_reducible rfl
  simp only [Act.put, List.setIfInBounds_toArray, List.set_cons_zero, List.set_cons_succ]
  refine take_list (i := 2) rfl (by kernel_rfl) (by kernel_rfl) (by kernel_rfl) (fun _ _ _ h => h) ((yieldsIf_load_mid (by rfl) _ _ rfl _ _ rfl (cellsB b1) _ (fun w h => h.1) Tryz.underlying178 rfl HZ1.out)) hHeld ?_
  simp only [Act.put, List.setIfInBounds_toArray, List.set_cons_zero, List.set_cons_succ]
  refine take_list (i := 3) (v := ?_) rfl (by kernel_rfl) (by kernel_rfl) (by kernel_rfl) (fun _ _ _ h => h) (Or.inl ⟨by rfl, fun w hSw => ?_⟩) hHeld ?_
  rotate_left
  · (skip; go_simp)
    try with_reducible rfl
  simp only [Act.put, List.setIfInBounds_toArray, List.set_cons_zero, List.set_cons_succ]
  refine take_list (i := 4) (v := ?_) rfl (by kernel_rfl) (by kernel_rfl) (by kernel_rfl) (fun _ _ _ h => h) (Or.inl ⟨by rfl, fun w hSw => ?_⟩) hHeld ?_
  rotate_left
  · (skip; go_simp)
    try with_reducible rfl
  simp only [Act.put, List.setIfInBounds_toArray, List.set_cons_zero, List.set_cons_succ]
  refine take_list (i := 5) rfl (by kernel_rfl) (by kernel_rfl) (by kernel_rfl) (fun _ _ _ h => h) ((yieldsIf_load_mid (by rfl) _ _ rfl _ _ rfl (cellsB b2) _ (fun w h => h.2) Tryz.underlying178 rfl HZ2.out)) hHeld ?_
  simp only [Act.put, List.setIfInBounds_toArray, List.set_cons_zero, List.set_cons_succ]
  refine wpAnyH_ready (rs := [6, 7]) (by kernel_rfl) (by simp) (one_list (i := 6) rfl (by rfl) (fun K hK => ?_) (one_list (i := 7) rfl (by rfl) (fun K hK => ?_) AllReadyH.nil))
  · go_simp
    refine forget_zeros w3 _ (fun wz hZ hcz hsz => ?_)
    have HZa := Lib.hid hZ
    have hcz3 := hcz
    refine hK _ _ (⟨hcz.range HG1.out, hcz.range HG2.out⟩) (fun hH2 => ?_)
    try simp only [Act.put, List.setIfInBounds_toArray, List.set_cons_zero, List.set_cons_succ]
    refine wpAnyH_ready (rs := [7]) (by kernel_rfl) (by simp) (one_list (i := 7) rfl (by rfl) (fun K hK => ?_) AllReadyH.nil)
    go_simp
    refine forget_zeros' wz _ (fun wy hY hcy hsy => ?_)
    have hcw : Chg (fun _ => False) w3 wy := hcz.trans' hcy
    rw [hsz] at hY
    refine hK _ _ (⟨hcw.range HG1.out, hcw.range HG2.out⟩) (fun hH3 => ?_)
    try simp only [Act.put, List.setIfInBounds_toArray, List.set_cons_zero, List.set_cons_succ]
    have hZx : Arr wy w3.heap.size 178 (List.replicate 64 (.int .u8 0)) := by first | exact hY | exact hcy.at hZ id
    have hZy : Arr wy (w3.heap.size + 1) 178 (List.replicate 64 (.int .u8 0)) := by first | exact hY | exact hcy.at hZ id
    have hxy : w3.heap.size ≠ (w3.heap.size + 1) := by omega
    have hbx : w3.heap.size ≤ w3.heap.size ∧ w3.heap.size ≤ (w3.heap.size + 1) := by omega
    have s1 := Arr.store hZx (vs := cellsB b1) (by rw [List.length_replicate, cellsB_length]; exact HB.out.2.2.1)
    have s2 := Arr.store (s1.chg.at hZy (by omega)) (vs := cellsB b2) (by rw [List.length_replicate, cellsB_length]; exact HB.out.2.2.2)
    have t1 := Arr.there hZx
    have t2 := Arr.there (s1.chg.at hZy (by omega) : Arr _ _ _ _)
    rw [List.length_replicate, ← HB.out.2.2.1, ← cellsB_length] at t1
    rw [List.length_replicate, ← HB.out.2.2.2, ← cellsB_length] at t2
    have hAx := s2.chg.at s1.arr (by omega)
    have hAy := s2.arr
    have hc45 : Chg (fun _ => False) w3 ((wy.setCells w3.heap.size 0 (cellsB b1)).setCells (w3.heap.size + 1) 0 (cellsB b2)) := (hcw.new s1.chg (fun i e => by have e : i = w3.heap.size := e; omega)).new s2.chg (fun i e => by have e : i = (w3.heap.size + 1) := e; omega)
    have hc44 : Chg (fun _ => False) w3 (wy.setCells w3.heap.size 0 (cellsB b1)) := hcw.new s1.chg (fun i e => by have e : i = w3.heap.size := e; omega)
    refine wpAnyH_ready (rs := [8]) (by kernel_rfl) (by simp) (one_list (i := 8) rfl (by rfl) (fun K hK => ?_) AllReadyH.nil)
    refine wp_store_mid 178 _ _ rfl (w3.heap.size) 0 (cellsB b1).toArray rfl rfl t1 HZ1.out (all_oneCell_toArray (one_cellsB b1)) ?_
    rw [List.toList_toArray]
    refine hK _ _ ⟨hc44.range HG1.out, hc44.range HG2.out⟩ (fun hH4 => ?_)
    try simp only [Act.put, List.setIfInBounds_toArray, List.set_cons_zero, List.set_cons_succ]
    refine wpAnyH_ready (rs := [9]) (by kernel_rfl) (by simp) (one_list (i := 9) rfl (by rfl) (fun K hK => ?_) AllReadyH.nil)
    refine wp_store_mid 178 _ _ rfl ((w3.heap.size + 1)) 0 (cellsB b2).toArray rfl rfl t2 HZ2.out (all_oneCell_toArray (one_cellsB b2)) ?_
    rw [List.toList_toArray]
    refine hK _ _ ⟨hc45.range HG1.out, hc45.range HG2.out⟩ (fun hH5 => ?_)
    try simp only [Act.put, List.setIfInBounds_toArray, List.set_cons_zero, List.set_cons_succ]
    refine wpAnyH_done (by kernel_rfl) ?_ _
    refine NoPanic.normal ?_
    obtain ⟨wE, hwE⟩ : ∃ wE, (wy.setCells w3.heap.size 0 (cellsB b1)).setCells (w3.heap.size + 1) 0 (cellsB b2) = wE := ⟨_, rfl⟩
    rw [hwE] at hAx hAy hc45 ⊢
    have HAx := Lib.hid hAx
    have HAy := Lib.hid hAy
    have HC5 := Lib.hid hc45
    have HXY := Lib.hid (And.intro hxy hbx)
    clear hHeld hH2 hH3 hH4 hH5 hK s1 s2 t1 t2 hAx hAy hc45 hc44 hwE hxy hbx hZx hZy hcw hZ hY hcz hcz3 hcy hsy hsz HZa hsa1 hsa2
    have HEg := Lib.hid (show Tryz.prog.eqGuardType Tryz.prog.depth 178 = false by kernel_rfl)
    go_wp2_with (first
      | (refine wpList_yields (S := fun w' => w' = wE) (yieldsIf_load_mid (by rfl) 178 _ rfl (w3.heap.size) 0 rfl (cellsB b1) _ (fun w h => h ▸ Arr.range HAx.out) Tryz.underlying178 rfl HZ1.out) rfl ?_)
      | (refine wpList_yields (S := fun w' => w' = wE) (yieldsIf_load_mid (by rfl) 178 _ rfl ((w3.heap.size + 1)) 0 rfl (cellsB b2) _ (fun w h => h ▸ Arr.range HAy.out) Tryz.underlying178 rfl HZ2.out) rfl ?_)
      | (refine wpList_yields (S := fun _ => True) (yieldsIf_eql_block (by rfl) _ _ _ rfl b1 (zeros 64) rfl rfl Tryz.underlying178 HB.out.2.2.1 rfl HEg.out) trivial ?_; rw [HD1.out])
      | (refine wpList_yields (S := fun _ => True) (yieldsIf_eql_block (by rfl) _ _ _ rfl b2 (zeros 64) rfl rfl Tryz.underlying178 HB.out.2.2.2 rfl HEg.out) trivial ?_; rw [HD2.out])
      | (go_at_call 103; fail))
    have hszw : w.heap.size ≤ w2.heap.size := (HC1.out.trans' HC2.out).size
    have hla : LogAt wE w2.heap.size d (· = w2.heap.size) Fd X ⟨0, 0, 0, [], [], [], 0, false⟩ := ⟨⟨_, _, _, HLg.out.kept HC5.out (fun _ _ h => h)⟩, H.out.kept (HC3.out.trans' HC5.out) (fun _ _ h => h), fun k hk hF => by
      have hk : k = w2.heap.size := hk
      have := H.out.lt k hF
      omega⟩
    have hbg := begin_any wE hla HFL.out.1 (fun j => by have := HFL.out.2 j; omega)
    obtain ⟨R, hR⟩ : ∃ R, putH X 1 0 0 = R := ⟨_, rfl⟩
    rw [hR] at hbg
    obtain ⟨n0, hn0⟩ : ∃ n0, R.1 = n0 := ⟨_, rfl⟩
    rw [hn0] at hbg
    obtain ⟨pv, hpv⟩ : ∃ pv, (if n0 = 0 then Value.pointer (some ⟨w2.heap.size, 0, none⟩) else Value.pointer none) = pv := ⟨_, rfl⟩
    rw [hpv] at hbg
    have hopen : openF X = if n0 ≠ 0 then (n0, R.2, none) else (0, R.2, some ⟨1, 0, 0, [], [], [], 0, false⟩) := by
      unfold openF
      rw [HN.out.2.2, if_neg (by decide), if_neg (by have := HN.out.1; omega), if_pos HXY0.out, hR, hn0]
    have HOp := Lib.hid hopen
    have HPv := Lib.hid hpv
    have HSw := Lib.hid hszw
    refine hbg.mono ?_
    rintro e w6 ⟨rfl, F', Fd', h1, h2, h3, h4⟩
    have HH := Lib.hid (And.intro h1 (And.intro h2 (And.intro h3 h4)))
    clear h1 h2 h3 h4 hbg hla hR hn0 hpv hopen hszw
    dsimp only
    go_wp2_with fail
    go_ret2
    rw [HOp.out]
    have hsE := (HC3.out.trans' HC5.out).size
    have hc : Chg Fd w w6 := ((HC3.out.trans' HC5.out).mono (fun _ _ h => h.elim)).trans HH.out.2.2.2 (fun k hk h => h.elim (fun e => by have e : k = w2.heap.size := e; have := HSw.out; omega) id)
    refine ⟨Fd', fun k hk => (HH.out.2.2.1 k hk).imp id (fun h => by omega), hc, ?_⟩
    by_cases hz : n0 = 0
    · rw [if_neg (fun h => h hz)]
      refine Or.inl ⟨_, w2.heap.size, F', rfl, ?_, ?_, fun k hk => (HH.out.2.1 k hk).elim (fun e => by have e : k = w2.heap.size := e; have := HSw.out; omega) (fun h => by omega)⟩
      · rw [← HPv.out, if_pos hz, hz]
        rfl
      · have h1 := HH.out.1
        unfold putV at h1
        rw [if_pos hz] at h1
        exact h1
    · rw [if_pos hz]
      exact Or.inr ⟨rfl, by rw [← HPv.out, if_neg hz]; rfl, HH.out.1.disk⟩
  · go_simp
    refine forget_zeros w3 _ (fun wz hZ hcz hsz => ?_)
    have HZa := Lib.hid hZ
    have hcz3 := hcz
    refine hK _ _ (⟨hcz.range HG1.out, hcz.range HG2.out⟩) (fun hH2 => ?_)
    try simp only [Act.put, List.setIfInBounds_toArray, List.set_cons_zero, List.set_cons_succ]
    refine wpAnyH_ready (rs := [6]) (by kernel_rfl) (by simp) (one_list (i := 6) rfl (by rfl) (fun K hK => ?_) AllReadyH.nil)
    go_simp
    refine forget_zeros' wz _ (fun wy hY hcy hsy => ?_)
    have hcw : Chg (fun _ => False) w3 wy := hcz.trans' hcy
    rw [hsz] at hY
    refine hK _ _ (⟨hcw.range HG1.out, hcw.range HG2.out⟩) (fun hH3 => ?_)
    try simp only [Act.put, List.setIfInBounds_toArray, List.set_cons_zero, List.set_cons_succ]
    have hZx : Arr wy (w3.heap.size + 1) 178 (List.replicate 64 (.int .u8 0)) := by first | exact hY | exact hcy.at hZ id
    have hZy : Arr wy w3.heap.size 178 (List.replicate 64 (.int .u8 0)) := by first | exact hY | exact hcy.at hZ id
    have hxy : (w3.heap.size + 1) ≠ w3.heap.size := by omega
    have hbx : w3.heap.size ≤ (w3.heap.size + 1) ∧ w3.heap.size ≤ w3.heap.size := by omega
    have s1 := Arr.store hZx (vs := cellsB b1) (by rw [List.length_replicate, cellsB_length]; exact HB.out.2.2.1)
    have s2 := Arr.store (s1.chg.at hZy (by omega)) (vs := cellsB b2) (by rw [List.length_replicate, cellsB_length]; exact HB.out.2.2.2)
    have t1 := Arr.there hZx
    have t2 := Arr.there (s1.chg.at hZy (by omega) : Arr _ _ _ _)
    rw [List.length_replicate, ← HB.out.2.2.1, ← cellsB_length] at t1
    rw [List.length_replicate, ← HB.out.2.2.2, ← cellsB_length] at t2
    have hAx := s2.chg.at s1.arr (by omega)
    have hAy := s2.arr
    have hc45 : Chg (fun _ => False) w3 ((wy.setCells (w3.heap.size + 1) 0 (cellsB b1)).setCells w3.heap.size 0 (cellsB b2)) := (hcw.new s1.chg (fun i e => by have e : i = (w3.heap.size + 1) := e; omega)).new s2.chg (fun i e => by have e : i = w3.heap.size := e; omega)
    have hc44 : Chg (fun _ => False) w3 (wy.setCells (w3.heap.size + 1) 0 (cellsB b1)) := hcw.new s1.chg (fun i e => by have e : i = (w3.heap.size + 1) := e; omega)
    refine wpAnyH_ready (rs := [8]) (by kernel_rfl) (by simp) (one_list (i := 8) rfl (by rfl) (fun K hK => ?_) AllReadyH.nil)
    refine wp_store_mid 178 _ _ rfl ((w3.heap.size + 1)) 0 (cellsB b1).toArray rfl rfl t1 HZ1.out (all_oneCell_toArray (one_cellsB b1)) ?_
    rw [List.toList_toArray]
    refine hK _ _ ⟨hc44.range HG1.out, hc44.range HG2.out⟩ (fun hH4 => ?_)
    try simp only [Act.put, List.setIfInBounds_toArray, List.set_cons_zero, List.set_cons_succ]
    refine wpAnyH_ready (rs := [9]) (by kernel_rfl) (by simp) (one_list (i := 9) rfl (by rfl) (fun K hK => ?_) AllReadyH.nil)
    refine wp_store_mid 178 _ _ rfl (w3.heap.size) 0 (cellsB b2).toArray rfl rfl t2 HZ2.out (all_oneCell_toArray (one_cellsB b2)) ?_
    rw [List.toList_toArray]
    refine hK _ _ ⟨hc45.range HG1.out, hc45.range HG2.out⟩ (fun hH5 => ?_)
    try simp only [Act.put, List.setIfInBounds_toArray, List.set_cons_zero, List.set_cons_succ]
    refine wpAnyH_done (by kernel_rfl) ?_ _
    refine NoPanic.normal ?_
    obtain ⟨wE, hwE⟩ : ∃ wE, (wy.setCells (w3.heap.size + 1) 0 (cellsB b1)).setCells w3.heap.size 0 (cellsB b2) = wE := ⟨_, rfl⟩
    rw [hwE] at hAx hAy hc45 ⊢
    have HAx := Lib.hid hAx
    have HAy := Lib.hid hAy
    have HC5 := Lib.hid hc45
    have HXY := Lib.hid (And.intro hxy hbx)
    clear hHeld hH2 hH3 hH4 hH5 hK s1 s2 t1 t2 hAx hAy hc45 hc44 hwE hxy hbx hZx hZy hcw hZ hY hcz hcz3 hcy hsy hsz HZa hsa1 hsa2
    have HEg := Lib.hid (show Tryz.prog.eqGuardType Tryz.prog.depth 178 = false by kernel_rfl)
    go_wp2_with (first
      | (refine wpList_yields (S := fun w' => w' = wE) (yieldsIf_load_mid (by rfl) 178 _ rfl ((w3.heap.size + 1)) 0 rfl (cellsB b1) _ (fun w h => h ▸ Arr.range HAx.out) Tryz.underlying178 rfl HZ1.out) rfl ?_)
      | (refine wpList_yields (S := fun w' => w' = wE) (yieldsIf_load_mid (by rfl) 178 _ rfl (w3.heap.size) 0 rfl (cellsB b2) _ (fun w h => h ▸ Arr.range HAy.out) Tryz.underlying178 rfl HZ2.out) rfl ?_)
      | (refine wpList_yields (S := fun _ => True) (yieldsIf_eql_block (by rfl) _ _ _ rfl b1 (zeros 64) rfl rfl Tryz.underlying178 HB.out.2.2.1 rfl HEg.out) trivial ?_; rw [HD1.out])
      | (refine wpList_yields (S := fun _ => True) (yieldsIf_eql_block (by rfl) _ _ _ rfl b2 (zeros 64) rfl rfl Tryz.underlying178 HB.out.2.2.2 rfl HEg.out) trivial ?_; rw [HD2.out])
      | (go_at_call 103; fail))
    have hszw : w.heap.size ≤ w2.heap.size := (HC1.out.trans' HC2.out).size
    have hla : LogAt wE w2.heap.size d (· = w2.heap.size) Fd X ⟨0, 0, 0, [], [], [], 0, false⟩ := ⟨⟨_, _, _, HLg.out.kept HC5.out (fun _ _ h => h)⟩, H.out.kept (HC3.out.trans' HC5.out) (fun _ _ h => h), fun k hk hF => by
      have hk : k = w2.heap.size := hk
      have := H.out.lt k hF
      omega⟩
    have hbg := begin_any wE hla HFL.out.1 (fun j => by have := HFL.out.2 j; omega)
    obtain ⟨R, hR⟩ : ∃ R, putH X 1 0 0 = R := ⟨_, rfl⟩
    rw [hR] at hbg
    obtain ⟨n0, hn0⟩ : ∃ n0, R.1 = n0 := ⟨_, rfl⟩
    rw [hn0] at hbg
    obtain ⟨pv, hpv⟩ : ∃ pv, (if n0 = 0 then Value.pointer (some ⟨w2.heap.size, 0, none⟩) else Value.pointer none) = pv := ⟨_, rfl⟩
    rw [hpv] at hbg
    have hopen : openF X = if n0 ≠ 0 then (n0, R.2, none) else (0, R.2, some ⟨1, 0, 0, [], [], [], 0, false⟩) := by
      unfold openF
      rw [HN.out.2.2, if_neg (by decide), if_neg (by have := HN.out.1; omega), if_pos HXY0.out, hR, hn0]
    have HOp := Lib.hid hopen
    have HPv := Lib.hid hpv
    have HSw := Lib.hid hszw
    refine hbg.mono ?_
    rintro e w6 ⟨rfl, F', Fd', h1, h2, h3, h4⟩
    have HH := Lib.hid (And.intro h1 (And.intro h2 (And.intro h3 h4)))
    clear h1 h2 h3 h4 hbg hla hR hn0 hpv hopen hszw
    dsimp only
    go_wp2_with fail
    go_ret2
    rw [HOp.out]
    have hsE := (HC3.out.trans' HC5.out).size
    have hc : Chg Fd w w6 := ((HC3.out.trans' HC5.out).mono (fun _ _ h => h.elim)).trans HH.out.2.2.2 (fun k hk h => h.elim (fun e => by have e : k = w2.heap.size := e; have := HSw.out; omega) id)
    refine ⟨Fd', fun k hk => (HH.out.2.2.1 k hk).imp id (fun h => by omega), hc, ?_⟩
    by_cases hz : n0 = 0
    · rw [if_neg (fun h => h hz)]
      refine Or.inl ⟨_, w2.heap.size, F', rfl, ?_, ?_, fun k hk => (HH.out.2.1 k hk).elim (fun e => by have e : k = w2.heap.size := e; have := HSw.out; omega) (fun h => by omega)⟩
      · rw [← HPv.out, if_pos hz, hz]
        rfl
      · have h1 := HH.out.1
        unfold putV at h1
        rw [if_pos hz] at h1
        exact h1
    · rw [if_pos hz]
      exact Or.inr ⟨rfl, by rw [← HPv.out, if_neg hz]; rfl, HH.out.1.disk⟩

end Go.Proofs.YtbjagmlbamjdbaaGreat.wals
end

/-
  wal: Open of a log that stands.
-/
section
set_option linter.unusedSimpArgs false
set_option linter.unusedVariables false
namespace Go.Proofs.YtbjagmlbamjdbaaGreat.wals
open Go.RowKit Go.My disks bufs
set_option maxRecDepth 100000

variable {w w' : World} {l d : Nat} {F Fd : Nat → Prop} {X : DV} {V : LV} {rv tv wv : Value}

end Go.Proofs.YtbjagmlbamjdbaaGreat.wals
end

/-
  wal: the plain law, for logs: what Open, Add, Sync, Reset leave, over a disk on which records stand.
-/
section
set_option linter.unusedSimpArgs false
set_option linter.unusedVariables false
namespace Go.Proofs.YtbjagmlbamjdbaaGreat.wals
open Go.My disks

/-- The log of records that stand, with some that wait. -/
def lvW (recs : List Blk) (s a : Nat) (wait : List Blk) : LV := ⟨s, a, (framesB recs).length, recs, (framesB recs).drop ((framesB recs).length / 64 * 64), wait, sizeB wait, false⟩
theorem Idle.crash {X : DV} (h : Idle X) (keep : List Int) : Idle (X.crash keep) ∧ (X.crash keep).B = X.B := by
  have hb : (X.crash keep).B = X.B := by
    apply List.ext_getElem?
    intro i
    by_cases hi : i < X.B.length
    · exact (crash_keeps X keep hi).2.1 (h.L i)
    · rw [List.getElem?_eq_none (by rw [crash_B_len]; omega), List.getElem?_eq_none (by omega)]
  exact ⟨⟨rfl, fun i => crash_L_nil X keep (fun i _ => h.L i) i, by rw [hb]; exact h.ge, by rw [hb]; exact h.le, by rw [hb]; exact h.w64⟩, hb⟩

theorem Stands.same {X Y : DV} {recs : List Blk} {s a : Nat} (h : Stands X recs s a) (hY : Idle Y) (hB : Y.B = X.B) : Stands Y recs s a :=
  ⟨hY, h.s1, h.area, h.short, by rw [hB]; exact h.fits, by rw [hB]; exact h.head, by rw [hB]; exact h.other, by rw [hB]; exact h.data⟩
theorem Stands.crash {X : DV} {recs : List Blk} {s a : Nat} (h : Stands X recs s a) (keep : List Int) : Stands (X.crash keep) recs s a :=
  h.same (h.idle.crash keep).1 (h.idle.crash keep).2
theorem Blank.crash {X : DV} (h : Blank X) (keep : List Int) : Blank (X.crash keep) :=
  ⟨(h.idle.crash keep).1, by rw [(h.idle.crash keep).2]; exact h.x, by rw [(h.idle.crash keep).2]; exact h.y⟩

/-- Another fuse. -/
theorem Idle.set {X : DV} (h : Idle X) (n : Int) : Idle (X.set n) ∧ (X.set n).B = X.B := by
  unfold DV.set
  split
  · exact ⟨h, rfl⟩
  · exact ⟨⟨h.up, h.L, h.ge, h.le, h.w64⟩, rfl⟩

theorem lvW_ok {X : DV} {recs wait : List Blk} {s a : Nat} (h : Stands X recs s a) (hs : s ≤ 1152921504606846976) (hw : ∀ r ∈ wait, r.length ≤ 4096) (hfit : (framesB recs).length + sizeB wait ≤ 64 * areaN X.B.length) : (lvW recs s a wait).Ok X.B.length where
  ge := h.idle.ge
  le := h.idle.le
  seq := hs
  area := h.area
  fit := hfit
  used := framesB_length recs
  more := rfl
  tail := by show ((framesB recs).drop _).length = (framesB recs).length % 64; rw [List.length_drop]; omega
  short := hw

theorem Idle.zero (n : Nat) (h1 : 6 ≤ n) (h2 : n ≤ 4096) : Idle (DV.new n) where
  up := rfl
  L := fun _ => rfl
  ge := by show 6 ≤ (List.replicate n zeroBlk).length; rw [List.length_replicate]; exact h1
  le := by show (List.replicate n zeroBlk).length ≤ 4096; rw [List.length_replicate]; exact h2
  w64 := fun b hb => by
    have : b = zeroBlk := (List.mem_replicate.1 hb).2
    rw [this]; rfl
theorem Blank.new (n : Nat) (h1 : 6 ≤ n) (h2 : n ≤ 4096) : Blank (DV.new n) := by
  refine ⟨Idle.zero n h1 h2, ?_, ?_⟩
  · show (List.replicate n zeroBlk)[0]? = _
    rw [List.getElem?_replicate, if_pos (by omega)]; rfl
  · show (List.replicate n zeroBlk)[1]? = _
    rw [List.getElem?_replicate, if_pos (by omega)]; rfl
theorem Blank.cur {X : DV} (h : Blank X) : X.cur 0 = zeros 64 ∧ X.cur 1 = zeros 64 := by
  rw [h.idle.cur, h.idle.cur, h.x, h.y]; exact ⟨rfl, rfl⟩

/-- Open of a blank disk: an empty log, or cut off. -/
theorem blank_open {X : DV} (h : Blank X) : ∀ R, openF X = R → Goes X R.2.1 ∧ R.2.1.B.length = X.B.length ∧
    ((R.1 = 0 ∧ R.2.2 = some (lvW [] 1 0 []) ∧ Stands R.2.1 [] 1 0) ∨
     (R.1 = 15 ∧ R.2.2 = none ∧ X.fuse ≠ -1 ∧ R.2.1.down = true ∧ (∀ j, (R.2.1.L j).length ≤ 1) ∧ ∀ keep, Blank (R.2.1.crash keep) ∨ Stands (R.2.1.crash keep) [] 1 0)) := by
  rintro R rfl
  have h6 := h.idle.ge
  obtain ⟨g, hl, hp⟩ := putH_spec h.idle.up h.idle.L (by omega) 1 0 0
  have ho : openF X = if (putH X 1 0 0).1 ≠ 0 then ((putH X 1 0 0).1, (putH X 1 0 0).2, none) else (0, (putH X 1 0 0).2, some ⟨1, 0, 0, [], [], [], 0, false⟩) := by
    unfold openF
    rw [if_neg (by simp [h.idle.up]), if_neg (by omega), if_pos h.cur]
  have w64 : ∀ (B : List Blk), B = X.B.set 1 (headB 1 0 0) → ∀ b ∈ B, b.length = 64 := by
    rintro B rfl b hb
    rcases List.mem_or_eq_of_mem_set hb with hb | rfl
    · exact h.idle.w64 b hb
    · exact headB_length _ _ _
  rcases hp with ⟨e, d, l, b⟩ | ⟨e, f, d, b, l⟩
  · rw [ho, if_neg (by simp [e])]
    refine ⟨g, hl, Or.inl ⟨rfl, rfl, h.first ⟨d, l, by rw [hl]; exact h6, by rw [hl]; exact h.idle.le, w64 _ b⟩ b⟩⟩
  · rw [ho, if_pos (by simp [e])]
    refine ⟨g, hl, Or.inr ⟨e, rfl, f, d, fun j => ?_, fun keep => ?_⟩⟩
    · rcases l with l | l
      · show ((putH X 1 0 0).2.L j).length ≤ 1; rw [l]; simp
      · show ((putH X 1 0 0).2.L j).length ≤ 1; rw [l]; split <;> simp
    · show Blank ((putH X 1 0 0).2.crash keep) ∨ Stands ((putH X 1 0 0).2.crash keep) [] 1 0
      generalize (putH X 1 0 0).2 = Y at *
      have hlY : ∀ i, Y.B.length ≤ i → Y.L i = [] := fun i hi => by
        rcases l with l | l
        · exact l i
        · rw [l, if_neg (by omega)]
      have hI : (Y.crash keep).B = X.B ∨ (Y.crash keep).B = X.B.set 1 (headB 1 0 0) := by
        have hother : ∀ i, i ≠ 1 → (Y.crash keep).B[i]? = X.B[i]? := fun i hi => by
          by_cases hlt : i < Y.B.length
          · have hLi : Y.L i = [] := by
              rcases l with l | l
              · exact l i
              · rw [l, if_neg (by omega)]
            rw [(crash_keeps Y keep hlt).2.1 hLi, b]
          · rw [List.getElem?_eq_none (by rw [crash_B_len]; omega), List.getElem?_eq_none (by omega)]
        rcases crash_mem Y keep (i := 1) (by omega) with e1 | ⟨x, hx, e1⟩
        · refine Or.inl (List.ext_getElem? (fun i => ?_))
          by_cases hi : i = 1
          · subst hi; rw [e1, b]
          · exact hother i hi
        · refine Or.inr (List.ext_getElem? (fun i => ?_))
          by_cases hi : i = 1
          · subst hi
            rw [e1, List.getElem?_set_self (by omega)]
            rcases l with l | l
            · rw [l] at hx; cases hx
            · rw [l, if_pos rfl, List.mem_singleton] at hx; rw [hx]
          · rw [hother i hi, List.getElem?_set_ne (fun e => hi e.symm)]
      have hId : Idle (Y.crash keep) := by
        refine ⟨rfl, fun i => crash_L_nil Y keep hlY i, by rw [crash_B_len, hl]; exact h6, by rw [crash_B_len, hl]; exact h.idle.le, ?_⟩
        rcases hI with e1 | e1
        · rw [e1]; exact h.idle.w64
        · exact w64 _ e1
      rcases hI with e1 | e1
      · exact Or.inl ⟨hId, by rw [e1]; exact h.x, by rw [e1]; exact h.y⟩
      · exact Or.inr (h.first hId e1)

theorem Stands.bytes {X : DV} {recs : List Blk} {s a : Nat} (h : Stands X recs s a) : (bytesOf X (firstN X.B.length a) (((framesB recs).length + 63) / 64)).take (framesB recs).length = framesB recs := by
  have hi := area_in h.idle.ge h.area
  have hf := h.fits
  exact data_read h.idle h.data (by omega)

/-- Sync: whole, or cut off. -/
theorem sync_lv {X : DV} {recs wait : List Blk} {s a : Nat} (h : Stands X recs s a) (hw : ∀ r ∈ wait, r.length ≤ 4096) (hfit : (framesB recs).length + sizeB wait ≤ 64 * areaN X.B.length) :
    ∀ R, syncF X (lvW recs s a wait) = R → Goes X R.2.1 ∧ R.2.1.B.length = X.B.length ∧
    ((R.1 = 0 ∧ ∃ s', s ≤ s' ∧ s' ≤ s + 1 ∧ Stands R.2.1 (recs ++ wait) s' a ∧ R.2.2 = lvW (recs ++ wait) s' a []) ∨
     (R.1 = 15 ∧ X.fuse ≠ -1 ∧ R.2.1.down = true ∧ (∀ j, (R.2.1.L j).length ≤ 1) ∧ R.2.2 = { lvW recs s a wait with lost := true } ∧ ∀ keep, Stands (R.2.1.crash keep) recs s a ∨ Stands (R.2.1.crash keep) (recs ++ wait) (s + 1) a)) := by
  rintro R rfl
  by_cases hn : wait = []
  · subst hn
    have : syncF X (lvW recs s a []) = (0, X, lvW recs s a []) := by unfold syncF; rw [if_neg (by simp [lvW]), if_pos (show (lvW recs s a []).wait = [] from rfl)]
    rw [this]
    exact ⟨Goes.refl X, rfl, Or.inl ⟨rfl, s, Nat.le_refl _, by omega, by rw [List.append_nil]; exact h, by rw [List.append_nil]⟩⟩
  · have hfa : framesB (recs ++ wait) = framesB recs ++ framesB wait := framesB_append _ _
    have hfl : (framesB (recs ++ wait)).length = (framesB recs).length + (framesB wait).length := by rw [hfa, List.length_append]
    have hsp := sync_spec h hw (by rw [hfl, framesB_length wait]; exact hfit) _ rfl
    have hl : ∀ Q, layF X (firstN X.B.length a + (framesB recs).length / 64) ((framesB recs).drop ((framesB recs).length / 64 * 64) ++ framesB wait) (s + 1) a (framesB (recs ++ wait)).length = Q →
      syncF X (lvW recs s a wait) = if Q.1 ≠ 0 then (Q.1, Q.2, { lvW recs s a wait with lost := true }) else (0, Q.2, ⟨s + 1, a, (framesB (recs ++ wait)).length, recs ++ wait, ((framesB recs).drop ((framesB recs).length / 64 * 64) ++ framesB wait).drop (((framesB recs).drop ((framesB recs).length / 64 * 64) ++ framesB wait).length / 64 * 64), [], 0, false⟩) := by
      rintro Q rfl
      rw [hfl]
      unfold syncF
      rw [if_neg (by simp [lvW]), if_neg (by simpa [lvW] using hn)]
      rfl
    have htail : ((framesB recs).drop ((framesB recs).length / 64 * 64) ++ framesB wait).drop (((framesB recs).drop ((framesB recs).length / 64 * 64) ++ framesB wait).length / 64 * 64) = (framesB (recs ++ wait)).drop ((framesB (recs ++ wait)).length / 64 * 64) := by
      have e1 : (framesB recs).drop ((framesB recs).length / 64 * 64) ++ framesB wait = (framesB (recs ++ wait)).drop ((framesB recs).length / 64 * 64) := by
        rw [hfa, List.drop_append_of_le_length (by omega)]
      rw [e1, List.drop_drop, List.length_drop]
      congr 1
      omega
    generalize hQ : layF X (firstN X.B.length a + (framesB recs).length / 64) ((framesB recs).drop ((framesB recs).length / 64 * 64) ++ framesB wait) (s + 1) a (framesB (recs ++ wait)).length = Q at hsp
    rw [hl Q hQ]
    obtain ⟨g, hbl, hr⟩ := hsp
    rcases hr with ⟨e, hst⟩ | ⟨e, f, d, q, hk⟩
    · rw [if_neg (by simp [e])]
      exact ⟨g, hbl, Or.inl ⟨rfl, s + 1, by omega, Nat.le_refl _, hst, by rw [htail]; rfl⟩⟩
    · rw [if_pos (by simp [e])]
      exact ⟨g, hbl, Or.inr ⟨e, f, d, q, rfl, hk⟩⟩

/-- Reset: refused, whole, or cut off. -/
theorem reset_lv {X : DV} {recs recs2 wait : List Blk} {s a : Nat} (h : Stands X recs s a) :
    ∀ R, resetF X (lvW recs s a wait) recs2 = R →
    ((wait ≠ [] ∧ R = (11, X, lvW recs s a wait)) ∨ (wait = [] ∧ (∃ r ∈ recs2, 4096 < r.length) ∧ R = (3, X, lvW recs s a [])) ∨ (wait = [] ∧ (∀ r ∈ recs2, r.length ≤ 4096) ∧ 64 * areaN X.B.length < sizeB recs2 ∧ R = (7, X, lvW recs s a [])) ∨
     (wait = [] ∧ (∀ r ∈ recs2, r.length ≤ 4096) ∧ sizeB recs2 ≤ 64 * areaN X.B.length ∧ Goes X R.2.1 ∧ R.2.1.B.length = X.B.length ∧
      ((R.1 = 0 ∧ Stands R.2.1 recs2 (s + 1) (1 - a) ∧ R.2.2 = lvW recs2 (s + 1) (1 - a) []) ∨
       (R.1 = 15 ∧ X.fuse ≠ -1 ∧ R.2.1.down = true ∧ (∀ j, (R.2.1.L j).length ≤ 1) ∧ R.2.2 = { lvW recs s a [] with lost := true } ∧ ∀ keep, Stands (R.2.1.crash keep) recs s a ∨ Stands (R.2.1.crash keep) recs2 (s + 1) (1 - a))))) := by
  rintro R rfl
  by_cases hn : wait = []
  · subst hn
    by_cases hb : ∃ r ∈ recs2, 4096 < r.length
    · refine Or.inr (Or.inl ⟨rfl, hb, ?_⟩)
      unfold resetF
      rw [if_neg (by simp [lvW]), if_neg (by simp [lvW]), if_pos hb]
    · have hb' : ∀ r ∈ recs2, r.length ≤ 4096 := fun r hr => Nat.le_of_not_lt (fun h => hb ⟨r, hr, h⟩)
      by_cases hf : 64 * areaN X.B.length < sizeB recs2
      · refine Or.inr (Or.inr (Or.inl ⟨rfl, hb', hf, ?_⟩))
        unfold resetF
        rw [if_neg (by simp [lvW]), if_neg (by simp [lvW]), if_neg hb, if_pos hf]
      · refine Or.inr (Or.inr (Or.inr ⟨rfl, hb', by omega, ?_⟩))
        have hsp := reset_spec h hb' (by rw [framesB_length]; omega) _ rfl
        have hl : ∀ Q, layF X (firstN X.B.length (1 - a)) (framesB recs2) (s + 1) (1 - a) (framesB recs2).length = Q →
          resetF X (lvW recs s a []) recs2 = if Q.1 ≠ 0 then (Q.1, Q.2, { lvW recs s a [] with lost := true }) else (0, Q.2, lvW recs2 (s + 1) (1 - a) []) := by
          rintro Q rfl
          unfold resetF
          rw [if_neg (by simp [lvW]), if_neg (by simp [lvW]), if_neg hb, if_neg hf]
          rfl
        generalize hQ : layF X (firstN X.B.length (1 - a)) (framesB recs2) (s + 1) (1 - a) (framesB recs2).length = Q at hsp
        rw [hl Q hQ]
        obtain ⟨g, hbl, hr⟩ := hsp
        rcases hr with ⟨e, hst⟩ | ⟨e, f, d, q, hk⟩
        · rw [if_neg (by simp [e])]
          exact ⟨g, hbl, Or.inl ⟨rfl, hst, rfl⟩⟩
        · rw [if_pos (by simp [e])]
          exact ⟨g, hbl, Or.inr ⟨e, f, d, q, rfl, hk⟩⟩
  · refine Or.inl ⟨hn, ?_⟩
    unfold resetF
    rw [if_neg (by simp [lvW]), if_pos (by simpa [lvW] using hn)]

/-- Add: refused, or one more waits. -/
theorem add_lv {n : Nat} {recs wait : List Blk} {s a : Nat} (r : Blk) : addF n (lvW recs s a wait) r =
    if 4096 < r.length then (3, lvW recs s a wait) else if roomF n (lvW recs s a wait) < (r.length : Int) + 8 then (7, lvW recs s a wait) else (0, lvW recs s a (wait ++ [r])) := by
  unfold addF
  rw [if_neg (by simp [lvW])]
  have : sizeB (wait ++ [r]) = sizeB wait + (r.length + 8) := by simp [sizeB]
  show (if _ then _ else if _ then _ else _) = _
  rw [show lvW recs s a (wait ++ [r]) = { lvW recs s a wait with wait := wait ++ [r], more := sizeB wait + (r.length + 8) } by unfold lvW; rw [this]]
  rfl

end Go.Proofs.YtbjagmlbamjdbaaGreat.wals
end

/-
  wal: Open of a disk on which records stand, of a blank one.
-/
section
set_option linter.unusedSimpArgs false
set_option linter.unusedVariables false
namespace Go.Proofs.YtbjagmlbamjdbaaGreat.wals
open Go.RowKit Go.My disks bufs
set_option maxRecDepth 100000

variable {w w' : World} {l d : Nat} {F Fd : Nat → Prop} {X : DV} {V : LV} {rv tv wv : Value}

theorem open_of_blank (w : World) (h : DiskAt w d Fd X) (hb : Blank X) (hf : X.fuse ≤ 9223372036854775807) :
    Calls Tryz.prog 58 #[.pointer (some ⟨d, 0, none⟩)] w (OpenPost w d Fd (openF X)) :=
  open_blank w h hb.idle.up hb.idle.ge hb.idle.le hf (fun j => by rw [hb.idle.L]; simp) hb.cur.1 hb.cur.2

/-- Open of a blank disk that is not cut off. -/
theorem open_new (w : World) (h : DiskAt w d Fd X) (hb : Blank X) (hf : X.fuse = -1) :
    Calls Tryz.prog 58 #[.pointer (some ⟨d, 0, none⟩)] w fun e w' => ∃ l F' Fd' X', e = .returned (.tuple #[.pointer (some ⟨l, 0, none⟩), .int .i64 0]) ∧ LogAt w' l d F' Fd' X' (lvW [] 1 0 []) ∧ Stands X' [] 1 0 ∧ X'.fuse = -1 ∧ X'.B.length = X.B.length ∧
      (∀ k, F' k → w.heap.size ≤ k) ∧ (∀ k, Fd' k → Fd k ∨ w.heap.size ≤ k) ∧ Chg Fd w w' := by
  refine (open_of_blank w h hb (by omega)).mono ?_
  rintro e w' ⟨Fd', h1, h2, h3⟩
  obtain ⟨g, hl, hr⟩ := blank_open hb _ rfl
  rcases hr with ⟨e1, e2, e3⟩ | ⟨e1, e2, e3, -⟩
  · rcases h3 with ⟨V, l, F', k1, k2, k3, k4⟩ | ⟨k1, -⟩
    · rw [e2] at k1
      cases k1
      exact ⟨l, F', Fd', _, k2, k3, e3, g.free hf, hl, k4, h1, h2⟩
    · rw [e2] at k1; cases k1
  · exact absurd hf e3

end Go.Proofs.YtbjagmlbamjdbaaGreat.wals
end

/-
  small: the law's texts, cut; Same: two lists of texts.
-/
section
set_option linter.unusedSimpArgs false
set_option linter.unusedVariables false
namespace Go.Proofs.YtbjagmlbamjdbaaGreat.wals
open Go.RowKit Go.My disks bufs
set_option maxRecDepth 100000

variable {w w' : World}

theorem str_take (r : Blk) (n : Nat) : (⟨r.toArray⟩ : ByteArray).extract 0 n = ⟨(r.take n).toArray⟩ := by
  rw [Lib.extract_eq]; simp

/-- The text at a place of an own row of texts, in any world that keeps the row. -/
theorem row_cell {w : World} {base n : Nat} {oa : Option Addr} {m cap : Nat} {l : List Blk} (h : w.ownsRow base 9 1 (.slice oa m cap) n (l.map strV)) {k : Nat} {r : Blk} (hr : l[k]? = some r) :
    ∃ g, oa = some ⟨g, 0, none⟩ ∧ base ≤ g ∧ g < w.heap.size ∧ ∀ (S : Nat → Prop) w', Chg S w w' → ¬ S g → w'.cell? ⟨g, k, none⟩ = some (strV r) := by
  have hk : k < l.length := (List.getElem?_eq_some_iff.1 hr).1
  rcases h.2 with ⟨h1, h0⟩ | ⟨g, c, cur, h1, hb, hg, -⟩
  · have := h.1
    rw [List.length_map] at this
    omega
  · simp only [Value.slice.injEq] at h1
    obtain ⟨rfl, -, -⟩ := h1
    refine ⟨g, rfl, hb, lt_of_block hg, fun S w' hc hS => ?_⟩
    have h2 := row_kept h hc (fun g' hg' => by simp only [Value.ownBlock, Option.some.injEq] at hg'; rw [← hg']; exact hS)
    obtain ⟨b, off, e1, -, e3⟩ := SlAt.cell (SlAt.of_own h2) (k := k) (by rw [List.length_map]; exact hk)
    simp only [Option.some.injEq, Addr.mk.injEq, and_true] at e1
    obtain ⟨rfl, rfl⟩ := e1
    rw [Nat.zero_add] at e3
    rw [e3, List.getElem_map]
    congr 2
    exact (List.getElem?_eq_some_iff.1 hr).2

end Go.Proofs.YtbjagmlbamjdbaaGreat.wals
end

/-
  wal: a record that is synced is there when the log is opened again.
-/
section
set_option linter.unusedSimpArgs false
set_option linter.unusedVariables false
namespace Go.Proofs.YtbjagmlbamjdbaaGreat.wals
open Go.RowKit Go.My disks bufs
set_option maxRecDepth 100000

variable {w w' : World} {l d : Nat} {F Fd : Nat → Prop} {X : DV} {V : LV} {rv tv wv : Value}

theorem DV.new_len (n : Nat) : (DV.new n).B.length = n := by show (List.replicate n zeroBlk).length = n; rw [List.length_replicate]

/-- A log and its disk: of the blocks P, and of such that are new since W; of all else nothing has changed. -/
structure WAt (P : Nat → Prop) (W w : World) (l d : Nat) (X : DV) (V : LV) : Prop where
  at' : ∃ F Fd, LogAt w l d F Fd X V ∧ ∀ k, F k ∨ Fd k → P k ∨ W.heap.size ≤ k
  chg : Chg P W w
structure DAt (P : Nat → Prop) (W w : World) (d : Nat) (X : DV) : Prop where
  at' : ∃ Fd, DiskAt w d Fd X ∧ ∀ k, Fd k → P k ∨ W.heap.size ≤ k
  chg : Chg P W w

variable {W : World} {P : Nat → Prop}
theorem chg_more {S : Nat → Prop} (h : Chg P W w) (hc : Chg S w w') (hs : ∀ k, S k → P k ∨ W.heap.size ≤ k) : Chg P W w' :=
  h.trans hc (fun k hk hS => (hs k hS).elim id (fun h => by omega))
theorem WAt.fresh (h : WAt P W w l d X V) (hc : Chg (fun _ => False) w w') : WAt P W w' l d X V := by
  obtain ⟨⟨F, Fd, h1, h2⟩, h3⟩ := h
  exact ⟨⟨F, Fd, h1.fresh hc, h2⟩, chg_more h3 hc (fun _ h => h.elim)⟩
theorem DAt.fresh (h : DAt P W w d X) (hc : Chg (fun _ => False) w w') : DAt P W w' d X := by
  obtain ⟨⟨Fd, h1, h2⟩, h3⟩ := h
  exact ⟨⟨Fd, h1.fresh hc, h2⟩, chg_more h3 hc (fun _ h => h.elim)⟩
theorem WAt.disk (h : WAt P W w l d X V) : DAt P W w d X := by
  obtain ⟨⟨F, Fd, h1, h2⟩, h3⟩ := h
  exact ⟨⟨Fd, h1.disk, fun k hk => h2 k (Or.inr hk)⟩, h3⟩
/-- The same, seen from the world as it is now. -/
def NowP (P : Nat → Prop) (W w : World) : Nat → Prop := fun k => (P k ∨ W.heap.size ≤ k) ∧ k < w.heap.size
theorem WAt.now (h : WAt P W w l d X V) : WAt (NowP P W w) w w l d X V := by
  obtain ⟨⟨F, Fd, h1, h2⟩, h3⟩ := h
  exact ⟨⟨F, Fd, h1, fun k hk => Or.inl ⟨h2 k hk, h1.lt k hk⟩⟩, Chg.refl _ _⟩
theorem WAt.rest (h : WAt P W w l d X V) (hc : Chg (fun _ => False) w w') : WAt (NowP P W w) w' w' l d X V := by
  obtain ⟨⟨F, Fd, h1, h2⟩, h3⟩ := h
  exact ⟨⟨F, Fd, h1.fresh hc, fun k hk => Or.inl ⟨h2 k hk, h1.lt k hk⟩⟩, Chg.refl _ _⟩
theorem DAt.rest (h : DAt P W w d X) (hc : Chg (fun _ => False) w w') : DAt (NowP P W w) w' w' d X := by
  obtain ⟨⟨Fd, h1, h2⟩, h3⟩ := h
  exact ⟨⟨Fd, h1.fresh hc, fun k hk => Or.inl ⟨h2 k hk, h1.lt k hk⟩⟩, Chg.refl _ _⟩
theorem chg_now {w0 : World} (h : Chg P W w0) (hc : Chg (NowP P W w) w0 w') : Chg P W w' :=
  chg_more h hc (fun _ hk => hk.1)
theorem WAt.back {w0 : World} (hl : WAt (NowP P W w) w0 w' l d X V) (h : Chg P W w0) : WAt P W w' l d X V := by
  obtain ⟨⟨F, Fd, h1, h2⟩, h3⟩ := hl
  exact ⟨⟨F, Fd, h1, fun k hk => (h2 k hk).elim (fun h => h.1) (fun h' => Or.inr (Nat.le_trans h.size h'))⟩, chg_more h h3 (fun _ hk => hk.1)⟩

theorem wat_records (h : WAt P W w l d X V) (hr : V.recs.length ≤ 131008) : Calls Tryz.prog 59 #[.pointer (some ⟨l, 0, none⟩)] w fun e w' => ∃ v, e = .returned v ∧ w'.ownsRow w.heap.size 9 1 v V.recs.length (V.recs.map strV) ∧ Chg (fun _ => False) w w' := by
  obtain ⟨⟨F, Fd, h1, h2⟩, h3⟩ := h
  exact records_any w h1 hr
theorem WAt.post (h3 : Chg P W w) {F' Fd' : Nat → Prop} {l' : Nat} {X' : DV} {V' : LV} (h2 : ∀ k, F k ∨ Fd k → P k ∨ W.heap.size ≤ k) (k1 : LogAt w' l' d F' Fd' X' V') (k2 : ∀ k, F' k → F k ∨ w.heap.size ≤ k) (k3 : ∀ k, Fd' k → Fd k ∨ w.heap.size ≤ k) {S : Nat → Prop} (hS : ∀ k, S k → F k ∨ Fd k) (k4 : Chg S w w') : WAt P W w' l' d X' V' :=
  ⟨⟨F', Fd', k1, fun k hk => hk.elim (fun h => (k2 k h).elim (fun h => h2 k (Or.inl h)) (fun h => Or.inr (Nat.le_trans h3.size h))) (fun h => (k3 k h).elim (fun h => h2 k (Or.inr h)) (fun h => Or.inr (Nat.le_trans h3.size h)))⟩, chg_more h3 k4 (fun k hk => h2 k (hS k hk))⟩
theorem wat_add (h : WAt P W w l d X V) (hV : V.Ok X.B.length) (r : Blk) (hr : r.length ≤ 1000000000000) : Calls Tryz.prog 67 #[.pointer (some ⟨l, 0, none⟩), strV r] w fun e w' => e = .returned (.int .i64 ((addF X.B.length V r).1 : Int)) ∧ WAt P W w' l d X (addF X.B.length V r).2 := by
  obtain ⟨⟨F, Fd, h1, h2⟩, h3⟩ := h
  refine (add_any w h1 hV r hr).mono ?_
  rintro e w' ⟨rfl, F', k1, k2, k3⟩
  exact ⟨rfl, WAt.post h3 h2 k1 k2 (fun k hk => Or.inl hk) (fun k hk => Or.inl hk) k3⟩
theorem wat_sync (h : WAt P W w l d X V) (hV : V.Ok X.B.length) (hf : X.fuse ≤ 9223372036854775807) (hL : ∀ j, (X.L j).length < 500000) : Calls Tryz.prog 68 #[.pointer (some ⟨l, 0, none⟩)] w fun e w' => e = .returned (.int .i64 (syncF X V).1) ∧ WAt P W w' l d (syncF X V).2.1 (syncF X V).2.2 := by
  obtain ⟨⟨F, Fd, h1, h2⟩, h3⟩ := h
  refine (sync_any w h1 hV hf hL).mono ?_
  rintro e w' ⟨rfl, F', Fd', k1, k2, k3, k4⟩
  exact ⟨rfl, WAt.post h3 h2 k1 k2 k3 (fun _ h => h) k4⟩
theorem wat_reset (h : WAt P W w l d X V) (hV : V.Ok X.B.length) (hf : X.fuse ≤ 9223372036854775807) (hL : ∀ j, (X.L j).length < 500000) (recs : List Blk) (rsv : Value) (hrs : SlAt w rsv (recs.map strV)) (hbf : ∀ g, rsv.ownBlock = some g → ¬ P g ∧ g < W.heap.size) (hn : recs.length ≤ 1000000000) (hlen : ∀ r ∈ recs, r.length ≤ 1000000000000) :
    Calls Tryz.prog 70 #[.pointer (some ⟨l, 0, none⟩), rsv] w fun e w' => e = .returned (.int .i64 (resetF X V recs).1) ∧ WAt P W w' l d (resetF X V recs).2.1 (resetF X V recs).2.2 := by
  obtain ⟨⟨F, Fd, h1, h2⟩, h3⟩ := h
  refine (reset_any w h1 hV hf hL recs rsv hrs (fun g hg hF => (h2 g hF).elim (hbf g hg).1 (fun h => by have := (hbf g hg).2; omega)) hn hlen).mono ?_
  rintro e w' ⟨rfl, F', Fd', k1, k2, k3, k4⟩
  exact ⟨rfl, WAt.post h3 h2 k1 k2 k3 (fun _ h => h) k4⟩
theorem WAt.opened (h3 : Chg P W w) {F' Fd' Fd : Nat → Prop} {l' : Nat} {X' : DV} {V' : LV} (h2 : ∀ k, Fd k → P k ∨ W.heap.size ≤ k) (k1 : LogAt w' l' d F' Fd' X' V') (k2 : ∀ k, F' k → w.heap.size ≤ k) (k3 : ∀ k, Fd' k → Fd k ∨ w.heap.size ≤ k) (k4 : Chg Fd w w') : WAt P W w' l' d X' V' :=
  WAt.post (F := fun _ => False) h3 (fun k hk => hk.elim (fun h => h.elim) (h2 k)) k1 (fun k hk => Or.inr (k2 k hk)) k3 (fun k hk => Or.inr hk) k4
theorem wat_open_new (h : DAt P W w d X) (hb : Blank X) (hf : X.fuse = -1) :
    Calls Tryz.prog 58 #[.pointer (some ⟨d, 0, none⟩)] w fun e w' => ∃ l X', e = .returned (.tuple #[.pointer (some ⟨l, 0, none⟩), .int .i64 0]) ∧ WAt P W w' l d X' (lvW [] 1 0 []) ∧ Stands X' [] 1 0 ∧ X'.fuse = -1 ∧ X'.B.length = X.B.length := by
  obtain ⟨⟨Fd, h1, h2⟩, h3⟩ := h
  refine (open_new w h1 hb hf).mono ?_
  rintro e w' ⟨l, F', Fd', X', rfl, j3, j5, j6, j7, j4, k1, k2⟩
  exact ⟨l, X', rfl, WAt.opened h3 h2 j3 j4 k1 k2, j5, j6, j7⟩
theorem dat_new (w : World) (n : Nat) (h1 : 1 ≤ n) (hn : n ≤ 4096) : Calls Tryz.prog 25 #[.int .i64 (n : Int)] w fun e w' => ∃ d, e = .returned (.tuple #[.pointer (some ⟨d, 0, none⟩), .int .i64 0]) ∧ DAt (fun _ => False) w w' d (DV.new n) := by
  refine (disks.new_any w n h1 hn).mono ?_
  rintro e w' ⟨d, rfl, k1, k2⟩
  exact ⟨d, rfl, ⟨_, k1, fun k hk => Or.inr hk.1⟩, k2⟩

end Go.Proofs.YtbjagmlbamjdbaaGreat.wals
end

/-
  wal: lists of texts that stay as they are; Reset, Open over the laws' state.
-/
section
set_option linter.unusedSimpArgs false
set_option linter.unusedVariables false
namespace Go.Proofs.YtbjagmlbamjdbaaGreat.wals
open Go.RowKit Go.My disks bufs
set_option maxRecDepth 100000

variable {w w' W : World} {l d : Nat} {F Fd P : Nat → Prop} {X : DV} {V : LV}

/-- A list of texts that stays, as long as nothing but P and new blocks change. -/
structure Kp (P : Nat → Prop) (W : World) (v : Value) (l : List Blk) : Prop where
  at' : ∀ w', Chg P W w' → SlAt w' v (l.map strV)
  off : ∀ g, v.ownBlock = some g → ¬ P g ∧ g < W.heap.size

theorem Kp.of_own {base n : Nat} {v : Value} {rs : List Blk} (h : W.ownsRow base 9 1 v n (rs.map strV)) (hP : ∀ g, base ≤ g → ¬ P g) : Kp P W v rs :=
  ⟨fun _ hc => SlAt.of_own (row_kept h hc (fun g hg => hP g (h.lt g hg).1)), fun g hg => ⟨hP g (h.lt g hg).1, (h.lt g hg).2⟩⟩
theorem Kp.now {v : Value} {rs : List Blk} (h : Kp P W v rs) (hc : Chg P W w) : Kp (NowP P W w) w v rs :=
  ⟨fun w' h' => h.at' w' (chg_now hc h'), fun g hg => ⟨fun hN => hN.1.elim (h.off g hg).1 (fun h' => by have := (h.off g hg).2; omega), Nat.lt_of_lt_of_le (h.off g hg).2 hc.size⟩⟩
theorem Kp.fresh {v : Value} {rs : List Blk} (h : Kp P W v rs) (hc : Chg (fun _ => False) W w) : Kp P w v rs :=
  ⟨fun w' h' => h.at' w' ((hc.mono (fun _ _ h => h.elim)).trans' h'), fun g hg => ⟨(h.off g hg).1, Nat.lt_of_lt_of_le (h.off g hg).2 hc.size⟩⟩
theorem Kp.nil (v : Value) (n : Nat) (hv : v = .slice none 0 n) : Kp P W v [] := by
  subst hv
  exact ⟨fun _ _ => ⟨none, n, rfl, fun h => absurd rfl h, by simp⟩, fun g hg => by simp [Value.ownBlock] at hg⟩

end Go.Proofs.YtbjagmlbamjdbaaGreat.wals
end

/-
  kv: may, text, change.
-/
section
set_option linter.unusedSimpArgs false
set_option linter.unusedVariables false
namespace Go.Proofs.YtbjagmlbamjdbaaGreat.kvs
open Go.RowKit Go.My disks bufs wals
set_option maxRecDepth 100000

variable {w w' : World}

def PV.row (p : PV) : List Value := [strV p.key, strV p.val, .bool p.gone]

theorem str_size (b : Txt) (s : ByteArray) (h : strV b = .string s) : s.size = b.length := by
  have : Value.string (⟨b.toArray⟩ : ByteArray) = .string s := h
  simp only [Value.string.injEq] at this
  rw [← this]; simp [ByteArray.size]
theorem str_nil (b : Txt) (s : ByteArray) (h : strV b = .string s) : (s.toList == ([] : List UInt8)) = decide (b = []) := by
  have : Value.string (⟨b.toArray⟩ : ByteArray) = .string s := h
  simp only [Value.string.injEq] at this
  rw [← this, Lib.toList_data]
  cases b <;> simp

theorem may_any (w : World) (p : PV) : Calls Tryz.prog 119 #[.agg p.row.toArray] w fun e w' => e = .returned (.bool p.may) ∧ Chg (fun _ => False) w w' := by
  obtain ⟨key, val, gone⟩ := p
  unfold PV.row PV.may
  simp only
  obtain ⟨sk, hsk⟩ : ∃ s : ByteArray, strV key = .string s := ⟨_, rfl⟩
  obtain ⟨sv, hsv⟩ : ∃ s : ByteArray, strV val = .string s := ⟨_, rfl⟩
  have h1 := str_size key sk hsk
  have h2 := str_size val sv hsv
  have h3 := str_nil val sv hsv
  rw [hsk, hsv]
  have hca : Chg (fun _ => False) w (w.alloc (.cells #[.string sk, .string sv, .bool gone] 103)) := (Chg.refl _ _).alloc _
  have HCa := Lib.hid hca
  clear hca hsk hsv
  by_cases a1 : 0 < key.length
  · have i1 : (0 : Int) < (sk.size : Int) := by omega
    by_cases a2 : key.length ≤ 64
    · have i2 : (sk.size : Int) ≤ 64 := by omega
      by_cases a3 : val.length ≤ 1024
      · have i3 : (sv.size : Int) ≤ 1024 := by omega
        by_cases a4 : val = []
        · have i4 : (sv.toList == ([] : List UInt8)) = true := by rw [h3]; simpa using a4
          have HA := Lib.hid (And.intro a1 (And.intro a2 (And.intro a3 a4)))
          clear h1 h2 h3 a1 a2 a3 a4
          cases gone
          · go_enter Tryz.func119, Tryz.ntmps119
            go_wp2_with fail
            go_ret
            exact ⟨by have := HA.out; simp [this], HCa.out⟩
          · go_enter Tryz.func119, Tryz.ntmps119
            go_wp2_with fail
            go_ret
            exact ⟨by have := HA.out; simp [this], HCa.out⟩
        · have i4 : (sv.toList == ([] : List UInt8)) = false := by rw [h3]; simpa using a4
          have HA := Lib.hid (And.intro a1 (And.intro a2 (And.intro a3 a4)))
          clear h1 h2 h3 a1 a2 a3 a4
          cases gone
          · go_enter Tryz.func119, Tryz.ntmps119
            go_wp2_with fail
            go_ret
            exact ⟨by have := HA.out; simp [this], HCa.out⟩
          · go_enter Tryz.func119, Tryz.ntmps119
            go_wp2_with fail
            go_ret
            exact ⟨by have := HA.out; simp [this], HCa.out⟩
      · have i3 : ¬ (sv.size : Int) ≤ 1024 := by omega
        have HA := Lib.hid (And.intro a1 (And.intro a2 a3))
        clear h1 h2 h3 a1 a2 a3
        cases gone
        · go_enter Tryz.func119, Tryz.ntmps119
          go_wp2_with fail
          go_ret
          exact ⟨by have := HA.out; simp [this], HCa.out⟩
        · go_enter Tryz.func119, Tryz.ntmps119
          go_wp2_with fail
          go_ret
          exact ⟨by have := HA.out; simp [this], HCa.out⟩
    · have i2 : ¬ (sk.size : Int) ≤ 64 := by omega
      have HA := Lib.hid (And.intro a1 a2)
      clear h1 h2 h3 a1 a2
      cases gone
      · go_enter Tryz.func119, Tryz.ntmps119
        go_wp2_with fail
        go_ret
        exact ⟨by have := HA.out; simp [this], HCa.out⟩
      · go_enter Tryz.func119, Tryz.ntmps119
        go_wp2_with fail
        go_ret
        exact ⟨by have := HA.out; simp [this], HCa.out⟩
  · have i1 : ¬ (0 : Int) < (sk.size : Int) := by omega
    have HA := Lib.hid a1
    clear h1 h2 h3 a1
    cases gone
    · go_enter Tryz.func119, Tryz.ntmps119
      go_wp2_with fail
      go_ret
      exact ⟨by have := HA.out; simp [this], HCa.out⟩
    · go_enter Tryz.func119, Tryz.ntmps119
      go_wp2_with fail
      go_ret
      exact ⟨by have := HA.out; simp [this], HCa.out⟩

end Go.Proofs.YtbjagmlbamjdbaaGreat.kvs
end
