/- . -/
import Derived.Test.YtbjagmlbamjdbaaGreatPx10RootOnce

set_option linter.unusedSimpArgs false
set_option linter.unusedVariables false
section
namespace Go.Proofs.YtbjagmlbamjdbaaGreat.wals
open Go.RowKit Go.My disks bufs
set_option maxRecDepth 100000

variable {w w' : World} {l d : Nat} {F Fd : Nat → Prop} {X : DV} {V : LV} {rv tv wv : Value}

set_option maxHeartbeats 1000000 in
theorem begin_any (w : World) (h : LogAt w l d F Fd X ⟨0, 0, 0, [], [], [], 0, false⟩) (hf : X.fuse ≤ 9223372036854775807) (hL : ∀ j, (X.L j).length < 1000000) :
    Calls Tryz.prog 103 #[.pointer (some ⟨l, 0, none⟩)] w fun e w' => e = .returned (.tuple #[if (putH X 1 0 0).1 = 0 then .pointer (some ⟨l, 0, none⟩) else .pointer none, .int .i64 (putH X 1 0 0).1]) ∧
      ∃ F' Fd', LogAt w' l d F' Fd' (putH X 1 0 0).2 (putV ⟨0, 0, 0, [], [], [], 0, false⟩ (putH X 1 0 0).1 1 0 0) ∧ (∀ k, F' k → F k ∨ w.heap.size ≤ k) ∧ (∀ k, Fd' k → Fd k ∨ w.heap.size ≤ k) ∧ Chg (fun k => F k ∨ Fd k) w w' := by
  have hp := put_any w h 1 0 0 (by omega) (by omega) (by omega) hf hL
  obtain ⟨R, hR⟩ : ∃ R, putH X 1 0 0 = R := ⟨_, rfl⟩
  rw [hR] at hp ⊢
  obtain ⟨n, hn⟩ : ∃ n, R.1 = n := ⟨_, rfl⟩
  rw [hn] at hp ⊢
  have HP := Lib.hid hp
  clear hp h hf hL hR hn
  by_cases hz : n = 0
  · subst hz
    go_enter Tryz.func103, Tryz.ntmps103
    go_wp2_with (first
      | (go_at_call 151; fail))
    refine HP.out.mono ?_
    rintro e w1 ⟨rfl, F', Fd', h1, h2, h3, h4⟩
    dsimp only
    go_wp2_with fail
    go_ret2
    exact ⟨rfl, F', Fd', h1, h2, h3, h4⟩
  · have hzb : (n != 0) = true := by simp [hz]
    rw [if_neg hz]
    have HZ := Lib.hid hz
    clear hz
    go_enter Tryz.func103, Tryz.ntmps103
    go_wp2_with (first
      | (go_at_call 151; fail))
    refine HP.out.mono ?_
    rintro e w1 ⟨rfl, F', Fd', h1, h2, h3, h4⟩
    dsimp only
    go_wp2_with fail
    go_ret2
    exact ⟨rfl, F', Fd', h1, h2, h3, h4⟩

def OpenPost (w : World) (d : Nat) (Fd : Nat → Prop) (R : Int × DV × Option LV) (e : Ending) (w' : World) : Prop :=
  ∃ Fd', (∀ k, Fd' k → Fd k ∨ w.heap.size ≤ k) ∧ Chg Fd w w' ∧ ((∃ V l F', R.2.2 = some V ∧ e = .returned (.tuple #[.pointer (some ⟨l, 0, none⟩), .int .i64 0]) ∧ LogAt w' l d F' Fd' R.2.1 V ∧ ∀ k, F' k → w.heap.size ≤ k) ∨
    (R.2.2 = none ∧ e = .returned (.tuple #[.pointer none, .int .i64 R.1]) ∧ DiskAt w' d Fd' R.2.1))

theorem read_at (w : World) (h : DiskAt w d Fd X) (hd : X.down = false) (i : Nat) (hi : i < X.B.length) (hle : X.B.length ≤ 4096) : Calls Tryz.prog 101 #[.pointer (some ⟨d, 0, none⟩), .int .i64 (i : Int)] w fun e w' => ∃ v, e = .returned (.tuple #[v, .int .i64 0]) ∧ w'.ownsRow w.heap.size 5 1 v 64 (cellsB (X.cur i)) ∧ Chg (fun _ => False) w w' := by
  obtain ⟨bv, p, mm, hdk⟩ := h
  have hask : askedC X (i : Int) = 0 := by unfold askedC; rw [hd, if_neg (by decide), if_pos ⟨by omega, by omega⟩]
  have := disks.read_any _ hdk (i : Int) ⟨by omega, by omega⟩
  rw [hask, if_pos rfl, if_pos rfl, Int.toNat_natCast] at this
  exact this

theorem wpList_yields {P : Program} {ops : Array Oper} {rest : List Oper} {op : Oper} {a : Go.Act} {w : World} {Q : Exit → Go.Act → World → Prop} {S : World → Prop} {v : Value} (hy : YieldsIf P ops S op v a) (hS : S w) (h : wpList P ops Q rest (a.put op.dst v) w) : wpList P ops Q (op :: rest) a w := by
  rcases hy with ⟨hw, hv⟩ | ⟨hw, rfl⟩
  · simp only [wpList, hw, if_true, Oper.wp, hv w hS, Oper.upon]
    exact .inl h
  · exact wpList_skip hw h

theorem forget_zeros {K : Go.Act → World → Prop} {a : Go.Act} (w3 : World) (t : TypeId) (h : ∀ wz, Arr wz w3.heap.size t (List.replicate 64 (.int .u8 0)) → Chg (fun _ => False) w3 wz → wz.heap.size = w3.heap.size + 1 → K a wz) : K a (w3.alloc (.cells (List.replicate 64 (.int .u8 0)).toArray t)).drew :=
  h _ (at1 (w := w3)) ((Chg.refl _ _).alloc _).drew (by show (w3.alloc _).heap.size = _; rw [World.size_alloc])
theorem forget_zeros' {K : Go.Act → World → Prop} {a : Go.Act} (w3 : World) (t : TypeId) (h : ∀ wz, Arr wz w3.heap.size t (List.replicate 64 (.int .u8 0)) → Chg (fun _ => False) w3 wz → wz.heap.size = w3.heap.size + 1 → K a wz) : K a (w3.alloc (.cells (List.replicate 64 (.int .u8 0)).toArray t)) :=
  h _ at1 ((Chg.refl _ _).alloc _) (by rw [World.size_alloc])
theorem _root_.Go.My.Chg.range {w w' : World} (h : Chg (fun _ => False) w w') {b o : Nat} {cs : List Value} (hr : w.rangeAt b o cs) : w'.rangeAt b o cs := fun j x hx => h.cell (hr j x hx) id

theorem log_there (hl : LogIs w l d F V rv tv wv) : w.there l 1 3 := by
  intro j hj
  have := hl.head.there (1 + j) (by simp [logC]; omega)
  simpa using this

set_option maxHeartbeats 1000000 in
theorem open_blank (w : World) (h : DiskAt w d Fd X) (hdn : X.down = false) (h6 : 6 ≤ X.B.length) (hle : X.B.length ≤ 4096) (hf : X.fuse ≤ 9223372036854775807) (hL : ∀ j, (X.L j).length < 500000) (hx : X.cur 0 = zeros 64) (hy : X.cur 1 = zeros 64) :
    Calls Tryz.prog 58 #[.pointer (some ⟨d, 0, none⟩)] w (OpenPost w d Fd (openF X)) := by
  have HXY0 := Lib.hid (And.intro hx hy)
  have hD1 : ∀ b1 b2 : Blk, X.cur 0 = b1 → X.cur 1 = b2 → decide (b1 = zeros 64) = true ∧ decide (b2 = zeros 64) = true := fun b1 b2 h1 h2 => ⟨decide_eq_true (h1 ▸ hx), decide_eq_true (h2 ▸ hy)⟩
  have HD := Lib.hid hD1
  clear hx hy hD1
  have HFL := Lib.hid (And.intro hf hL)
  have HN := Lib.hid (And.intro h6 (And.intro hle hdn))
  have H := Lib.hid h
  have HR0 := Lib.hid (read_at w h hdn 0 (by omega) hle)
  obtain ⟨n, hn⟩ : ∃ n, X.B.length = n := ⟨_, rfl⟩
  have HNn := Lib.hid hn
  have i1 : (6 : Int) ≤ n := by omega
  clear hf hL h6 hle hdn h hn
  go_enter Tryz.func58, Tryz.ntmps58
  go_wp2_with (first
    | (go_at_call 101; fail))
  refine HR0.out.mono ?_
  rintro e w1 ⟨v1, rfl, ho1, hc1⟩
  obtain ⟨oa1, cap1, rfl⟩ := own_slice ho1
  have HO1 := Lib.hid ho1
  have HC1 := Lib.hid hc1
  have hbk := blocks_any w1 (H.out.kept hc1 (fun _ _ h => h))
  rw [HNn.out] at hbk
  have HBk := Lib.hid hbk
  have HR1 := Lib.hid (read_at w1 (H.out.kept hc1 (fun _ _ h => h)) HN.out.2.2 1 (by have := HN.out; omega) HN.out.2.1)
  clear ho1 hc1 HR0 hbk
  dsimp only
  go_wp2_with (first
    | (go_at_call 102; refine HBk.out.mono ?_; rintro e w' ⟨rfl, rfl⟩)
    | (go_at_call 101; fail))
  refine HR1.out.mono ?_
  rintro e w2 ⟨v2, rfl, ho2, hc2⟩
  obtain ⟨oa2, cap2, rfl⟩ := own_slice ho2
  have HO2 := Lib.hid ho2
  have HC2 := Lib.hid hc2
  clear ho2 hc2 HR1 HBk
  dsimp only
  go_wp2_with fail
  obtain ⟨w3, hw3⟩ : ∃ w3, w2.alloc (.cells #[.pointer (some ⟨d, 0, none⟩), .int .i64 0, .int .i64 0, .int .i64 0, .slice none 0 0, .slice none 0 0, .slice none 0 0, .int .i64 0, .bool false] 177) = w3 := ⟨_, rfl⟩
  have hc3 : Chg (fun _ => False) w2 w3 := by rw [← hw3]; exact (Chg.refl _ _).alloc _
  have hlg : LogIs w3 w2.heap.size d (· = w2.heap.size) ⟨0, 0, 0, [], [], [], 0, false⟩ (.slice none 0 0) (.slice none 0 0) (.slice none 0 0) := by
    rw [← hw3]
    have hn : ∀ {g : Nat}, (Value.slice none 0 0).ownBlock = some g → False := fun h => by simp [Value.ownBlock] at h
    exact ⟨at1, ⟨rfl, Or.inl ⟨rfl, rfl⟩⟩, ⟨rfl, Or.inl ⟨rfl, rfl⟩⟩, ⟨rfl, Or.inl ⟨rfl, rfl⟩⟩, fun g h => (hn h).elim, rfl, fun g h => (hn h).elim, fun g h => (hn h).elim, fun g h => (hn h).elim, fun k hk => by rw [World.size_alloc]; have : k = w2.heap.size := hk; omega⟩
  rw [hw3]
  have HC3 := Lib.hid ((HC1.out.trans' HC2.out).trans' hc3)
  have HLg := Lib.hid hlg
  obtain ⟨b1, hb1⟩ : ∃ b1, X.cur 0 = b1 := ⟨_, rfl⟩
  obtain ⟨b2, hb2⟩ : ∃ b2, X.cur 1 = b2 := ⟨_, rfl⟩
  rw [hb1] at HO1
  rw [hb2] at HO2
  have hl1 : b1.length = 64 := by have := HO1.out.1; rw [cellsB_length] at this; omega
  have hl2 : b2.length = 64 := by have := HO2.out.1; rw [cellsB_length] at this; omega
  obtain ⟨g1, cc1, e1, hg1, hg1'⟩ := own_nonnil HO1.out (by intro e; rw [e] at hl1; simp at hl1)
  obtain ⟨g2, cc2, e2, hg2, hg2'⟩ := own_nonnil HO2.out (by intro e; rw [e] at hl2; simp at hl2)
  simp only [Value.slice.injEq] at e1 e2
  obtain ⟨rfl, -, rfl⟩ := e1
  obtain ⟨rfl, -, rfl⟩ := e2
  have hrg1 := own_range (own_kept HO1.out (HC2.out.trans' hc3))
  have hrg2 := own_range (own_kept HO2.out hc3)
  have HG1 := Lib.hid hrg1
  have HG2 := Lib.hid hrg2
  have hz1 : (cellsB b1).length = 64 := by rw [cellsB_length, hl1]
  have hz2 : (cellsB b2).length = 64 := by rw [cellsB_length, hl2]
  have HZ1 := Lib.hid (show (Tryz.prog.info? 178).map (·.size) = some (cellsB b1).length by rw [hz1]; exact size_wblock)
  have HZ2 := Lib.hid (show (Tryz.prog.info? 178).map (·.size) = some (cellsB b2).length by rw [hz2]; exact size_wblock)
  have HB := Lib.hid (And.intro hb1 (And.intro hb2 (And.intro hl1 hl2)))
  have HD1 := Lib.hid (HD.out b1 b2 hb1 hb2).1
  have HD2 := Lib.hid (HD.out b1 b2 hb1 hb2).2
  have HSz := Lib.hid (show g1 < w2.heap.size ∧ g2 < w2.heap.size from ⟨Nat.lt_of_lt_of_le hg1' HC2.out.size, hg2'⟩)
  clear hw3 hc3 hlg hb1 hb2 hl1 hl2 hg1 hg1' hg2 hg2' hrg1 hrg2 hz1 hz2
  have hsa1 : ∀ w', (Instr.arrayAt 178 (.slice (some ⟨g1, 0, none⟩) 64 cap1)).run Tryz.prog w' = .ok (.pointer (some ⟨g1, 0, none⟩)) w' := fun w' => run_arrayAt _ _ _ 64 _ _ _ Tryz.underlying178 (by omega)
  have hsa2 : ∀ w', (Instr.arrayAt 178 (.slice (some ⟨g2, 0, none⟩) 64 cap2)).run Tryz.prog w' = .ok (.pointer (some ⟨g2, 0, none⟩)) w' := fun w' => run_arrayAt _ _ _ 64 _ _ _ Tryz.underlying178 (by omega)
  refine wp_region_noPanic ?_
  refine wp_region_held_drew (S := (fun w' => w'.rangeAt g1 0 (cellsB b1) ∧ w'.rangeAt g2 0 (cellsB b2))) (by kernel_rfl) (⟨HG1.out, HG2.out⟩) (fun hHeld => ?_)
  refine tk 0 (v := ?_) hHeld rfl (fun w hSw => ?_) ?_
  rotate_left
  · go_simp
    try with_reducible rfl
  simp only [Act.put, zA, zB, zC]
  refine tk 1 (v := ?_) hHeld rfl (fun w hSw => ?_) ?_
  rotate_left
  · go_simp
    try with_reducible rfl
  simp only [Act.put, zA, zB, zC]
  refine take_list (i := 2) rfl (by kernel_rfl) (by kernel_rfl) (by kernel_rfl) (fun _ _ _ h => h) ((yieldsIf_load_mid (by rfl) _ _ rfl _ _ rfl (cellsB b1) _ (fun w h => h.1) Tryz.underlying178 rfl HZ1.out)) hHeld ?_
  simp only [Act.put, zA, zB, zC]
  refine tk 3 (v := ?_) hHeld rfl (fun w hSw => ?_) ?_
  rotate_left
  · go_simp
    try with_reducible rfl
  simp only [Act.put, zA, zB, zC]
  refine tk 4 (v := ?_) hHeld rfl (fun w hSw => ?_) ?_
  rotate_left
  · go_simp
    try with_reducible rfl
  simp only [Act.put, zA, zB, zC]
  refine take_list (i := 5) rfl (by kernel_rfl) (by kernel_rfl) (by kernel_rfl) (fun _ _ _ h => h) ((yieldsIf_load_mid (by rfl) _ _ rfl _ _ rfl (cellsB b2) _ (fun w h => h.2) Tryz.underlying178 rfl HZ2.out)) hHeld ?_
  simp only [Act.put, zA, zB, zC]
  refine wpAnyH_ready (rs := [6, 7]) (by kernel_rfl) (by simp) (one_list (i := 6) rfl (by rfl) (fun K hK => ?_) (one_list (i := 7) rfl (by rfl) (fun K hK => ?_) AllReadyH.nil))
  · go_simp
    refine forget_zeros w3 _ (fun wz hZ hcz hsz => ?_)
    have HZa := Lib.hid hZ
    have hcz3 := hcz
    refine hK _ _ (⟨hcz.range HG1.out, hcz.range HG2.out⟩) (fun hH2 => ?_)
    try simp only [Act.put, zA, zB, zC]
    refine on1 7 rfl (fun K hK => ?_)
    go_simp
    refine forget_zeros' wz _ (fun wy hY hcy hsy => ?_)
    have hcw : Chg (fun _ => False) w3 wy := hcz.trans' hcy
    rw [hsz] at hY
    refine hK _ _ (⟨hcw.range HG1.out, hcw.range HG2.out⟩) (fun hH3 => ?_)
    try simp only [Act.put, zA, zB, zC]
    have hZx : Arr wy w3.heap.size 178 (List.replicate 64 (.int .u8 0)) := by first | exact hY | exact hcy.at hZ id
    have hZy : Arr wy (w3.heap.size + 1) 178 (List.replicate 64 (.int .u8 0)) := by first | exact hY | exact hcy.at hZ id
    have hxy : w3.heap.size ≠ (w3.heap.size + 1) := by omega
    have hbx : w3.heap.size ≤ w3.heap.size ∧ w3.heap.size ≤ (w3.heap.size + 1) := by omega
    have s1 := Arr.store hZx (vs := cellsB b1) (by rw [List.length_replicate, cellsB_length]; exact HB.out.2.2.1)
    have s2 := Arr.store (s1.chg.at hZy (by omega)) (vs := cellsB b2) (by rw [List.length_replicate, cellsB_length]; exact HB.out.2.2.2)
    have t1 := Arr.there hZx
    have t2 := Arr.there (s1.chg.at hZy (by omega) : Arr _ _ _ _)
    rw [List.length_replicate, ← HB.out.2.2.1, ← cellsB_length] at t1
    rw [List.length_replicate, ← HB.out.2.2.2, ← cellsB_length] at t2
    have hAx := s2.chg.at s1.arr (by omega)
    have hAy := s2.arr
    have hc45 : Chg (fun _ => False) w3 ((wy.setCells w3.heap.size 0 (cellsB b1)).setCells (w3.heap.size + 1) 0 (cellsB b2)) := (hcw.new s1.chg (fun i e => by have e : i = w3.heap.size := e; omega)).new s2.chg (fun i e => by have e : i = (w3.heap.size + 1) := e; omega)
    have hc44 : Chg (fun _ => False) w3 (wy.setCells w3.heap.size 0 (cellsB b1)) := hcw.new s1.chg (fun i e => by have e : i = w3.heap.size := e; omega)
    refine on1 8 rfl (fun K hK => ?_)
    refine wp_store_mid 178 _ _ rfl (w3.heap.size) 0 (cellsB b1).toArray rfl rfl t1 HZ1.out (all_oneCell_toArray (one_cellsB b1)) ?_
    rw [List.toList_toArray]
    refine hK _ _ ⟨hc44.range HG1.out, hc44.range HG2.out⟩ (fun hH4 => ?_)
    try simp only [Act.put, zA, zB, zC]
    refine on1 9 rfl (fun K hK => ?_)
    refine wp_store_mid 178 _ _ rfl ((w3.heap.size + 1)) 0 (cellsB b2).toArray rfl rfl t2 HZ2.out (all_oneCell_toArray (one_cellsB b2)) ?_
    rw [List.toList_toArray]
    refine hK _ _ ⟨hc45.range HG1.out, hc45.range HG2.out⟩ (fun hH5 => ?_)
    try simp only [Act.put, zA, zB, zC]
    refine wpAnyH_done (by kernel_rfl) ?_ _
    refine NoPanic.normal ?_
    obtain ⟨wE, hwE⟩ : ∃ wE, (wy.setCells w3.heap.size 0 (cellsB b1)).setCells (w3.heap.size + 1) 0 (cellsB b2) = wE := ⟨_, rfl⟩
    rw [hwE] at hAx hAy hc45 ⊢
    have HAx := Lib.hid hAx
    have HAy := Lib.hid hAy
    have HC5 := Lib.hid hc45
    have HXY := Lib.hid (And.intro hxy hbx)
    clear hHeld hH2 hH3 hH4 hH5 hK s1 s2 t1 t2 hAx hAy hc45 hc44 hwE hxy hbx hZx hZy hcw hZ hY hcz hcz3 hcy hsy hsz HZa hsa1 hsa2
    have HEg := Lib.hid (show Tryz.prog.eqGuardType Tryz.prog.depth 178 = false by kernel_rfl)
    go_wp2_with (first
      | (refine wpList_yields (S := fun w' => w' = wE) (yieldsIf_load_mid (by rfl) 178 _ rfl (w3.heap.size) 0 rfl (cellsB b1) _ (fun w h => h ▸ Arr.range HAx.out) Tryz.underlying178 rfl HZ1.out) rfl ?_)
      | (refine wpList_yields (S := fun w' => w' = wE) (yieldsIf_load_mid (by rfl) 178 _ rfl ((w3.heap.size + 1)) 0 rfl (cellsB b2) _ (fun w h => h ▸ Arr.range HAy.out) Tryz.underlying178 rfl HZ2.out) rfl ?_)
      | (refine wpList_yields (S := fun _ => True) (yieldsIf_eql_block (by rfl) _ _ _ rfl b1 (zeros 64) rfl rfl Tryz.underlying178 HB.out.2.2.1 rfl HEg.out) trivial ?_; rw [HD1.out])
      | (refine wpList_yields (S := fun _ => True) (yieldsIf_eql_block (by rfl) _ _ _ rfl b2 (zeros 64) rfl rfl Tryz.underlying178 HB.out.2.2.2 rfl HEg.out) trivial ?_; rw [HD2.out])
      | (go_at_call 103; fail))
    have hszw : w.heap.size ≤ w2.heap.size := (HC1.out.trans' HC2.out).size
    have hla : LogAt wE w2.heap.size d (· = w2.heap.size) Fd X ⟨0, 0, 0, [], [], [], 0, false⟩ := ⟨⟨_, _, _, HLg.out.kept HC5.out (fun _ _ h => h)⟩, H.out.kept (HC3.out.trans' HC5.out) (fun _ _ h => h), fun k hk hF => by
      have hk : k = w2.heap.size := hk
      have := H.out.lt k hF
      omega⟩
    have hbg := begin_any wE hla HFL.out.1 (fun j => by have := HFL.out.2 j; omega)
    obtain ⟨R, hR⟩ : ∃ R, putH X 1 0 0 = R := ⟨_, rfl⟩
    rw [hR] at hbg
    obtain ⟨n0, hn0⟩ : ∃ n0, R.1 = n0 := ⟨_, rfl⟩
    rw [hn0] at hbg
    obtain ⟨pv, hpv⟩ : ∃ pv, (if n0 = 0 then Value.pointer (some ⟨w2.heap.size, 0, none⟩) else Value.pointer none) = pv := ⟨_, rfl⟩
    rw [hpv] at hbg
    have hopen : openF X = if n0 ≠ 0 then (n0, R.2, none) else (0, R.2, some ⟨1, 0, 0, [], [], [], 0, false⟩) := by
      unfold openF
      rw [HN.out.2.2, if_neg (by decide), if_neg (by have := HN.out.1; omega), if_pos HXY0.out, hR, hn0]
    have HOp := Lib.hid hopen
    have HPv := Lib.hid hpv
    have HSw := Lib.hid hszw
    refine hbg.mono ?_
    rintro e w6 ⟨rfl, F', Fd', h1, h2, h3, h4⟩
    have HH := Lib.hid (And.intro h1 (And.intro h2 (And.intro h3 h4)))
    clear h1 h2 h3 h4 hbg hla hR hn0 hpv hopen hszw
    dsimp only
    go_wp2_with fail
    go_ret2
    rw [HOp.out]
    have hsE := (HC3.out.trans' HC5.out).size
    have hc : Chg Fd w w6 := ((HC3.out.trans' HC5.out).mono (fun _ _ h => h.elim)).trans HH.out.2.2.2 (fun k hk h => h.elim (fun e => by have e : k = w2.heap.size := e; have := HSw.out; omega) id)
    refine ⟨Fd', fun k hk => (HH.out.2.2.1 k hk).imp id (fun h => by omega), hc, ?_⟩
    by_cases hz : n0 = 0
    · rw [if_neg (fun h => h hz)]
      refine Or.inl ⟨_, w2.heap.size, F', rfl, ?_, ?_, fun k hk => (HH.out.2.1 k hk).elim (fun e => by have e : k = w2.heap.size := e; have := HSw.out; omega) (fun h => by omega)⟩
      · rw [← HPv.out, if_pos hz, hz]
        rfl
      · have h1 := HH.out.1
        unfold putV at h1
        rw [if_pos hz] at h1
        exact h1
    · rw [if_pos hz]
      exact Or.inr ⟨rfl, by rw [← HPv.out, if_neg hz]; rfl, HH.out.1.disk⟩
  · go_simp
    refine forget_zeros w3 _ (fun wz hZ hcz hsz => ?_)
    have HZa := Lib.hid hZ
    have hcz3 := hcz
    refine hK _ _ (⟨hcz.range HG1.out, hcz.range HG2.out⟩) (fun hH2 => ?_)
    try simp only [Act.put, zA, zB, zC]
    refine on1 6 rfl (fun K hK => ?_)
    go_simp
    refine forget_zeros' wz _ (fun wy hY hcy hsy => ?_)
    have hcw : Chg (fun _ => False) w3 wy := hcz.trans' hcy
    rw [hsz] at hY
    refine hK _ _ (⟨hcw.range HG1.out, hcw.range HG2.out⟩) (fun hH3 => ?_)
    try simp only [Act.put, zA, zB, zC]
    have hZx : Arr wy (w3.heap.size + 1) 178 (List.replicate 64 (.int .u8 0)) := by first | exact hY | exact hcy.at hZ id
    have hZy : Arr wy w3.heap.size 178 (List.replicate 64 (.int .u8 0)) := by first | exact hY | exact hcy.at hZ id
    have hxy : (w3.heap.size + 1) ≠ w3.heap.size := by omega
    have hbx : w3.heap.size ≤ (w3.heap.size + 1) ∧ w3.heap.size ≤ w3.heap.size := by omega
    have s1 := Arr.store hZx (vs := cellsB b1) (by rw [List.length_replicate, cellsB_length]; exact HB.out.2.2.1)
    have s2 := Arr.store (s1.chg.at hZy (by omega)) (vs := cellsB b2) (by rw [List.length_replicate, cellsB_length]; exact HB.out.2.2.2)
    have t1 := Arr.there hZx
    have t2 := Arr.there (s1.chg.at hZy (by omega) : Arr _ _ _ _)
    rw [List.length_replicate, ← HB.out.2.2.1, ← cellsB_length] at t1
    rw [List.length_replicate, ← HB.out.2.2.2, ← cellsB_length] at t2
    have hAx := s2.chg.at s1.arr (by omega)
    have hAy := s2.arr
    have hc45 : Chg (fun _ => False) w3 ((wy.setCells (w3.heap.size + 1) 0 (cellsB b1)).setCells w3.heap.size 0 (cellsB b2)) := (hcw.new s1.chg (fun i e => by have e : i = (w3.heap.size + 1) := e; omega)).new s2.chg (fun i e => by have e : i = w3.heap.size := e; omega)
    have hc44 : Chg (fun _ => False) w3 (wy.setCells (w3.heap.size + 1) 0 (cellsB b1)) := hcw.new s1.chg (fun i e => by have e : i = (w3.heap.size + 1) := e; omega)
    refine on1 8 rfl (fun K hK => ?_)
    refine wp_store_mid 178 _ _ rfl ((w3.heap.size + 1)) 0 (cellsB b1).toArray rfl rfl t1 HZ1.out (all_oneCell_toArray (one_cellsB b1)) ?_
    rw [List.toList_toArray]
    refine hK _ _ ⟨hc44.range HG1.out, hc44.range HG2.out⟩ (fun hH4 => ?_)
    try simp only [Act.put, zA, zB, zC]
    refine on1 9 rfl (fun K hK => ?_)
    refine wp_store_mid 178 _ _ rfl (w3.heap.size) 0 (cellsB b2).toArray rfl rfl t2 HZ2.out (all_oneCell_toArray (one_cellsB b2)) ?_
    rw [List.toList_toArray]
    refine hK _ _ ⟨hc45.range HG1.out, hc45.range HG2.out⟩ (fun hH5 => ?_)
    try simp only [Act.put, zA, zB, zC]
    refine wpAnyH_done (by kernel_rfl) ?_ _
    refine NoPanic.normal ?_
    obtain ⟨wE, hwE⟩ : ∃ wE, (wy.setCells (w3.heap.size + 1) 0 (cellsB b1)).setCells w3.heap.size 0 (cellsB b2) = wE := ⟨_, rfl⟩
    rw [hwE] at hAx hAy hc45 ⊢
    have HAx := Lib.hid hAx
    have HAy := Lib.hid hAy
    have HC5 := Lib.hid hc45
    have HXY := Lib.hid (And.intro hxy hbx)
    clear hHeld hH2 hH3 hH4 hH5 hK s1 s2 t1 t2 hAx hAy hc45 hc44 hwE hxy hbx hZx hZy hcw hZ hY hcz hcz3 hcy hsy hsz HZa hsa1 hsa2
    have HEg := Lib.hid (show Tryz.prog.eqGuardType Tryz.prog.depth 178 = false by kernel_rfl)
    go_wp2_with (first
      | (refine wpList_yields (S := fun w' => w' = wE) (yieldsIf_load_mid (by rfl) 178 _ rfl ((w3.heap.size + 1)) 0 rfl (cellsB b1) _ (fun w h => h ▸ Arr.range HAx.out) Tryz.underlying178 rfl HZ1.out) rfl ?_)
      | (refine wpList_yields (S := fun w' => w' = wE) (yieldsIf_load_mid (by rfl) 178 _ rfl (w3.heap.size) 0 rfl (cellsB b2) _ (fun w h => h ▸ Arr.range HAy.out) Tryz.underlying178 rfl HZ2.out) rfl ?_)
      | (refine wpList_yields (S := fun _ => True) (yieldsIf_eql_block (by rfl) _ _ _ rfl b1 (zeros 64) rfl rfl Tryz.underlying178 HB.out.2.2.1 rfl HEg.out) trivial ?_; rw [HD1.out])
      | (refine wpList_yields (S := fun _ => True) (yieldsIf_eql_block (by rfl) _ _ _ rfl b2 (zeros 64) rfl rfl Tryz.underlying178 HB.out.2.2.2 rfl HEg.out) trivial ?_; rw [HD2.out])
      | (go_at_call 103; fail))
    have hszw : w.heap.size ≤ w2.heap.size := (HC1.out.trans' HC2.out).size
    have hla : LogAt wE w2.heap.size d (· = w2.heap.size) Fd X ⟨0, 0, 0, [], [], [], 0, false⟩ := ⟨⟨_, _, _, HLg.out.kept HC5.out (fun _ _ h => h)⟩, H.out.kept (HC3.out.trans' HC5.out) (fun _ _ h => h), fun k hk hF => by
      have hk : k = w2.heap.size := hk
      have := H.out.lt k hF
      omega⟩
    have hbg := begin_any wE hla HFL.out.1 (fun j => by have := HFL.out.2 j; omega)
    obtain ⟨R, hR⟩ : ∃ R, putH X 1 0 0 = R := ⟨_, rfl⟩
    rw [hR] at hbg
    obtain ⟨n0, hn0⟩ : ∃ n0, R.1 = n0 := ⟨_, rfl⟩
    rw [hn0] at hbg
    obtain ⟨pv, hpv⟩ : ∃ pv, (if n0 = 0 then Value.pointer (some ⟨w2.heap.size, 0, none⟩) else Value.pointer none) = pv := ⟨_, rfl⟩
    rw [hpv] at hbg
    have hopen : openF X = if n0 ≠ 0 then (n0, R.2, none) else (0, R.2, some ⟨1, 0, 0, [], [], [], 0, false⟩) := by
      unfold openF
      rw [HN.out.2.2, if_neg (by decide), if_neg (by have := HN.out.1; omega), if_pos HXY0.out, hR, hn0]
    have HOp := Lib.hid hopen
    have HPv := Lib.hid hpv
    have HSw := Lib.hid hszw
    refine hbg.mono ?_
    rintro e w6 ⟨rfl, F', Fd', h1, h2, h3, h4⟩
    have HH := Lib.hid (And.intro h1 (And.intro h2 (And.intro h3 h4)))
    clear h1 h2 h3 h4 hbg hla hR hn0 hpv hopen hszw
    dsimp only
    go_wp2_with fail
    go_ret2
    rw [HOp.out]
    have hsE := (HC3.out.trans' HC5.out).size
    have hc : Chg Fd w w6 := ((HC3.out.trans' HC5.out).mono (fun _ _ h => h.elim)).trans HH.out.2.2.2 (fun k hk h => h.elim (fun e => by have e : k = w2.heap.size := e; have := HSw.out; omega) id)
    refine ⟨Fd', fun k hk => (HH.out.2.2.1 k hk).imp id (fun h => by omega), hc, ?_⟩
    by_cases hz : n0 = 0
    · rw [if_neg (fun h => h hz)]
      refine Or.inl ⟨_, w2.heap.size, F', rfl, ?_, ?_, fun k hk => (HH.out.2.1 k hk).elim (fun e => by have e : k = w2.heap.size := e; have := HSw.out; omega) (fun h => by omega)⟩
      · rw [← HPv.out, if_pos hz, hz]
        rfl
      · have h1 := HH.out.1
        unfold putV at h1
        rw [if_pos hz] at h1
        exact h1
    · rw [if_pos hz]
      exact Or.inr ⟨rfl, by rw [← HPv.out, if_neg hz]; rfl, HH.out.1.disk⟩

end Go.Proofs.YtbjagmlbamjdbaaGreat.wals
end
