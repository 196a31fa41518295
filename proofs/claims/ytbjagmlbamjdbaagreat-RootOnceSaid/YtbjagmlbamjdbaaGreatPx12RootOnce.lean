/- . -/
import Derived.Test.YtbjagmlbamjdbaaGreatPx11RootOnce
import Derived.Deep.Cut

set_option linter.unusedSimpArgs false
set_option linter.unusedVariables false
section
namespace Go.Proofs.YtbjagmlbamjdbaaGreat.wals
open Go.RowKit Go.My disks bufs
set_option maxRecDepth 100000

variable {w w' : World} {l d : Nat} {F Fd : Nat → Prop} {X : DV} {V : LV} {rv tv wv : Value}

set_option maxHeartbeats 8000000 in
theorem open_stands (w : World) (h : DiskAt w d Fd X) (hdn : X.down = false) (h6 : 6 ≤ X.B.length) (hle : X.B.length ≤ 4096) (hf : X.fuse ≤ 9223372036854775807) (hL : ∀ j, (X.L j).length < 500000) (hc64 : ∀ i, i < X.B.length → (X.cur i).length = 64) (hne : ¬ (X.cur 0 = zeros 64 ∧ X.cur 1 = zeros 64))
    (s a u : Nat) (hpk : pick (readH (X.cur 0) 0 (64 * areaN X.B.length)) (readH (X.cur 1) 1 (64 * areaN X.B.length)) = some (s, a, u)) (ha : a ≤ 1) (hu : u ≤ 64 * areaN X.B.length) (rs : List Blk) (hsh : ∀ r ∈ rs, r.length ≤ 4096) (hrs : (bytesOf X (firstN X.B.length a) ((u + 63) / 64)).take u = framesB rs) :
    Calls Tryz.prog 58 #[.pointer (some ⟨d, 0, none⟩)] w (OpenPost w d Fd (0, X, some ⟨s, a, u, rs, (framesB rs).drop (u / 64 * 64), [], 0, false⟩)) := by
  have HPk := Lib.hid hpk
  have HUa := Lib.hid (And.intro ha hu)
  have HRs := Lib.hid hrs
  have HSh := Lib.hid hsh
  have H64 := Lib.hid hc64
  obtain ⟨m, hm⟩ : ∃ m, areaN X.B.length = m := ⟨_, rfl⟩
  have HM := Lib.hid hm
  have im : (m : Int) ≤ 2047 := by have := areaN_le hle; omega
  have hD : (∀ b1 b2 : Blk, X.cur 0 = b1 → X.cur 1 = b2 → decide (b1 = zeros 64) = false ∧ True) ∨ (∀ b1 b2 : Blk, X.cur 0 = b1 → X.cur 1 = b2 → decide (b1 = zeros 64) = true ∧ decide (b2 = zeros 64) = false) := by
    by_cases h0 : X.cur 0 = zeros 64
    · exact Or.inr (fun b1 b2 h1 h2 => ⟨decide_eq_true (h1 ▸ h0), decide_eq_false (fun e => hne ⟨h0, h2.trans e⟩)⟩)
    · exact Or.inl (fun b1 b2 h1 _ => ⟨decide_eq_false (fun e => h0 (h1.trans e)), trivial⟩)
  clear hpk ha hu hrs hsh hc64 hm hne
  rcases hD with hD | hD
  · have HD := Lib.hid hD
    clear hD
    have HFL := Lib.hid (And.intro hf hL)
    have HN := Lib.hid (And.intro h6 (And.intro hle hdn))
    have H := Lib.hid h
    have HR0 := Lib.hid (read_at w h hdn 0 (by omega) hle)
    obtain ⟨n, hn⟩ : ∃ n, X.B.length = n := ⟨_, rfl⟩
    have HNn := Lib.hid hn
    have i1 : (6 : Int) ≤ n := by omega
    clear hf hL h6 hle hdn h hn
    go_enter Tryz.func58, Tryz.ntmps58
    go_wp2_with (first
      | (go_at_call 101; fail))
    refine HR0.out.mono ?_
    rintro e w1 ⟨v1, rfl, ho1, hc1⟩
    obtain ⟨oa1, cap1, rfl⟩ := own_slice ho1
    have HO1 := Lib.hid ho1
    have HC1 := Lib.hid hc1
    have hbk := blocks_any w1 (H.out.kept hc1 (fun _ _ h => h))
    rw [HNn.out] at hbk
    have HBk := Lib.hid hbk
    have HR1 := Lib.hid (read_at w1 (H.out.kept hc1 (fun _ _ h => h)) HN.out.2.2 1 (by have := HN.out; omega) HN.out.2.1)
    clear ho1 hc1 HR0 hbk
    dsimp only
    go_wp2_with (first
      | (go_at_call 102; refine HBk.out.mono ?_; rintro e w' ⟨rfl, rfl⟩)
      | (go_at_call 101; fail))
    refine HR1.out.mono ?_
    rintro e w2 ⟨v2, rfl, ho2, hc2⟩
    obtain ⟨oa2, cap2, rfl⟩ := own_slice ho2
    have HO2 := Lib.hid ho2
    have HC2 := Lib.hid hc2
    clear ho2 hc2 HR1 HBk
    dsimp only
    go_wp2_with fail
    obtain ⟨w3, hw3⟩ : ∃ w3, w2.alloc (.cells #[.pointer (some ⟨d, 0, none⟩), .int .i64 0, .int .i64 0, .int .i64 0, .slice none 0 0, .slice none 0 0, .slice none 0 0, .int .i64 0, .bool false] 177) = w3 := ⟨_, rfl⟩
    have hc3 : Chg (fun _ => False) w2 w3 := by rw [← hw3]; exact (Chg.refl _ _).alloc _
    have hlg : LogIs w3 w2.heap.size d (· = w2.heap.size) ⟨0, 0, 0, [], [], [], 0, false⟩ (.slice none 0 0) (.slice none 0 0) (.slice none 0 0) := by
      rw [← hw3]
      have hn : ∀ {g : Nat}, (Value.slice none 0 0).ownBlock = some g → False := fun h => by simp [Value.ownBlock] at h
      exact ⟨at1, ⟨rfl, Or.inl ⟨rfl, rfl⟩⟩, ⟨rfl, Or.inl ⟨rfl, rfl⟩⟩, ⟨rfl, Or.inl ⟨rfl, rfl⟩⟩, fun g h => (hn h).elim, rfl, fun g h => (hn h).elim, fun g h => (hn h).elim, fun g h => (hn h).elim, fun k hk => by rw [World.size_alloc]; have : k = w2.heap.size := hk; omega⟩
    rw [hw3]
    have HC3 := Lib.hid ((HC1.out.trans' HC2.out).trans' hc3)
    have HLg := Lib.hid hlg
    obtain ⟨b1, hb1⟩ : ∃ b1, X.cur 0 = b1 := ⟨_, rfl⟩
    obtain ⟨b2, hb2⟩ : ∃ b2, X.cur 1 = b2 := ⟨_, rfl⟩
    rw [hb1] at HO1
    rw [hb2] at HO2
    have hl1 : b1.length = 64 := by have := HO1.out.1; rw [cellsB_length] at this; omega
    have hl2 : b2.length = 64 := by have := HO2.out.1; rw [cellsB_length] at this; omega
    obtain ⟨g1, cc1, e1, hg1, hg1'⟩ := own_nonnil HO1.out (by intro e; rw [e] at hl1; simp at hl1)
    obtain ⟨g2, cc2, e2, hg2, hg2'⟩ := own_nonnil HO2.out (by intro e; rw [e] at hl2; simp at hl2)
    simp only [Value.slice.injEq] at e1 e2
    obtain ⟨rfl, -, rfl⟩ := e1
    obtain ⟨rfl, -, rfl⟩ := e2
    have hrg1 := own_range (own_kept HO1.out (HC2.out.trans' hc3))
    have hrg2 := own_range (own_kept HO2.out hc3)
    have HG1 := Lib.hid hrg1
    have HG2 := Lib.hid hrg2
    have hz1 : (cellsB b1).length = 64 := by rw [cellsB_length, hl1]
    have hz2 : (cellsB b2).length = 64 := by rw [cellsB_length, hl2]
    have HZ1 := Lib.hid (show (Tryz.prog.info? 178).map (·.size) = some (cellsB b1).length by rw [hz1]; exact size_wblock)
    have HZ2 := Lib.hid (show (Tryz.prog.info? 178).map (·.size) = some (cellsB b2).length by rw [hz2]; exact size_wblock)
    have HB := Lib.hid (And.intro hb1 (And.intro hb2 (And.intro hl1 hl2)))
    have HD1 := Lib.hid (HD.out b1 b2 hb1 hb2).1
    have HD2 := Lib.hid (HD.out b1 b2 hb1 hb2).2
    have HSz := Lib.hid (show g1 < w2.heap.size ∧ g2 < w2.heap.size from ⟨Nat.lt_of_lt_of_le hg1' HC2.out.size, hg2'⟩)
    clear hw3 hc3 hlg hb1 hb2 hl1 hl2 hg1 hg1' hg2 hg2' hrg1 hrg2 hz1 hz2
    have hsa1 : ∀ w', (Instr.arrayAt 178 (.slice (some ⟨g1, 0, none⟩) 64 cap1)).run Tryz.prog w' = .ok (.pointer (some ⟨g1, 0, none⟩)) w' := fun w' => run_arrayAt _ _ _ 64 _ _ _ Tryz.underlying178 (by omega)
    have hsa2 : ∀ w', (Instr.arrayAt 178 (.slice (some ⟨g2, 0, none⟩) 64 cap2)).run Tryz.prog w' = .ok (.pointer (some ⟨g2, 0, none⟩)) w' := fun w' => run_arrayAt _ _ _ 64 _ _ _ Tryz.underlying178 (by omega)
    go_cut [8, 9] from 10 (fun s8 s9 wx => ∃ bx by' : Nat, s8 = .pointer (some ⟨bx, 0, none⟩) ∧ s9 = .pointer (some ⟨by', 0, none⟩) ∧ bx ≠ by' ∧ (w3.heap.size ≤ bx ∧ w3.heap.size ≤ by') ∧ Arr wx bx 178 (cellsB b1) ∧ Arr wx by' 178 (cellsB b2) ∧ Chg (fun _ => False) w3 wx)
    case first =>
      refine wp_region_noPanic ?_
      refine wp_region_held_drew (S := (fun w' => w'.rangeAt g1 0 (cellsB b1) ∧ w'.rangeAt g2 0 (cellsB b2))) (by kernel_rfl) (⟨HG1.out, HG2.out⟩) (fun hHeld => ?_)
      refine tk 0 (v := ?_) hHeld rfl (fun w hSw => ?_) ?_
      rotate_left
      · go_simp
        try with_reducible rfl
      simp only [Act.put, zA, zB, zC]
      refine tk 1 (v := ?_) hHeld rfl (fun w hSw => ?_) ?_
      rotate_left
      · go_simp
        try with_reducible rfl
      simp only [Act.put, zA, zB, zC]
      refine take_list (i := 2) rfl (by kernel_rfl) (by kernel_rfl) (by kernel_rfl) (fun _ _ _ h => h) ((yieldsIf_load_mid (by rfl) _ _ rfl _ _ rfl (cellsB b1) _ (fun w h => h.1) Tryz.underlying178 rfl HZ1.out)) hHeld ?_
      simp only [Act.put, zA, zB, zC]
      refine tk 3 (v := ?_) hHeld rfl (fun w hSw => ?_) ?_
      rotate_left
      · go_simp
        try with_reducible rfl
      simp only [Act.put, zA, zB, zC]
      refine tk 4 (v := ?_) hHeld rfl (fun w hSw => ?_) ?_
      rotate_left
      · go_simp
        try with_reducible rfl
      simp only [Act.put, zA, zB, zC]
      refine take_list (i := 5) rfl (by kernel_rfl) (by kernel_rfl) (by kernel_rfl) (fun _ _ _ h => h) ((yieldsIf_load_mid (by rfl) _ _ rfl _ _ rfl (cellsB b2) _ (fun w h => h.2) Tryz.underlying178 rfl HZ2.out)) hHeld ?_
      simp only [Act.put, zA, zB, zC]
      refine wpAnyH_ready (rs := [6, 7]) (by kernel_rfl) (by simp) (one_list (i := 6) rfl (by rfl) (fun K hK => ?_) (one_list (i := 7) rfl (by rfl) (fun K hK => ?_) AllReadyH.nil))
      · go_simp
        refine forget_zeros w3 _ (fun wz hZ hcz hsz => ?_)
        have HZa := Lib.hid hZ
        have hcz3 := hcz
        refine hK _ _ (⟨hcz.range HG1.out, hcz.range HG2.out⟩) (fun hH2 => ?_)
        try simp only [Act.put, zA, zB, zC]
        refine on1 7 rfl (fun K hK => ?_)
        go_simp
        refine forget_zeros' wz _ (fun wy hY hcy hsy => ?_)
        have hcw : Chg (fun _ => False) w3 wy := hcz.trans' hcy
        rw [hsz] at hY
        refine hK _ _ (⟨hcw.range HG1.out, hcw.range HG2.out⟩) (fun hH3 => ?_)
        try simp only [Act.put, zA, zB, zC]
        have hZx : Arr wy w3.heap.size 178 (List.replicate 64 (.int .u8 0)) := by first | exact hY | exact hcy.at hZ id
        have hZy : Arr wy (w3.heap.size + 1) 178 (List.replicate 64 (.int .u8 0)) := by first | exact hY | exact hcy.at hZ id
        have hxy : w3.heap.size ≠ (w3.heap.size + 1) := by omega
        have hbx : w3.heap.size ≤ w3.heap.size ∧ w3.heap.size ≤ (w3.heap.size + 1) := by omega
        have s1 := Arr.store hZx (vs := cellsB b1) (by rw [List.length_replicate, cellsB_length]; exact HB.out.2.2.1)
        have s2 := Arr.store (s1.chg.at hZy (by omega)) (vs := cellsB b2) (by rw [List.length_replicate, cellsB_length]; exact HB.out.2.2.2)
        have t1 := Arr.there hZx
        have t2 := Arr.there (s1.chg.at hZy (by omega) : Arr _ _ _ _)
        rw [List.length_replicate, ← HB.out.2.2.1, ← cellsB_length] at t1
        rw [List.length_replicate, ← HB.out.2.2.2, ← cellsB_length] at t2
        have hAx := s2.chg.at s1.arr (by omega)
        have hAy := s2.arr
        have hc45 : Chg (fun _ => False) w3 ((wy.setCells w3.heap.size 0 (cellsB b1)).setCells (w3.heap.size + 1) 0 (cellsB b2)) := (hcw.new s1.chg (fun i e => by have e : i = w3.heap.size := e; omega)).new s2.chg (fun i e => by have e : i = (w3.heap.size + 1) := e; omega)
        have hc44 : Chg (fun _ => False) w3 (wy.setCells w3.heap.size 0 (cellsB b1)) := hcw.new s1.chg (fun i e => by have e : i = w3.heap.size := e; omega)
        refine on1 8 rfl (fun K hK => ?_)
        refine wp_store_mid 178 _ _ rfl (w3.heap.size) 0 (cellsB b1).toArray rfl rfl t1 HZ1.out (all_oneCell_toArray (one_cellsB b1)) ?_
        rw [List.toList_toArray]
        refine hK _ _ ⟨hc44.range HG1.out, hc44.range HG2.out⟩ (fun hH4 => ?_)
        try simp only [Act.put, zA, zB, zC]
        refine on1 9 rfl (fun K hK => ?_)
        refine wp_store_mid 178 _ _ rfl ((w3.heap.size + 1)) 0 (cellsB b2).toArray rfl rfl t2 HZ2.out (all_oneCell_toArray (one_cellsB b2)) ?_
        rw [List.toList_toArray]
        refine hK _ _ ⟨hc45.range HG1.out, hc45.range HG2.out⟩ (fun hH5 => ?_)
        try simp only [Act.put, zA, zB, zC]
        refine wpAnyH_done (by kernel_rfl) ?_ _
        refine NoPanic.normal ?_
        obtain ⟨wE, hwE⟩ : ∃ wE, (wy.setCells w3.heap.size 0 (cellsB b1)).setCells (w3.heap.size + 1) 0 (cellsB b2) = wE := ⟨_, rfl⟩
        rw [hwE] at hAx hAy hc45 ⊢
        go_wp2_with fail
        go_meet
        exact ⟨_, _, rfl, rfl, hxy, hbx, hAx, hAy, hc45⟩
      · go_simp
        refine forget_zeros w3 _ (fun wz hZ hcz hsz => ?_)
        have HZa := Lib.hid hZ
        have hcz3 := hcz
        refine hK _ _ (⟨hcz.range HG1.out, hcz.range HG2.out⟩) (fun hH2 => ?_)
        try simp only [Act.put, zA, zB, zC]
        refine on1 6 rfl (fun K hK => ?_)
        go_simp
        refine forget_zeros' wz _ (fun wy hY hcy hsy => ?_)
        have hcw : Chg (fun _ => False) w3 wy := hcz.trans' hcy
        rw [hsz] at hY
        refine hK _ _ (⟨hcw.range HG1.out, hcw.range HG2.out⟩) (fun hH3 => ?_)
        try simp only [Act.put, zA, zB, zC]
        have hZx : Arr wy (w3.heap.size + 1) 178 (List.replicate 64 (.int .u8 0)) := by first | exact hY | exact hcy.at hZ id
        have hZy : Arr wy w3.heap.size 178 (List.replicate 64 (.int .u8 0)) := by first | exact hY | exact hcy.at hZ id
        have hxy : (w3.heap.size + 1) ≠ w3.heap.size := by omega
        have hbx : w3.heap.size ≤ (w3.heap.size + 1) ∧ w3.heap.size ≤ w3.heap.size := by omega
        have s1 := Arr.store hZx (vs := cellsB b1) (by rw [List.length_replicate, cellsB_length]; exact HB.out.2.2.1)
        have s2 := Arr.store (s1.chg.at hZy (by omega)) (vs := cellsB b2) (by rw [List.length_replicate, cellsB_length]; exact HB.out.2.2.2)
        have t1 := Arr.there hZx
        have t2 := Arr.there (s1.chg.at hZy (by omega) : Arr _ _ _ _)
        rw [List.length_replicate, ← HB.out.2.2.1, ← cellsB_length] at t1
        rw [List.length_replicate, ← HB.out.2.2.2, ← cellsB_length] at t2
        have hAx := s2.chg.at s1.arr (by omega)
        have hAy := s2.arr
        have hc45 : Chg (fun _ => False) w3 ((wy.setCells (w3.heap.size + 1) 0 (cellsB b1)).setCells w3.heap.size 0 (cellsB b2)) := (hcw.new s1.chg (fun i e => by have e : i = (w3.heap.size + 1) := e; omega)).new s2.chg (fun i e => by have e : i = w3.heap.size := e; omega)
        have hc44 : Chg (fun _ => False) w3 (wy.setCells (w3.heap.size + 1) 0 (cellsB b1)) := hcw.new s1.chg (fun i e => by have e : i = (w3.heap.size + 1) := e; omega)
        refine on1 8 rfl (fun K hK => ?_)
        refine wp_store_mid 178 _ _ rfl ((w3.heap.size + 1)) 0 (cellsB b1).toArray rfl rfl t1 HZ1.out (all_oneCell_toArray (one_cellsB b1)) ?_
        rw [List.toList_toArray]
        refine hK _ _ ⟨hc44.range HG1.out, hc44.range HG2.out⟩ (fun hH4 => ?_)
        try simp only [Act.put, zA, zB, zC]
        refine on1 9 rfl (fun K hK => ?_)
        refine wp_store_mid 178 _ _ rfl (w3.heap.size) 0 (cellsB b2).toArray rfl rfl t2 HZ2.out (all_oneCell_toArray (one_cellsB b2)) ?_
        rw [List.toList_toArray]
        refine hK _ _ ⟨hc45.range HG1.out, hc45.range HG2.out⟩ (fun hH5 => ?_)
        try simp only [Act.put, zA, zB, zC]
        refine wpAnyH_done (by kernel_rfl) ?_ _
        refine NoPanic.normal ?_
        obtain ⟨wE, hwE⟩ : ∃ wE, (wy.setCells (w3.heap.size + 1) 0 (cellsB b1)).setCells w3.heap.size 0 (cellsB b2) = wE := ⟨_, rfl⟩
        rw [hwE] at hAx hAy hc45 ⊢
        go_wp2_with fail
        go_meet
        exact ⟨_, _, rfl, rfl, hxy, hbx, hAx, hAy, hc45⟩
    case rest =>
      obtain ⟨bx, by', rfl, rfl, hxy, hbx, hAx, hAy, hc45⟩ := hcut
      have HAx := Lib.hid hAx
      have HAy := Lib.hid hAy
      have HC5 := Lib.hid hc45
      have HXY := Lib.hid (And.intro hxy hbx)
      clear hAx hAy hc45 hxy hbx hsa1 hsa2
      have HEg := Lib.hid (show Tryz.prog.eqGuardType Tryz.prog.depth 178 = false by kernel_rfl)
      rename World => wE
      go_wp2_with (first
        | (refine wpList_yields (S := fun w' => w' = wE) (yieldsIf_load_mid (by rfl) 178 _ rfl bx 0 rfl (cellsB b1) _ (fun w h => h ▸ Arr.range HAx.out) Tryz.underlying178 rfl HZ1.out) rfl ?_)
        | (refine wpList_yields (S := fun w' => w' = wE) (yieldsIf_load_mid (by rfl) 178 _ rfl by' 0 rfl (cellsB b2) _ (fun w h => h ▸ Arr.range HAy.out) Tryz.underlying178 rfl HZ2.out) rfl ?_)
        | (refine wpList_yields (S := fun _ => True) (yieldsIf_eql_block (by rfl) _ _ _ rfl b1 (zeros 64) rfl rfl Tryz.underlying178 HB.out.2.2.1 rfl HEg.out) trivial ?_; rw [HD1.out])
        | (refine wpList_yields (S := fun _ => True) (yieldsIf_eql_block (by rfl) _ _ _ rfl b2 (zeros 64) rfl rfl Tryz.underlying178 HB.out.2.2.2 rfl HEg.out) trivial ?_; rw [HD2.out])
        | (go_at_call 104; fail))
      have hszw : w.heap.size ≤ w2.heap.size := (HC1.out.trans' HC2.out).size
      have hla : LogAt wE w2.heap.size d (· = w2.heap.size) Fd X ⟨0, 0, 0, [], [], [], 0, false⟩ := ⟨⟨_, _, _, HLg.out.kept HC5.out (fun _ _ h => h)⟩, H.out.kept (HC3.out.trans' HC5.out) (fun _ _ h => h), fun k hk hF => by
        have hk : k = w2.heap.size := hk
        have := H.out.lt k hF
        omega⟩
      have har := area_any wE hla (by have := HN.out.1; omega) HN.out.2.1
      rw [HM.out] at har
      have HAr := Lib.hid har
      have HLa := Lib.hid hla
      have HSw := Lib.hid hszw
      clear har hla hszw
      refine HAr.out.mono ?_
      rintro e w' ⟨rfl, rfl⟩
      dsimp only
      go_wp2_with (first
        | (refine wpList_yields (S := fun w' => w' = wE) (yieldsIf_load_mid (by rfl) 178 _ rfl (bx) 0 rfl (cellsB b1) _ (fun w h => h ▸ Arr.range HAx.out) Tryz.underlying178 rfl HZ1.out) rfl ?_)
        | (go_at_call 105; fail))
      refine (read_any _ b1 HB.out.2.2.1 0 (64 * m) (by omega) (by omega)).mono ?_
      rintro e w6 ⟨s1, a1, k1, ok1, rfl, hr1, hs1, hc6⟩
      obtain ⟨w7, hw7⟩ : ∃ w7, w6.alloc (.cells #[.int .i64 s1, .int .i64 a1, .int .i64 k1] 175) = w7 := ⟨_, rfl⟩
      have hc7 : Chg (fun _ => False) w6 w7 := by rw [← hw7]; exact (Chg.refl _ _).alloc _
      have hA17 : Arr w7 w6.heap.size 175 [.int .i64 s1, .int .i64 a1, .int .i64 k1] := by rw [← hw7]; exact at1
      have hAy7 : Arr w7 (by') 178 (cellsB b2) := hc7.at (hc6.at HAy.out id) id
      have HAy6 := Lib.hid (show Arr (w6.alloc (.cells #[.int .i64 s1, .int .i64 a1, .int .i64 k1] 175)) (by') 178 (cellsB b2) from by rw [hw7]; exact hAy7)
      have HA17 := Lib.hid hA17
      have HW7 := Lib.hid hw7
      have HC7 := Lib.hid (hc6.trans' hc7)
      have HRd1 := Lib.hid (And.intro hr1 hs1)
      have hc36 := hc6
      clear hr1 hs1 hc6 hc7 hA17 hAy7 hw7
      dsimp only
      go_wp2_with (first
        | (refine wpList_store_new rfl 175 _ _ rfl #[.int .i64 s1, .int .i64 a1, .int .i64 k1] rfl rfl size_head rfl (head_ones _ _ _) ?_)
        | (refine wpList_load_mid rfl 178 _ rfl (by') 0 rfl (cellsB b2) _ (Arr.range HAy6.out) Tryz.underlying178 rfl HZ2.out ?_)
        | (go_at_call 105; fail))
      rw [HW7.out]
      refine (read_any _ b2 HB.out.2.2.2 1 (64 * m) (by omega) (by omega)).mono ?_
      rintro e w8 ⟨s2, a2, k2, ok2, rfl, hr2, hs2, hc8⟩
      obtain ⟨w9, hw9⟩ : ∃ w9, w8.alloc (.cells #[.int .i64 s2, .int .i64 a2, .int .i64 k2] 175) = w9 := ⟨_, rfl⟩
      have hc9 : Chg (fun _ => False) w8 w9 := by rw [← hw9]; exact (Chg.refl _ _).alloc _
      have hA29 : Arr w9 w8.heap.size 175 [.int .i64 s2, .int .i64 a2, .int .i64 k2] := by rw [← hw9]; exact at1
      have hA19 : Arr w9 w6.heap.size 175 [.int .i64 s1, .int .i64 a1, .int .i64 k1] := hc9.at (hc8.at HA17.out id) id
      have h12 : w6.heap.size < w8.heap.size := Nat.lt_of_lt_of_le (lt_of_block HA17.out) hc8.size
      have HA29 := Lib.hid hA29
      have HA19 := Lib.hid hA19
      have HW9 := Lib.hid hw9
      have HC9 := Lib.hid ((HC7.out.trans' hc8).trans' hc9)
      have hr1' := HRd1.out.1
      have hr2' := hr2
      have HL12 := Lib.hid h12
      have hlg9 := (HLg.out.kept HC5.out (fun _ _ h => h)).kept HC9.out (fun _ _ h => h)
      have hC9 : Chg (fun _ => False) w w9 := (HC3.out.trans' HC5.out).trans' HC9.out
      have HLg9 := Lib.hid hlg9
      have HW9c := Lib.hid hC9
      have HTh := Lib.hid (log_there hlg9)
      have f1 : (w8.alloc (.cells #[.int .i64 s2, .int .i64 a2, .int .i64 k2] 175)).cell? ⟨w6.heap.size, 0, none⟩ = some (.int .i64 s1) := by rw [hw9]; exact hA19.cell rfl
      have f2 : (w8.alloc (.cells #[.int .i64 s2, .int .i64 a2, .int .i64 k2] 175)).cell? ⟨w8.heap.size, 0, none⟩ = some (.int .i64 s2) := by rw [hw9]; exact hA29.cell rfl
      rw [← hw9] at HA19 HA29 HTh HLg9 HW9c
      have HT19 : Hid ((w8.alloc (.cells #[.int .i64 s2, .int .i64 a2, .int .i64 k2] 175)).there w6.heap.size 0 3) := Lib.hid (Arr.there HA19.out)
      have hcc : Chg (· = w6.heap.size) (w8.alloc (.cells #[.int .i64 s2, .int .i64 a2, .int .i64 k2] 175)) ((w8.alloc (.cells #[.int .i64 s2, .int .i64 a2, .int .i64 k2] 175)).setCells w6.heap.size 0 [.int .i64 s2, .int .i64 a2, .int .i64 k2]) := chg_setCells w6.heap.size _ 0 _
      have HA1c := Lib.hid (show Arr ((w8.alloc (.cells #[.int .i64 s2, .int .i64 a2, .int .i64 k2] 175)).setCells w6.heap.size 0 [.int .i64 s2, .int .i64 a2, .int .i64 k2]) w6.heap.size 175 [.int .i64 s2, .int .i64 a2, .int .i64 k2] from Arr.all HA19.out rfl)
      have hl6 : w2.heap.size < w6.heap.size := by
        have h1 := HLg.out.lt _ rfl
        have h2 := (HC5.out.trans' hc36).size
        omega
      have hlgc := LogIs.kept (by rw [hw9]; exact hlg9 : LogIs (w8.alloc (.cells #[.int .i64 s2, .int .i64 a2, .int .i64 k2] 175)) w2.heap.size d (· = w2.heap.size) ⟨0, 0, 0, [], [], [], 0, false⟩ _ _ _) hcc (fun k hk e => by have hk : k = w2.heap.size := hk; have e : k = w6.heap.size := e; omega)
      obtain ⟨wk, hwk⟩ : ∃ wk, (w8.alloc (.cells #[.int .i64 s2, .int .i64 a2, .int .i64 k2] 175)).setCells w6.heap.size 0 [.int .i64 s2, .int .i64 a2, .int .i64 k2] = wk := ⟨_, rfl⟩
      rw [hwk] at HA1c hcc hlgc
      obtain ⟨wl, hwl⟩ : ∃ wl, wk.setCells w2.heap.size 1 [.int .i64 s2, .int .i64 a2, .int .i64 k2] = wl := ⟨_, rfl⟩
      obtain ⟨wm, hwm⟩ : ∃ wm, (w8.alloc (.cells #[.int .i64 s2, .int .i64 a2, .int .i64 k2] 175)).setCells w2.heap.size 1 [.int .i64 s1, .int .i64 a1, .int .i64 k1] = wm := ⟨_, rfl⟩
      have HWk := Lib.hid hwk
      have HWl := Lib.hid hwl
      have HWm := Lib.hid hwm
      clear hwk hwl hwm
      have HLgc := Lib.hid hlgc
      have HThc := Lib.hid (log_there hlgc)
      have HCc := Lib.hid hcc
      have HL26 := Lib.hid hl6
      clear hcc hlgc hl6 hc36
      have hp := HPk.out
      rw [HM.out, HB.out.1, HB.out.2.1, hr1', hr2'] at hp
      clear hr2 hs2 hc8 hc9 hA29 hA19 hw9 h12 hlg9 hC9 hr2' hr1'
      dsimp only
      go_upto_region 16 with (first
        | (refine wpList_store_new rfl 175 _ _ rfl #[.int .i64 s2, .int .i64 a2, .int .i64 k2] rfl rfl size_head rfl (head_ones _ _ _) ?_))
      go_cut [11, 12, 13, 14, 75] from 15 (fun s11 s12 s13 s14 s75 wx => s11 = .pointer (some ⟨w6.heap.size, 0, none⟩) ∧ s12 = .bool ok1 ∧ s13 = .pointer (some ⟨w8.heap.size, 0, none⟩) ∧ s14 = .bool ok2 ∧ s75 = .bool false ∧ wx = w8.alloc (.cells #[.int .i64 s2, .int .i64 a2, .int .i64 k2] 175))
      case first =>
        cases ok1 <;> cases ok2
        · simp [pick] at hp
        all_goals (clear hp; go_wp2_with fail; go_meet; exact ⟨rfl, rfl, rfl, rfl, rfl, rfl⟩)
      case rest =>
        obtain ⟨rfl, rfl, rfl, rfl, rfl, rfl⟩ := hcut
        cases ok1 <;> cases ok2
        · simp [pick] at hp
        · obtain ⟨rfl, rfl, rfl⟩ : s2 = s ∧ a2 = a ∧ k2 = u := by simpa [pick] using hp
          clear hp
          go_wp2_with (first
            | (refine wpList_load_mid rfl 175 _ rfl w8.heap.size 0 rfl [.int .i64 s2, .int .i64 a2, .int .i64 k2] _ (Arr.range HA29.out) Tryz.underlying175 rfl size_head ?_)
            | (refine wpList_store_mid rfl 175 _ _ rfl w6.heap.size 0 #[.int .i64 s2, .int .i64 a2, .int .i64 k2] rfl rfl HT19.out size_head (head_ones _ _ _) ?_; rw [show (w8.alloc (.cells #[.int .i64 s2, .int .i64 a2, .int .i64 k2] 175)).setCells w6.heap.size 0 (#[.int .i64 s2, .int .i64 a2, .int .i64 k2] : Array Value).toList = wk from HWk.out])
            | (refine wpList_load_mid rfl 175 _ rfl w6.heap.size 0 rfl [.int .i64 s2, .int .i64 a2, .int .i64 k2] _ (Arr.range HA1c.out) Tryz.underlying175 rfl size_head ?_)
            | (refine wpList_store_mid rfl 175 _ _ rfl w2.heap.size 1 #[.int .i64 s2, .int .i64 a2, .int .i64 k2] rfl rfl HThc.out size_head (head_ones _ _ _) ?_; rw [show wk.setCells w2.heap.size 1 (#[.int .i64 s2, .int .i64 a2, .int .i64 k2] : Array Value).toList = wl from HWl.out])
            | (go_at_call 106; fail))
          obtain ⟨hl8, hc8⟩ := LogIs.setHead HLgc.out s2 a2 k2
          rw [HWl.out] at hl8 hc8
          have hcw := (show Chg (fun _ => False) w _ from (HW9c.out.new HCc.out (fun i e => by have e : i = w6.heap.size := e; have := HL26.out; have := HSw.out; omega))).new hc8 (fun i e => by have e : i = w2.heap.size := e; have := HSw.out; omega)
          have hlo := (⟨⟨_, _, _, hl8⟩, H.out.kept hcw (fun _ _ h => h), fun k hk hF => by
            have hk : k = w2.heap.size := hk
            have := H.out.lt k hF
            have := HSw.out
            omega⟩ : LogAt _ w2.heap.size d (· = w2.heap.size) Fd X ⟨s2, a2, k2, [], [], [], 0, false⟩)
          have hld := load_any _ s2 a2 k2 hlo HN.out.2.2 HN.out.1 HN.out.2.1 HUa.out.1 HUa.out.2 H64.out rs HSh.out HRs.out
          have HCw := Lib.hid hcw
          refine hld.mono ?_
          clear hl8 hc8 hcw hlo hld
          rintro e w10 ⟨rfl, F', h1, h2, h3⟩
          have HH := Lib.hid (And.intro h1 (And.intro h2 h3))
          clear h1 h2 h3
          dsimp only
          go_wp2_with fail
          go_ret2
          have hsz := HCw.out.size
          refine ⟨Fd, fun k hk => Or.inl hk, (HCw.out.new HH.out.2.2 (fun i e => by have e : i = w2.heap.size := e; have := HSw.out; omega)).mono (fun _ _ h => h.elim), Or.inl ⟨_, w2.heap.size, F', rfl, rfl, HH.out.1, fun k hk => (HH.out.2.1 k hk).elim (fun e => by have e : k = w2.heap.size := e; have := HSw.out; omega) (fun h => by omega)⟩⟩
        · obtain ⟨rfl, rfl, rfl⟩ : s1 = s ∧ a1 = a ∧ k1 = u := by simpa [pick] using hp
          clear hp
          go_wp2_with (first
            | (refine wpList_load_mid rfl 175 _ rfl w6.heap.size 0 rfl [.int .i64 s1, .int .i64 a1, .int .i64 k1] _ (Arr.range HA19.out) Tryz.underlying175 rfl size_head ?_)
            | (refine wpList_store_mid rfl 175 _ _ rfl w2.heap.size 1 #[.int .i64 s1, .int .i64 a1, .int .i64 k1] rfl rfl HTh.out size_head (head_ones _ _ _) ?_; rw [show (w8.alloc (.cells #[.int .i64 s2, .int .i64 a2, .int .i64 k2] 175)).setCells w2.heap.size 1 (#[.int .i64 s1, .int .i64 a1, .int .i64 k1] : Array Value).toList = wm from HWm.out])
            | (go_at_call 106; fail))
          obtain ⟨hl8, hc8⟩ := LogIs.setHead HLg9.out s1 a1 k1
          rw [HWm.out] at hl8 hc8
          have hcw := (show Chg (fun _ => False) w _ from HW9c.out).new hc8 (fun i e => by have e : i = w2.heap.size := e; have := HSw.out; omega)
          have hlo := (⟨⟨_, _, _, hl8⟩, H.out.kept hcw (fun _ _ h => h), fun k hk hF => by
            have hk : k = w2.heap.size := hk
            have := H.out.lt k hF
            have := HSw.out
            omega⟩ : LogAt _ w2.heap.size d (· = w2.heap.size) Fd X ⟨s1, a1, k1, [], [], [], 0, false⟩)
          have hld := load_any _ s1 a1 k1 hlo HN.out.2.2 HN.out.1 HN.out.2.1 HUa.out.1 HUa.out.2 H64.out rs HSh.out HRs.out
          have HCw := Lib.hid hcw
          refine hld.mono ?_
          clear hl8 hc8 hcw hlo hld
          rintro e w10 ⟨rfl, F', h1, h2, h3⟩
          have HH := Lib.hid (And.intro h1 (And.intro h2 h3))
          clear h1 h2 h3
          dsimp only
          go_wp2_with fail
          go_ret2
          have hsz := HCw.out.size
          refine ⟨Fd, fun k hk => Or.inl hk, (HCw.out.new HH.out.2.2 (fun i e => by have e : i = w2.heap.size := e; have := HSw.out; omega)).mono (fun _ _ h => h.elim), Or.inl ⟨_, w2.heap.size, F', rfl, rfl, HH.out.1, fun k hk => (HH.out.2.1 k hk).elim (fun e => by have e : k = w2.heap.size := e; have := HSw.out; omega) (fun h => by omega)⟩⟩
        · by_cases hlt : s1 < s2
          · obtain ⟨rfl, rfl, rfl⟩ : s2 = s ∧ a2 = a ∧ k2 = u := by simpa [pick, hlt] using hp
            have hlt' : (s1 : Int) < (s2 : Int) := by omega
            clear hp
            go_wp2_with (first
              | (refine wpList_load_mid rfl 175 _ rfl w8.heap.size 0 rfl [.int .i64 s2, .int .i64 a2, .int .i64 k2] _ (Arr.range HA29.out) Tryz.underlying175 rfl size_head ?_)
              | (refine wpList_store_mid rfl 175 _ _ rfl w6.heap.size 0 #[.int .i64 s2, .int .i64 a2, .int .i64 k2] rfl rfl HT19.out size_head (head_ones _ _ _) ?_; rw [show (w8.alloc (.cells #[.int .i64 s2, .int .i64 a2, .int .i64 k2] 175)).setCells w6.heap.size 0 (#[.int .i64 s2, .int .i64 a2, .int .i64 k2] : Array Value).toList = wk from HWk.out])
              | (refine wpList_load_mid rfl 175 _ rfl w6.heap.size 0 rfl [.int .i64 s2, .int .i64 a2, .int .i64 k2] _ (Arr.range HA1c.out) Tryz.underlying175 rfl size_head ?_)
              | (refine wpList_store_mid rfl 175 _ _ rfl w2.heap.size 1 #[.int .i64 s2, .int .i64 a2, .int .i64 k2] rfl rfl HThc.out size_head (head_ones _ _ _) ?_; rw [show wk.setCells w2.heap.size 1 (#[.int .i64 s2, .int .i64 a2, .int .i64 k2] : Array Value).toList = wl from HWl.out])
              | (go_at_call 106; fail))
            obtain ⟨hl8, hc8⟩ := LogIs.setHead HLgc.out s2 a2 k2
            rw [HWl.out] at hl8 hc8
            have hcw := (show Chg (fun _ => False) w _ from (HW9c.out.new HCc.out (fun i e => by have e : i = w6.heap.size := e; have := HL26.out; have := HSw.out; omega))).new hc8 (fun i e => by have e : i = w2.heap.size := e; have := HSw.out; omega)
            have hlo := (⟨⟨_, _, _, hl8⟩, H.out.kept hcw (fun _ _ h => h), fun k hk hF => by
              have hk : k = w2.heap.size := hk
              have := H.out.lt k hF
              have := HSw.out
              omega⟩ : LogAt _ w2.heap.size d (· = w2.heap.size) Fd X ⟨s2, a2, k2, [], [], [], 0, false⟩)
            have hld := load_any _ s2 a2 k2 hlo HN.out.2.2 HN.out.1 HN.out.2.1 HUa.out.1 HUa.out.2 H64.out rs HSh.out HRs.out
            have HCw := Lib.hid hcw
            refine hld.mono ?_
            clear hl8 hc8 hcw hlo hld
            rintro e w10 ⟨rfl, F', h1, h2, h3⟩
            have HH := Lib.hid (And.intro h1 (And.intro h2 h3))
            clear h1 h2 h3
            dsimp only
            go_wp2_with fail
            go_ret2
            have hsz := HCw.out.size
            refine ⟨Fd, fun k hk => Or.inl hk, (HCw.out.new HH.out.2.2 (fun i e => by have e : i = w2.heap.size := e; have := HSw.out; omega)).mono (fun _ _ h => h.elim), Or.inl ⟨_, w2.heap.size, F', rfl, rfl, HH.out.1, fun k hk => (HH.out.2.1 k hk).elim (fun e => by have e : k = w2.heap.size := e; have := HSw.out; omega) (fun h => by omega)⟩⟩
          · obtain ⟨rfl, rfl, rfl⟩ : s1 = s ∧ a1 = a ∧ k1 = u := by simpa [pick, hlt] using hp
            have hlt' : (s2 : Int) ≤ (s1 : Int) := by omega
            clear hp
            go_wp2_with (first
              | (refine wpList_load_mid rfl 175 _ rfl w6.heap.size 0 rfl [.int .i64 s1, .int .i64 a1, .int .i64 k1] _ (Arr.range HA19.out) Tryz.underlying175 rfl size_head ?_)
              | (refine wpList_store_mid rfl 175 _ _ rfl w2.heap.size 1 #[.int .i64 s1, .int .i64 a1, .int .i64 k1] rfl rfl HTh.out size_head (head_ones _ _ _) ?_; rw [show (w8.alloc (.cells #[.int .i64 s2, .int .i64 a2, .int .i64 k2] 175)).setCells w2.heap.size 1 (#[.int .i64 s1, .int .i64 a1, .int .i64 k1] : Array Value).toList = wm from HWm.out])
              | (go_at_call 106; fail))
            obtain ⟨hl8, hc8⟩ := LogIs.setHead HLg9.out s1 a1 k1
            rw [HWm.out] at hl8 hc8
            have hcw := (show Chg (fun _ => False) w _ from HW9c.out).new hc8 (fun i e => by have e : i = w2.heap.size := e; have := HSw.out; omega)
            have hlo := (⟨⟨_, _, _, hl8⟩, H.out.kept hcw (fun _ _ h => h), fun k hk hF => by
              have hk : k = w2.heap.size := hk
              have := H.out.lt k hF
              have := HSw.out
              omega⟩ : LogAt _ w2.heap.size d (· = w2.heap.size) Fd X ⟨s1, a1, k1, [], [], [], 0, false⟩)
            have hld := load_any _ s1 a1 k1 hlo HN.out.2.2 HN.out.1 HN.out.2.1 HUa.out.1 HUa.out.2 H64.out rs HSh.out HRs.out
            have HCw := Lib.hid hcw
            refine hld.mono ?_
            clear hl8 hc8 hcw hlo hld
            rintro e w10 ⟨rfl, F', h1, h2, h3⟩
            have HH := Lib.hid (And.intro h1 (And.intro h2 h3))
            clear h1 h2 h3
            dsimp only
            go_wp2_with fail
            go_ret2
            have hsz := HCw.out.size
            refine ⟨Fd, fun k hk => Or.inl hk, (HCw.out.new HH.out.2.2 (fun i e => by have e : i = w2.heap.size := e; have := HSw.out; omega)).mono (fun _ _ h => h.elim), Or.inl ⟨_, w2.heap.size, F', rfl, rfl, HH.out.1, fun k hk => (HH.out.2.1 k hk).elim (fun e => by have e : k = w2.heap.size := e; have := HSw.out; omega) (fun h => by omega)⟩⟩
  · have HD := Lib.hid hD
    clear hD
    have HFL := Lib.hid (And.intro hf hL)
    have HN := Lib.hid (And.intro h6 (And.intro hle hdn))
    have H := Lib.hid h
    have HR0 := Lib.hid (read_at w h hdn 0 (by omega) hle)
    obtain ⟨n, hn⟩ : ∃ n, X.B.length = n := ⟨_, rfl⟩
    have HNn := Lib.hid hn
    have i1 : (6 : Int) ≤ n := by omega
    clear hf hL h6 hle hdn h hn
    go_enter Tryz.func58, Tryz.ntmps58
    go_wp2_with (first
      | (go_at_call 101; fail))
    refine HR0.out.mono ?_
    rintro e w1 ⟨v1, rfl, ho1, hc1⟩
    obtain ⟨oa1, cap1, rfl⟩ := own_slice ho1
    have HO1 := Lib.hid ho1
    have HC1 := Lib.hid hc1
    have hbk := blocks_any w1 (H.out.kept hc1 (fun _ _ h => h))
    rw [HNn.out] at hbk
    have HBk := Lib.hid hbk
    have HR1 := Lib.hid (read_at w1 (H.out.kept hc1 (fun _ _ h => h)) HN.out.2.2 1 (by have := HN.out; omega) HN.out.2.1)
    clear ho1 hc1 HR0 hbk
    dsimp only
    go_wp2_with (first
      | (go_at_call 102; refine HBk.out.mono ?_; rintro e w' ⟨rfl, rfl⟩)
      | (go_at_call 101; fail))
    refine HR1.out.mono ?_
    rintro e w2 ⟨v2, rfl, ho2, hc2⟩
    obtain ⟨oa2, cap2, rfl⟩ := own_slice ho2
    have HO2 := Lib.hid ho2
    have HC2 := Lib.hid hc2
    clear ho2 hc2 HR1 HBk
    dsimp only
    go_wp2_with fail
    obtain ⟨w3, hw3⟩ : ∃ w3, w2.alloc (.cells #[.pointer (some ⟨d, 0, none⟩), .int .i64 0, .int .i64 0, .int .i64 0, .slice none 0 0, .slice none 0 0, .slice none 0 0, .int .i64 0, .bool false] 177) = w3 := ⟨_, rfl⟩
    have hc3 : Chg (fun _ => False) w2 w3 := by rw [← hw3]; exact (Chg.refl _ _).alloc _
    have hlg : LogIs w3 w2.heap.size d (· = w2.heap.size) ⟨0, 0, 0, [], [], [], 0, false⟩ (.slice none 0 0) (.slice none 0 0) (.slice none 0 0) := by
      rw [← hw3]
      have hn : ∀ {g : Nat}, (Value.slice none 0 0).ownBlock = some g → False := fun h => by simp [Value.ownBlock] at h
      exact ⟨at1, ⟨rfl, Or.inl ⟨rfl, rfl⟩⟩, ⟨rfl, Or.inl ⟨rfl, rfl⟩⟩, ⟨rfl, Or.inl ⟨rfl, rfl⟩⟩, fun g h => (hn h).elim, rfl, fun g h => (hn h).elim, fun g h => (hn h).elim, fun g h => (hn h).elim, fun k hk => by rw [World.size_alloc]; have : k = w2.heap.size := hk; omega⟩
    rw [hw3]
    have HC3 := Lib.hid ((HC1.out.trans' HC2.out).trans' hc3)
    have HLg := Lib.hid hlg
    obtain ⟨b1, hb1⟩ : ∃ b1, X.cur 0 = b1 := ⟨_, rfl⟩
    obtain ⟨b2, hb2⟩ : ∃ b2, X.cur 1 = b2 := ⟨_, rfl⟩
    rw [hb1] at HO1
    rw [hb2] at HO2
    have hl1 : b1.length = 64 := by have := HO1.out.1; rw [cellsB_length] at this; omega
    have hl2 : b2.length = 64 := by have := HO2.out.1; rw [cellsB_length] at this; omega
    obtain ⟨g1, cc1, e1, hg1, hg1'⟩ := own_nonnil HO1.out (by intro e; rw [e] at hl1; simp at hl1)
    obtain ⟨g2, cc2, e2, hg2, hg2'⟩ := own_nonnil HO2.out (by intro e; rw [e] at hl2; simp at hl2)
    simp only [Value.slice.injEq] at e1 e2
    obtain ⟨rfl, -, rfl⟩ := e1
    obtain ⟨rfl, -, rfl⟩ := e2
    have hrg1 := own_range (own_kept HO1.out (HC2.out.trans' hc3))
    have hrg2 := own_range (own_kept HO2.out hc3)
    have HG1 := Lib.hid hrg1
    have HG2 := Lib.hid hrg2
    have hz1 : (cellsB b1).length = 64 := by rw [cellsB_length, hl1]
    have hz2 : (cellsB b2).length = 64 := by rw [cellsB_length, hl2]
    have HZ1 := Lib.hid (show (Tryz.prog.info? 178).map (·.size) = some (cellsB b1).length by rw [hz1]; exact size_wblock)
    have HZ2 := Lib.hid (show (Tryz.prog.info? 178).map (·.size) = some (cellsB b2).length by rw [hz2]; exact size_wblock)
    have HB := Lib.hid (And.intro hb1 (And.intro hb2 (And.intro hl1 hl2)))
    have HD1 := Lib.hid (HD.out b1 b2 hb1 hb2).1
    have HD2 := Lib.hid (HD.out b1 b2 hb1 hb2).2
    have HSz := Lib.hid (show g1 < w2.heap.size ∧ g2 < w2.heap.size from ⟨Nat.lt_of_lt_of_le hg1' HC2.out.size, hg2'⟩)
    clear hw3 hc3 hlg hb1 hb2 hl1 hl2 hg1 hg1' hg2 hg2' hrg1 hrg2 hz1 hz2
    have hsa1 : ∀ w', (Instr.arrayAt 178 (.slice (some ⟨g1, 0, none⟩) 64 cap1)).run Tryz.prog w' = .ok (.pointer (some ⟨g1, 0, none⟩)) w' := fun w' => run_arrayAt _ _ _ 64 _ _ _ Tryz.underlying178 (by omega)
    have hsa2 : ∀ w', (Instr.arrayAt 178 (.slice (some ⟨g2, 0, none⟩) 64 cap2)).run Tryz.prog w' = .ok (.pointer (some ⟨g2, 0, none⟩)) w' := fun w' => run_arrayAt _ _ _ 64 _ _ _ Tryz.underlying178 (by omega)
    go_cut [8, 9] from 10 (fun s8 s9 wx => ∃ bx by' : Nat, s8 = .pointer (some ⟨bx, 0, none⟩) ∧ s9 = .pointer (some ⟨by', 0, none⟩) ∧ bx ≠ by' ∧ (w3.heap.size ≤ bx ∧ w3.heap.size ≤ by') ∧ Arr wx bx 178 (cellsB b1) ∧ Arr wx by' 178 (cellsB b2) ∧ Chg (fun _ => False) w3 wx)
    case first =>
      refine wp_region_noPanic ?_
      refine wp_region_held_drew (S := (fun w' => w'.rangeAt g1 0 (cellsB b1) ∧ w'.rangeAt g2 0 (cellsB b2))) (by kernel_rfl) (⟨HG1.out, HG2.out⟩) (fun hHeld => ?_)
      refine tk 0 (v := ?_) hHeld rfl (fun w hSw => ?_) ?_
      rotate_left
      · go_simp
        try with_reducible rfl
      simp only [Act.put, zA, zB, zC]
      refine tk 1 (v := ?_) hHeld rfl (fun w hSw => ?_) ?_
      rotate_left
      · go_simp
        try with_reducible rfl
      simp only [Act.put, zA, zB, zC]
      refine take_list (i := 2) rfl (by kernel_rfl) (by kernel_rfl) (by kernel_rfl) (fun _ _ _ h => h) ((yieldsIf_load_mid (by rfl) _ _ rfl _ _ rfl (cellsB b1) _ (fun w h => h.1) Tryz.underlying178 rfl HZ1.out)) hHeld ?_
      simp only [Act.put, zA, zB, zC]
      refine tk 3 (v := ?_) hHeld rfl (fun w hSw => ?_) ?_
      rotate_left
      · go_simp
        try with_reducible rfl
      simp only [Act.put, zA, zB, zC]
      refine tk 4 (v := ?_) hHeld rfl (fun w hSw => ?_) ?_
      rotate_left
      · go_simp
        try with_reducible rfl
      simp only [Act.put, zA, zB, zC]
      refine take_list (i := 5) rfl (by kernel_rfl) (by kernel_rfl) (by kernel_rfl) (fun _ _ _ h => h) ((yieldsIf_load_mid (by rfl) _ _ rfl _ _ rfl (cellsB b2) _ (fun w h => h.2) Tryz.underlying178 rfl HZ2.out)) hHeld ?_
      simp only [Act.put, zA, zB, zC]
      refine wpAnyH_ready (rs := [6, 7]) (by kernel_rfl) (by simp) (one_list (i := 6) rfl (by rfl) (fun K hK => ?_) (one_list (i := 7) rfl (by rfl) (fun K hK => ?_) AllReadyH.nil))
      · go_simp
        refine forget_zeros w3 _ (fun wz hZ hcz hsz => ?_)
        have HZa := Lib.hid hZ
        have hcz3 := hcz
        refine hK _ _ (⟨hcz.range HG1.out, hcz.range HG2.out⟩) (fun hH2 => ?_)
        try simp only [Act.put, zA, zB, zC]
        refine on1 7 rfl (fun K hK => ?_)
        go_simp
        refine forget_zeros' wz _ (fun wy hY hcy hsy => ?_)
        have hcw : Chg (fun _ => False) w3 wy := hcz.trans' hcy
        rw [hsz] at hY
        refine hK _ _ (⟨hcw.range HG1.out, hcw.range HG2.out⟩) (fun hH3 => ?_)
        try simp only [Act.put, zA, zB, zC]
        have hZx : Arr wy w3.heap.size 178 (List.replicate 64 (.int .u8 0)) := by first | exact hY | exact hcy.at hZ id
        have hZy : Arr wy (w3.heap.size + 1) 178 (List.replicate 64 (.int .u8 0)) := by first | exact hY | exact hcy.at hZ id
        have hxy : w3.heap.size ≠ (w3.heap.size + 1) := by omega
        have hbx : w3.heap.size ≤ w3.heap.size ∧ w3.heap.size ≤ (w3.heap.size + 1) := by omega
        have s1 := Arr.store hZx (vs := cellsB b1) (by rw [List.length_replicate, cellsB_length]; exact HB.out.2.2.1)
        have s2 := Arr.store (s1.chg.at hZy (by omega)) (vs := cellsB b2) (by rw [List.length_replicate, cellsB_length]; exact HB.out.2.2.2)
        have t1 := Arr.there hZx
        have t2 := Arr.there (s1.chg.at hZy (by omega) : Arr _ _ _ _)
        rw [List.length_replicate, ← HB.out.2.2.1, ← cellsB_length] at t1
        rw [List.length_replicate, ← HB.out.2.2.2, ← cellsB_length] at t2
        have hAx := s2.chg.at s1.arr (by omega)
        have hAy := s2.arr
        have hc45 : Chg (fun _ => False) w3 ((wy.setCells w3.heap.size 0 (cellsB b1)).setCells (w3.heap.size + 1) 0 (cellsB b2)) := (hcw.new s1.chg (fun i e => by have e : i = w3.heap.size := e; omega)).new s2.chg (fun i e => by have e : i = (w3.heap.size + 1) := e; omega)
        have hc44 : Chg (fun _ => False) w3 (wy.setCells w3.heap.size 0 (cellsB b1)) := hcw.new s1.chg (fun i e => by have e : i = w3.heap.size := e; omega)
        refine on1 8 rfl (fun K hK => ?_)
        refine wp_store_mid 178 _ _ rfl (w3.heap.size) 0 (cellsB b1).toArray rfl rfl t1 HZ1.out (all_oneCell_toArray (one_cellsB b1)) ?_
        rw [List.toList_toArray]
        refine hK _ _ ⟨hc44.range HG1.out, hc44.range HG2.out⟩ (fun hH4 => ?_)
        try simp only [Act.put, zA, zB, zC]
        refine on1 9 rfl (fun K hK => ?_)
        refine wp_store_mid 178 _ _ rfl ((w3.heap.size + 1)) 0 (cellsB b2).toArray rfl rfl t2 HZ2.out (all_oneCell_toArray (one_cellsB b2)) ?_
        rw [List.toList_toArray]
        refine hK _ _ ⟨hc45.range HG1.out, hc45.range HG2.out⟩ (fun hH5 => ?_)
        try simp only [Act.put, zA, zB, zC]
        refine wpAnyH_done (by kernel_rfl) ?_ _
        refine NoPanic.normal ?_
        obtain ⟨wE, hwE⟩ : ∃ wE, (wy.setCells w3.heap.size 0 (cellsB b1)).setCells (w3.heap.size + 1) 0 (cellsB b2) = wE := ⟨_, rfl⟩
        rw [hwE] at hAx hAy hc45 ⊢
        go_wp2_with fail
        go_meet
        exact ⟨_, _, rfl, rfl, hxy, hbx, hAx, hAy, hc45⟩
      · go_simp
        refine forget_zeros w3 _ (fun wz hZ hcz hsz => ?_)
        have HZa := Lib.hid hZ
        have hcz3 := hcz
        refine hK _ _ (⟨hcz.range HG1.out, hcz.range HG2.out⟩) (fun hH2 => ?_)
        try simp only [Act.put, zA, zB, zC]
        refine on1 6 rfl (fun K hK => ?_)
        go_simp
        refine forget_zeros' wz _ (fun wy hY hcy hsy => ?_)
        have hcw : Chg (fun _ => False) w3 wy := hcz.trans' hcy
        rw [hsz] at hY
        refine hK _ _ (⟨hcw.range HG1.out, hcw.range HG2.out⟩) (fun hH3 => ?_)
        try simp only [Act.put, zA, zB, zC]
        have hZx : Arr wy (w3.heap.size + 1) 178 (List.replicate 64 (.int .u8 0)) := by first | exact hY | exact hcy.at hZ id
        have hZy : Arr wy w3.heap.size 178 (List.replicate 64 (.int .u8 0)) := by first | exact hY | exact hcy.at hZ id
        have hxy : (w3.heap.size + 1) ≠ w3.heap.size := by omega
        have hbx : w3.heap.size ≤ (w3.heap.size + 1) ∧ w3.heap.size ≤ w3.heap.size := by omega
        have s1 := Arr.store hZx (vs := cellsB b1) (by rw [List.length_replicate, cellsB_length]; exact HB.out.2.2.1)
        have s2 := Arr.store (s1.chg.at hZy (by omega)) (vs := cellsB b2) (by rw [List.length_replicate, cellsB_length]; exact HB.out.2.2.2)
        have t1 := Arr.there hZx
        have t2 := Arr.there (s1.chg.at hZy (by omega) : Arr _ _ _ _)
        rw [List.length_replicate, ← HB.out.2.2.1, ← cellsB_length] at t1
        rw [List.length_replicate, ← HB.out.2.2.2, ← cellsB_length] at t2
        have hAx := s2.chg.at s1.arr (by omega)
        have hAy := s2.arr
        have hc45 : Chg (fun _ => False) w3 ((wy.setCells (w3.heap.size + 1) 0 (cellsB b1)).setCells w3.heap.size 0 (cellsB b2)) := (hcw.new s1.chg (fun i e => by have e : i = (w3.heap.size + 1) := e; omega)).new s2.chg (fun i e => by have e : i = w3.heap.size := e; omega)
        have hc44 : Chg (fun _ => False) w3 (wy.setCells (w3.heap.size + 1) 0 (cellsB b1)) := hcw.new s1.chg (fun i e => by have e : i = (w3.heap.size + 1) := e; omega)
        refine on1 8 rfl (fun K hK => ?_)
        refine wp_store_mid 178 _ _ rfl ((w3.heap.size + 1)) 0 (cellsB b1).toArray rfl rfl t1 HZ1.out (all_oneCell_toArray (one_cellsB b1)) ?_
        rw [List.toList_toArray]
        refine hK _ _ ⟨hc44.range HG1.out, hc44.range HG2.out⟩ (fun hH4 => ?_)
        try simp only [Act.put, zA, zB, zC]
        refine on1 9 rfl (fun K hK => ?_)
        refine wp_store_mid 178 _ _ rfl (w3.heap.size) 0 (cellsB b2).toArray rfl rfl t2 HZ2.out (all_oneCell_toArray (one_cellsB b2)) ?_
        rw [List.toList_toArray]
        refine hK _ _ ⟨hc45.range HG1.out, hc45.range HG2.out⟩ (fun hH5 => ?_)
        try simp only [Act.put, zA, zB, zC]
        refine wpAnyH_done (by kernel_rfl) ?_ _
        refine NoPanic.normal ?_
        obtain ⟨wE, hwE⟩ : ∃ wE, (wy.setCells (w3.heap.size + 1) 0 (cellsB b1)).setCells w3.heap.size 0 (cellsB b2) = wE := ⟨_, rfl⟩
        rw [hwE] at hAx hAy hc45 ⊢
        go_wp2_with fail
        go_meet
        exact ⟨_, _, rfl, rfl, hxy, hbx, hAx, hAy, hc45⟩
    case rest =>
      obtain ⟨bx, by', rfl, rfl, hxy, hbx, hAx, hAy, hc45⟩ := hcut
      have HAx := Lib.hid hAx
      have HAy := Lib.hid hAy
      have HC5 := Lib.hid hc45
      have HXY := Lib.hid (And.intro hxy hbx)
      clear hAx hAy hc45 hxy hbx hsa1 hsa2
      have HEg := Lib.hid (show Tryz.prog.eqGuardType Tryz.prog.depth 178 = false by kernel_rfl)
      rename World => wE
      go_wp2_with (first
        | (refine wpList_yields (S := fun w' => w' = wE) (yieldsIf_load_mid (by rfl) 178 _ rfl bx 0 rfl (cellsB b1) _ (fun w h => h ▸ Arr.range HAx.out) Tryz.underlying178 rfl HZ1.out) rfl ?_)
        | (refine wpList_yields (S := fun w' => w' = wE) (yieldsIf_load_mid (by rfl) 178 _ rfl by' 0 rfl (cellsB b2) _ (fun w h => h ▸ Arr.range HAy.out) Tryz.underlying178 rfl HZ2.out) rfl ?_)
        | (refine wpList_yields (S := fun _ => True) (yieldsIf_eql_block (by rfl) _ _ _ rfl b1 (zeros 64) rfl rfl Tryz.underlying178 HB.out.2.2.1 rfl HEg.out) trivial ?_; rw [HD1.out])
        | (refine wpList_yields (S := fun _ => True) (yieldsIf_eql_block (by rfl) _ _ _ rfl b2 (zeros 64) rfl rfl Tryz.underlying178 HB.out.2.2.2 rfl HEg.out) trivial ?_; rw [HD2.out])
        | (go_at_call 104; fail))
      have hszw : w.heap.size ≤ w2.heap.size := (HC1.out.trans' HC2.out).size
      have hla : LogAt wE w2.heap.size d (· = w2.heap.size) Fd X ⟨0, 0, 0, [], [], [], 0, false⟩ := ⟨⟨_, _, _, HLg.out.kept HC5.out (fun _ _ h => h)⟩, H.out.kept (HC3.out.trans' HC5.out) (fun _ _ h => h), fun k hk hF => by
        have hk : k = w2.heap.size := hk
        have := H.out.lt k hF
        omega⟩
      have har := area_any wE hla (by have := HN.out.1; omega) HN.out.2.1
      rw [HM.out] at har
      have HAr := Lib.hid har
      have HLa := Lib.hid hla
      have HSw := Lib.hid hszw
      clear har hla hszw
      refine HAr.out.mono ?_
      rintro e w' ⟨rfl, rfl⟩
      dsimp only
      go_wp2_with (first
        | (refine wpList_yields (S := fun w' => w' = wE) (yieldsIf_load_mid (by rfl) 178 _ rfl (bx) 0 rfl (cellsB b1) _ (fun w h => h ▸ Arr.range HAx.out) Tryz.underlying178 rfl HZ1.out) rfl ?_)
        | (go_at_call 105; fail))
      refine (read_any _ b1 HB.out.2.2.1 0 (64 * m) (by omega) (by omega)).mono ?_
      rintro e w6 ⟨s1, a1, k1, ok1, rfl, hr1, hs1, hc6⟩
      obtain ⟨w7, hw7⟩ : ∃ w7, w6.alloc (.cells #[.int .i64 s1, .int .i64 a1, .int .i64 k1] 175) = w7 := ⟨_, rfl⟩
      have hc7 : Chg (fun _ => False) w6 w7 := by rw [← hw7]; exact (Chg.refl _ _).alloc _
      have hA17 : Arr w7 w6.heap.size 175 [.int .i64 s1, .int .i64 a1, .int .i64 k1] := by rw [← hw7]; exact at1
      have hAy7 : Arr w7 (by') 178 (cellsB b2) := hc7.at (hc6.at HAy.out id) id
      have HAy6 := Lib.hid (show Arr (w6.alloc (.cells #[.int .i64 s1, .int .i64 a1, .int .i64 k1] 175)) (by') 178 (cellsB b2) from by rw [hw7]; exact hAy7)
      have HA17 := Lib.hid hA17
      have HW7 := Lib.hid hw7
      have HC7 := Lib.hid (hc6.trans' hc7)
      have HRd1 := Lib.hid (And.intro hr1 hs1)
      have hc36 := hc6
      clear hr1 hs1 hc6 hc7 hA17 hAy7 hw7
      dsimp only
      go_wp2_with (first
        | (refine wpList_store_new rfl 175 _ _ rfl #[.int .i64 s1, .int .i64 a1, .int .i64 k1] rfl rfl size_head rfl (head_ones _ _ _) ?_)
        | (refine wpList_load_mid rfl 178 _ rfl (by') 0 rfl (cellsB b2) _ (Arr.range HAy6.out) Tryz.underlying178 rfl HZ2.out ?_)
        | (go_at_call 105; fail))
      rw [HW7.out]
      refine (read_any _ b2 HB.out.2.2.2 1 (64 * m) (by omega) (by omega)).mono ?_
      rintro e w8 ⟨s2, a2, k2, ok2, rfl, hr2, hs2, hc8⟩
      obtain ⟨w9, hw9⟩ : ∃ w9, w8.alloc (.cells #[.int .i64 s2, .int .i64 a2, .int .i64 k2] 175) = w9 := ⟨_, rfl⟩
      have hc9 : Chg (fun _ => False) w8 w9 := by rw [← hw9]; exact (Chg.refl _ _).alloc _
      have hA29 : Arr w9 w8.heap.size 175 [.int .i64 s2, .int .i64 a2, .int .i64 k2] := by rw [← hw9]; exact at1
      have hA19 : Arr w9 w6.heap.size 175 [.int .i64 s1, .int .i64 a1, .int .i64 k1] := hc9.at (hc8.at HA17.out id) id
      have h12 : w6.heap.size < w8.heap.size := Nat.lt_of_lt_of_le (lt_of_block HA17.out) hc8.size
      have HA29 := Lib.hid hA29
      have HA19 := Lib.hid hA19
      have HW9 := Lib.hid hw9
      have HC9 := Lib.hid ((HC7.out.trans' hc8).trans' hc9)
      have hr1' := HRd1.out.1
      have hr2' := hr2
      have HL12 := Lib.hid h12
      have hlg9 := (HLg.out.kept HC5.out (fun _ _ h => h)).kept HC9.out (fun _ _ h => h)
      have hC9 : Chg (fun _ => False) w w9 := (HC3.out.trans' HC5.out).trans' HC9.out
      have HLg9 := Lib.hid hlg9
      have HW9c := Lib.hid hC9
      have HTh := Lib.hid (log_there hlg9)
      have f1 : (w8.alloc (.cells #[.int .i64 s2, .int .i64 a2, .int .i64 k2] 175)).cell? ⟨w6.heap.size, 0, none⟩ = some (.int .i64 s1) := by rw [hw9]; exact hA19.cell rfl
      have f2 : (w8.alloc (.cells #[.int .i64 s2, .int .i64 a2, .int .i64 k2] 175)).cell? ⟨w8.heap.size, 0, none⟩ = some (.int .i64 s2) := by rw [hw9]; exact hA29.cell rfl
      rw [← hw9] at HA19 HA29 HTh HLg9 HW9c
      have HT19 : Hid ((w8.alloc (.cells #[.int .i64 s2, .int .i64 a2, .int .i64 k2] 175)).there w6.heap.size 0 3) := Lib.hid (Arr.there HA19.out)
      have hcc : Chg (· = w6.heap.size) (w8.alloc (.cells #[.int .i64 s2, .int .i64 a2, .int .i64 k2] 175)) ((w8.alloc (.cells #[.int .i64 s2, .int .i64 a2, .int .i64 k2] 175)).setCells w6.heap.size 0 [.int .i64 s2, .int .i64 a2, .int .i64 k2]) := chg_setCells w6.heap.size _ 0 _
      have HA1c := Lib.hid (show Arr ((w8.alloc (.cells #[.int .i64 s2, .int .i64 a2, .int .i64 k2] 175)).setCells w6.heap.size 0 [.int .i64 s2, .int .i64 a2, .int .i64 k2]) w6.heap.size 175 [.int .i64 s2, .int .i64 a2, .int .i64 k2] from Arr.all HA19.out rfl)
      have hl6 : w2.heap.size < w6.heap.size := by
        have h1 := HLg.out.lt _ rfl
        have h2 := (HC5.out.trans' hc36).size
        omega
      have hlgc := LogIs.kept (by rw [hw9]; exact hlg9 : LogIs (w8.alloc (.cells #[.int .i64 s2, .int .i64 a2, .int .i64 k2] 175)) w2.heap.size d (· = w2.heap.size) ⟨0, 0, 0, [], [], [], 0, false⟩ _ _ _) hcc (fun k hk e => by have hk : k = w2.heap.size := hk; have e : k = w6.heap.size := e; omega)
      obtain ⟨wk, hwk⟩ : ∃ wk, (w8.alloc (.cells #[.int .i64 s2, .int .i64 a2, .int .i64 k2] 175)).setCells w6.heap.size 0 [.int .i64 s2, .int .i64 a2, .int .i64 k2] = wk := ⟨_, rfl⟩
      rw [hwk] at HA1c hcc hlgc
      obtain ⟨wl, hwl⟩ : ∃ wl, wk.setCells w2.heap.size 1 [.int .i64 s2, .int .i64 a2, .int .i64 k2] = wl := ⟨_, rfl⟩
      obtain ⟨wm, hwm⟩ : ∃ wm, (w8.alloc (.cells #[.int .i64 s2, .int .i64 a2, .int .i64 k2] 175)).setCells w2.heap.size 1 [.int .i64 s1, .int .i64 a1, .int .i64 k1] = wm := ⟨_, rfl⟩
      have HWk := Lib.hid hwk
      have HWl := Lib.hid hwl
      have HWm := Lib.hid hwm
      clear hwk hwl hwm
      have HLgc := Lib.hid hlgc
      have HThc := Lib.hid (log_there hlgc)
      have HCc := Lib.hid hcc
      have HL26 := Lib.hid hl6
      clear hcc hlgc hl6 hc36
      have hp := HPk.out
      rw [HM.out, HB.out.1, HB.out.2.1, hr1', hr2'] at hp
      clear hr2 hs2 hc8 hc9 hA29 hA19 hw9 h12 hlg9 hC9 hr2' hr1'
      dsimp only
      go_upto_region 16 with (first
        | (refine wpList_store_new rfl 175 _ _ rfl #[.int .i64 s2, .int .i64 a2, .int .i64 k2] rfl rfl size_head rfl (head_ones _ _ _) ?_))
      go_cut [11, 12, 13, 14, 75] from 15 (fun s11 s12 s13 s14 s75 wx => s11 = .pointer (some ⟨w6.heap.size, 0, none⟩) ∧ s12 = .bool ok1 ∧ s13 = .pointer (some ⟨w8.heap.size, 0, none⟩) ∧ s14 = .bool ok2 ∧ s75 = .bool false ∧ wx = w8.alloc (.cells #[.int .i64 s2, .int .i64 a2, .int .i64 k2] 175))
      case first =>
        cases ok1 <;> cases ok2
        · simp [pick] at hp
        all_goals (clear hp; go_wp2_with fail; go_meet; exact ⟨rfl, rfl, rfl, rfl, rfl, rfl⟩)
      case rest =>
        obtain ⟨rfl, rfl, rfl, rfl, rfl, rfl⟩ := hcut
        cases ok1 <;> cases ok2
        · simp [pick] at hp
        · obtain ⟨rfl, rfl, rfl⟩ : s2 = s ∧ a2 = a ∧ k2 = u := by simpa [pick] using hp
          clear hp
          go_wp2_with (first
            | (refine wpList_load_mid rfl 175 _ rfl w8.heap.size 0 rfl [.int .i64 s2, .int .i64 a2, .int .i64 k2] _ (Arr.range HA29.out) Tryz.underlying175 rfl size_head ?_)
            | (refine wpList_store_mid rfl 175 _ _ rfl w6.heap.size 0 #[.int .i64 s2, .int .i64 a2, .int .i64 k2] rfl rfl HT19.out size_head (head_ones _ _ _) ?_; rw [show (w8.alloc (.cells #[.int .i64 s2, .int .i64 a2, .int .i64 k2] 175)).setCells w6.heap.size 0 (#[.int .i64 s2, .int .i64 a2, .int .i64 k2] : Array Value).toList = wk from HWk.out])
            | (refine wpList_load_mid rfl 175 _ rfl w6.heap.size 0 rfl [.int .i64 s2, .int .i64 a2, .int .i64 k2] _ (Arr.range HA1c.out) Tryz.underlying175 rfl size_head ?_)
            | (refine wpList_store_mid rfl 175 _ _ rfl w2.heap.size 1 #[.int .i64 s2, .int .i64 a2, .int .i64 k2] rfl rfl HThc.out size_head (head_ones _ _ _) ?_; rw [show wk.setCells w2.heap.size 1 (#[.int .i64 s2, .int .i64 a2, .int .i64 k2] : Array Value).toList = wl from HWl.out])
            | (go_at_call 106; fail))
          obtain ⟨hl8, hc8⟩ := LogIs.setHead HLgc.out s2 a2 k2
          rw [HWl.out] at hl8 hc8
          have hcw := (show Chg (fun _ => False) w _ from (HW9c.out.new HCc.out (fun i e => by have e : i = w6.heap.size := e; have := HL26.out; have := HSw.out; omega))).new hc8 (fun i e => by have e : i = w2.heap.size := e; have := HSw.out; omega)
          have hlo := (⟨⟨_, _, _, hl8⟩, H.out.kept hcw (fun _ _ h => h), fun k hk hF => by
            have hk : k = w2.heap.size := hk
            have := H.out.lt k hF
            have := HSw.out
            omega⟩ : LogAt _ w2.heap.size d (· = w2.heap.size) Fd X ⟨s2, a2, k2, [], [], [], 0, false⟩)
          have hld := load_any _ s2 a2 k2 hlo HN.out.2.2 HN.out.1 HN.out.2.1 HUa.out.1 HUa.out.2 H64.out rs HSh.out HRs.out
          have HCw := Lib.hid hcw
          refine hld.mono ?_
          clear hl8 hc8 hcw hlo hld
          rintro e w10 ⟨rfl, F', h1, h2, h3⟩
          have HH := Lib.hid (And.intro h1 (And.intro h2 h3))
          clear h1 h2 h3
          dsimp only
          go_wp2_with fail
          go_ret2
          have hsz := HCw.out.size
          refine ⟨Fd, fun k hk => Or.inl hk, (HCw.out.new HH.out.2.2 (fun i e => by have e : i = w2.heap.size := e; have := HSw.out; omega)).mono (fun _ _ h => h.elim), Or.inl ⟨_, w2.heap.size, F', rfl, rfl, HH.out.1, fun k hk => (HH.out.2.1 k hk).elim (fun e => by have e : k = w2.heap.size := e; have := HSw.out; omega) (fun h => by omega)⟩⟩
        · obtain ⟨rfl, rfl, rfl⟩ : s1 = s ∧ a1 = a ∧ k1 = u := by simpa [pick] using hp
          clear hp
          go_wp2_with (first
            | (refine wpList_load_mid rfl 175 _ rfl w6.heap.size 0 rfl [.int .i64 s1, .int .i64 a1, .int .i64 k1] _ (Arr.range HA19.out) Tryz.underlying175 rfl size_head ?_)
            | (refine wpList_store_mid rfl 175 _ _ rfl w2.heap.size 1 #[.int .i64 s1, .int .i64 a1, .int .i64 k1] rfl rfl HTh.out size_head (head_ones _ _ _) ?_; rw [show (w8.alloc (.cells #[.int .i64 s2, .int .i64 a2, .int .i64 k2] 175)).setCells w2.heap.size 1 (#[.int .i64 s1, .int .i64 a1, .int .i64 k1] : Array Value).toList = wm from HWm.out])
            | (go_at_call 106; fail))
          obtain ⟨hl8, hc8⟩ := LogIs.setHead HLg9.out s1 a1 k1
          rw [HWm.out] at hl8 hc8
          have hcw := (show Chg (fun _ => False) w _ from HW9c.out).new hc8 (fun i e => by have e : i = w2.heap.size := e; have := HSw.out; omega)
          have hlo := (⟨⟨_, _, _, hl8⟩, H.out.kept hcw (fun _ _ h => h), fun k hk hF => by
            have hk : k = w2.heap.size := hk
            have := H.out.lt k hF
            have := HSw.out
            omega⟩ : LogAt _ w2.heap.size d (· = w2.heap.size) Fd X ⟨s1, a1, k1, [], [], [], 0, false⟩)
          have hld := load_any _ s1 a1 k1 hlo HN.out.2.2 HN.out.1 HN.out.2.1 HUa.out.1 HUa.out.2 H64.out rs HSh.out HRs.out
          have HCw := Lib.hid hcw
          refine hld.mono ?_
          clear hl8 hc8 hcw hlo hld
          rintro e w10 ⟨rfl, F', h1, h2, h3⟩
          have HH := Lib.hid (And.intro h1 (And.intro h2 h3))
          clear h1 h2 h3
          dsimp only
          go_wp2_with fail
          go_ret2
          have hsz := HCw.out.size
          refine ⟨Fd, fun k hk => Or.inl hk, (HCw.out.new HH.out.2.2 (fun i e => by have e : i = w2.heap.size := e; have := HSw.out; omega)).mono (fun _ _ h => h.elim), Or.inl ⟨_, w2.heap.size, F', rfl, rfl, HH.out.1, fun k hk => (HH.out.2.1 k hk).elim (fun e => by have e : k = w2.heap.size := e; have := HSw.out; omega) (fun h => by omega)⟩⟩
        · by_cases hlt : s1 < s2
          · obtain ⟨rfl, rfl, rfl⟩ : s2 = s ∧ a2 = a ∧ k2 = u := by simpa [pick, hlt] using hp
            have hlt' : (s1 : Int) < (s2 : Int) := by omega
            clear hp
            go_wp2_with (first
              | (refine wpList_load_mid rfl 175 _ rfl w8.heap.size 0 rfl [.int .i64 s2, .int .i64 a2, .int .i64 k2] _ (Arr.range HA29.out) Tryz.underlying175 rfl size_head ?_)
              | (refine wpList_store_mid rfl 175 _ _ rfl w6.heap.size 0 #[.int .i64 s2, .int .i64 a2, .int .i64 k2] rfl rfl HT19.out size_head (head_ones _ _ _) ?_; rw [show (w8.alloc (.cells #[.int .i64 s2, .int .i64 a2, .int .i64 k2] 175)).setCells w6.heap.size 0 (#[.int .i64 s2, .int .i64 a2, .int .i64 k2] : Array Value).toList = wk from HWk.out])
              | (refine wpList_load_mid rfl 175 _ rfl w6.heap.size 0 rfl [.int .i64 s2, .int .i64 a2, .int .i64 k2] _ (Arr.range HA1c.out) Tryz.underlying175 rfl size_head ?_)
              | (refine wpList_store_mid rfl 175 _ _ rfl w2.heap.size 1 #[.int .i64 s2, .int .i64 a2, .int .i64 k2] rfl rfl HThc.out size_head (head_ones _ _ _) ?_; rw [show wk.setCells w2.heap.size 1 (#[.int .i64 s2, .int .i64 a2, .int .i64 k2] : Array Value).toList = wl from HWl.out])
              | (go_at_call 106; fail))
            obtain ⟨hl8, hc8⟩ := LogIs.setHead HLgc.out s2 a2 k2
            rw [HWl.out] at hl8 hc8
            have hcw := (show Chg (fun _ => False) w _ from (HW9c.out.new HCc.out (fun i e => by have e : i = w6.heap.size := e; have := HL26.out; have := HSw.out; omega))).new hc8 (fun i e => by have e : i = w2.heap.size := e; have := HSw.out; omega)
            have hlo := (⟨⟨_, _, _, hl8⟩, H.out.kept hcw (fun _ _ h => h), fun k hk hF => by
              have hk : k = w2.heap.size := hk
              have := H.out.lt k hF
              have := HSw.out
              omega⟩ : LogAt _ w2.heap.size d (· = w2.heap.size) Fd X ⟨s2, a2, k2, [], [], [], 0, false⟩)
            have hld := load_any _ s2 a2 k2 hlo HN.out.2.2 HN.out.1 HN.out.2.1 HUa.out.1 HUa.out.2 H64.out rs HSh.out HRs.out
            have HCw := Lib.hid hcw
            refine hld.mono ?_
            clear hl8 hc8 hcw hlo hld
            rintro e w10 ⟨rfl, F', h1, h2, h3⟩
            have HH := Lib.hid (And.intro h1 (And.intro h2 h3))
            clear h1 h2 h3
            dsimp only
            go_wp2_with fail
            go_ret2
            have hsz := HCw.out.size
            refine ⟨Fd, fun k hk => Or.inl hk, (HCw.out.new HH.out.2.2 (fun i e => by have e : i = w2.heap.size := e; have := HSw.out; omega)).mono (fun _ _ h => h.elim), Or.inl ⟨_, w2.heap.size, F', rfl, rfl, HH.out.1, fun k hk => (HH.out.2.1 k hk).elim (fun e => by have e : k = w2.heap.size := e; have := HSw.out; omega) (fun h => by omega)⟩⟩
          · obtain ⟨rfl, rfl, rfl⟩ : s1 = s ∧ a1 = a ∧ k1 = u := by simpa [pick, hlt] using hp
            have hlt' : (s2 : Int) ≤ (s1 : Int) := by omega
            clear hp
            go_wp2_with (first
              | (refine wpList_load_mid rfl 175 _ rfl w6.heap.size 0 rfl [.int .i64 s1, .int .i64 a1, .int .i64 k1] _ (Arr.range HA19.out) Tryz.underlying175 rfl size_head ?_)
              | (refine wpList_store_mid rfl 175 _ _ rfl w2.heap.size 1 #[.int .i64 s1, .int .i64 a1, .int .i64 k1] rfl rfl HTh.out size_head (head_ones _ _ _) ?_; rw [show (w8.alloc (.cells #[.int .i64 s2, .int .i64 a2, .int .i64 k2] 175)).setCells w2.heap.size 1 (#[.int .i64 s1, .int .i64 a1, .int .i64 k1] : Array Value).toList = wm from HWm.out])
              | (go_at_call 106; fail))
            obtain ⟨hl8, hc8⟩ := LogIs.setHead HLg9.out s1 a1 k1
            rw [HWm.out] at hl8 hc8
            have hcw := (show Chg (fun _ => False) w _ from HW9c.out).new hc8 (fun i e => by have e : i = w2.heap.size := e; have := HSw.out; omega)
            have hlo := (⟨⟨_, _, _, hl8⟩, H.out.kept hcw (fun _ _ h => h), fun k hk hF => by
              have hk : k = w2.heap.size := hk
              have := H.out.lt k hF
              have := HSw.out
              omega⟩ : LogAt _ w2.heap.size d (· = w2.heap.size) Fd X ⟨s1, a1, k1, [], [], [], 0, false⟩)
            have hld := load_any _ s1 a1 k1 hlo HN.out.2.2 HN.out.1 HN.out.2.1 HUa.out.1 HUa.out.2 H64.out rs HSh.out HRs.out
            have HCw := Lib.hid hcw
            refine hld.mono ?_
            clear hl8 hc8 hcw hlo hld
            rintro e w10 ⟨rfl, F', h1, h2, h3⟩
            have HH := Lib.hid (And.intro h1 (And.intro h2 h3))
            clear h1 h2 h3
            dsimp only
            go_wp2_with fail
            go_ret2
            have hsz := HCw.out.size
            refine ⟨Fd, fun k hk => Or.inl hk, (HCw.out.new HH.out.2.2 (fun i e => by have e : i = w2.heap.size := e; have := HSw.out; omega)).mono (fun _ _ h => h.elim), Or.inl ⟨_, w2.heap.size, F', rfl, rfl, HH.out.1, fun k hk => (HH.out.2.1 k hk).elim (fun e => by have e : k = w2.heap.size := e; have := HSw.out; omega) (fun h => by omega)⟩⟩

end Go.Proofs.YtbjagmlbamjdbaaGreat.wals
end
