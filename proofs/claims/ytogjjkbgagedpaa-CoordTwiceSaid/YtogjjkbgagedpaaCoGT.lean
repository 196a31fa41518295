/-
  coord's laws: few, the walk.
-/
import Derived.Test.YtogjjkbgagedpaaCoGS
namespace Go.Proofs.Ytogjjkbgagedpaa.coordg
open Go.RowKit Go.Maps Go.My Go.ChangeMaps coords
set_option maxRecDepth 100000

variable {w w' : World}

structure FewS (w wr : World) (k : Nat) (out : Value) (ps : List Int) (pk : List Value) : Prop where
  row : OwnRecs wr w.heap.size 33 2 out (List.zipWith planG ps pk)
  pl : ps.length = k
  kl : pk.length = k
  pks : ∀ p ∈ pk, PkOk wr (fun b => w.heap.size ≤ b ∧ b < wr.heap.size ∧ out.ownBlock ≠ some b) p
  chg : Chg (fun _ => False) w wr

structure PkS (w1 wr : World) (B k : Nat) (pv : Value) (rows : List (List Value)) : Prop where
  row : OwnRecs wr (B + 1) 94 4 pv rows
  len : rows.length = k
  pks : ∀ x ∈ rows, PkR wr (fun b => B < b ∧ b < wr.heap.size ∧ pv.ownBlock ≠ some b) x
  chg : Chg (fun _ => False) w1 wr

theorem rows_take {n : Nat} {oa : Option Addr} {l : List (List Value)} (h : RowsAt w n oa l) (m : Nat) : RowsAt w n oa (l.take m) := by
  have hg : ∀ i r, (l.take m)[i]? = some r → l[i]? = some r := fun i r hr => by
    rw [List.getElem?_take] at hr
    split at hr
    · exact hr
    · cases hr
  exact ⟨fun hne => h.spot (by intro e; rw [e] at hne; simp at hne), fun i r hr => h.row i r (hg i r hr), fun b off ho i r j v hi hj => h.cell b off ho i r j v (hg i r hi) hj⟩



set_option maxHeartbeats 4000000 in
theorem few_gen (w : World) (oa : Option Addr) (cap : Nat) (l : List (List Value)) (h : RowsAt w 2 oa l) (hp : ∀ p ∈ l, PlanOk w p) (hc : l.length ≤ cap) (hcm : cap ≤ maxLen) :
    Calls Try.prog 24 #[.slice oa l.length cap] w fun e w' => ∃ v, e = .returned v ∧ ∃ ps pk, OwnRecs w' w.heap.size 33 2 v (List.zipWith planG ps pk) ∧ pk.length = ps.length ∧ ps.length ≤ 10 ∧ (∀ p ∈ pk, PkOk w' (born w w') p) ∧ Chg (fun _ => False) w w' := by
  have HP := Lib.hid h
  have HPl := Lib.hid hp
  have HCap := Lib.hid (And.intro hc hcm)
  clear h hp hc hcm
  go_enter Try.func24, Try.ntmps24
  go_wp2_with fail
  go_loopw [3, 4] (fun out j wr => ∃ (k : Nat) (ps : List Int) (pk : List Value), j = .int .i64 k ∧ k ≤ l.length ∧ k ≤ 10 ∧ FewS w wr k out ps pk) (fun _ j _ => 10 - (intOf j).toNat)
  · exact ⟨0, [], [], rfl, Nat.zero_le _, Nat.zero_le _, OwnRecs.nil _ _ _ _, rfl, rfl, by simp, Chg.refl _ _⟩
  obtain ⟨k, ps, pk, rfl, hk, hk10, hS⟩ := hrel
  obtain ⟨ov, cv, hov, -⟩ := hS.row.slice
  have hzl : (List.zipWith planG ps pk).length = k := by rw [List.length_zipWith, hS.pl, hS.kl]; omega
  rw [hzl] at hov
  subst hov
  have HS := Lib.hid hS
  have HZl := Lib.hid hzl
  clear hS hzl
  by_cases hlt : k < l.length
  · have hki : (k : Int) < (l.length : Int) := by omega
    by_cases h10 : k < 10
    · have hk1 : (k : Int) < 10 := by omega
      obtain ⟨p, hpk⟩ : ∃ p, l[k]? = some p := ⟨l[k], List.getElem?_eq_getElem hlt⟩
      obtain ⟨r, op, cpp, pl, rfl, hM, hrr, hLay⟩ := (HPl.out p (List.mem_of_getElem? hpk)).is
      obtain ⟨b0, off, rfl⟩ := HP.out.spot (by intro e; rw [e] at hlt; simp at hlt)
      have hcell := fun j v hj => (HP.out.kept HS.out.chg (fun _ _ h => h)).cell b0 off rfl k _ j v hpk hj
      have d0 : wr.cell? ⟨b0, off + k * 2, none⟩ = some (.int .i64 r) := hcell 0 _ rfl
      have d1 : wr.cell? ⟨b0, off + k * 2 + 1, none⟩ = some (.slice op pl.length cpp) := hcell 1 _ rfl
      have HM := Lib.hid hM
      have HLay := Lib.hid hLay
      clear hcell hpk hM hrr hLay
      go_wp2_with fail
      clear d0 d1
      obtain ⟨w1, hw1⟩ : ∃ w1, wr.alloc (.cells #[.int .i64 r, .slice op pl.length cpp] 33) = w1 := ⟨_, rfl⟩
      have hB1 : w1.heap[wr.heap.size]? = some (.cells #[.int .i64 r, .slice op pl.length cpp] 33 (0, 0)) := by rw [← hw1]; exact block_alloc_new _ _
      have hc1 : Chg (fun _ => False) wr w1 := by rw [← hw1]; exact (Chg.refl _ _).alloc _
      rw [hw1]
      have hsz1 : w1.heap.size = wr.heap.size + 1 := by rw [← hw1, World.size_alloc]
      obtain ⟨B, hB⟩ : ∃ B, wr.heap.size = B := ⟨_, rfl⟩
      rw [hB] at hB1 hsz1 ⊢
      have HB1' := Lib.hid hB1
      have HC1 := Lib.hid hc1
      have HBl := Lib.hid (show w1.heap.size = B + 1 by omega)
      have HB := Lib.hid hB
      clear hw1 hB1 hc1 hsz1 hB
      go_loopw [6, 7] (fun pv j w2 => ∃ (k2 : Nat) (rows : List (List Value)), j = .int .i64 k2 ∧ k2 ≤ pl.length ∧ k2 ≤ 20 ∧ PkS w1 w2 B k2 pv rows) (fun _ j _ => 20 - (intOf j).toNat)
      · exact ⟨0, [], rfl, Nat.zero_le _, Nat.zero_le _, OwnRecs.nil _ _ _ _, rfl, by simp, Chg.refl _ _⟩
      obtain ⟨k2, rows, rfl, hk2, hk20, hI⟩ := hrel
      obtain ⟨opv, cpv, hpv, -⟩ := hI.row.slice
      rw [hI.len] at hpv
      subst hpv
      have HI := Lib.hid hI
      have hB1 := hI.chg.at HB1'.out id
      have e0 : wr.cell? ⟨B, 0, none⟩ = some (.int .i64 r) := cell_of_block hB1 rfl
      have e1 : wr.cell? ⟨B, 1, none⟩ = some (.slice op pl.length cpp) := cell_of_block hB1 rfl
      have HBi := Lib.hid hB1
      clear hI hB1
      by_cases hlt2 : k2 < pl.length
      · have hki2 : (k2 : Int) < (pl.length : Int) := by omega
        by_cases h202 : k2 < 20
        · have hk12 : (k2 : Int) < 20 := by omega
          obtain ⟨x, hx⟩ : ∃ x, pl[k2]? = some x := ⟨pl[k2], List.getElem?_eq_getElem hlt2⟩
          have hcw := (HS.out.chg.trans' HC1.out).trans' HI.out.chg
          have hmem := List.mem_of_getElem? hx
          obtain ⟨ow, nm, vr, la, ly, lc, rfl, z1, z2, hly, href⟩ := ((HM.out.each x hmem).kept hcw).is
          have hlay : ly.length ≤ lc := HLay.out _ hmem _ _ _ rfl
          obtain ⟨b1, of1, rfl⟩ := HM.out.rows.spot (by intro e; rw [e] at hlt2; simp at hlt2)
          have hcell := fun j v hj => (HM.out.rows.kept hcw (fun _ _ h => h)).cell b1 of1 rfl k2 _ j v hx hj
          have d0 : wr.cell? ⟨b1, of1 + k2 * 4, none⟩ = some (.int .i64 ow) := hcell 0 _ rfl
          have d1 : wr.cell? ⟨b1, of1 + k2 * 4 + 1, none⟩ = some (.string nm) := hcell 1 _ rfl
          have d2 : wr.cell? ⟨b1, of1 + k2 * 4 + 2, none⟩ = some (.string vr) := hcell 2 _ rfl
          have d3 : wr.cell? ⟨b1, of1 + k2 * 4 + 3, none⟩ = some (.slice la ly.length lc) := hcell 3 _ rfl
          clear hcell hcw hmem hx
          have hN := block_alloc_new wr (.cells #[.int .i64 ow, .string nm, .string vr, .slice la ly.length lc] 94)
          have hca := (Chg.refl (fun _ => False) wr).alloc (.cells #[.int .i64 ow, .string nm, .string vr, .slice la ly.length lc] 94)
          have hsa : (wr.alloc (.cells #[.int .i64 ow, .string nm, .string vr, .slice la ly.length lc] 94)).heap.size = wr.heap.size + 1 := World.size_alloc _ _
          by_cases h3 : 20 < ly.length
          · have h3i : (20 : Int) < (ly.length : Int) := by omega
            have hll : (ly.take 20).length = 20 := by rw [List.length_take]; omega
            have hNs : (wr.alloc (.cells #[.int .i64 ow, .string nm, .string vr, .slice la 20 lc] 94)).heap[wr.heap.size]? = some (.cells #[.int .i64 ow, .string nm, .string vr, .slice la (ly.take 20).length lc] 94 (0, 0)) := by rw [hll]; exact block_alloc_new _ _
            have hcas := (Chg.refl (fun _ => False) wr).alloc (.cells #[.int .i64 ow, .string nm, .string vr, .slice la 20 lc] 94)
            have hsas : (wr.alloc (.cells #[.int .i64 ow, .string nm, .string vr, .slice la 20 lc] 94)).heap.size = wr.heap.size + 1 := World.size_alloc _ _
            have hrt := rows_take hly 20
            have hft : ∀ x ∈ ly.take 20, RefOk x := fun x hx => href x (List.mem_of_mem_take hx)
            have hl20 : (ly.take 20).length ≤ 20 := by omega
            obtain ⟨ol, cl, w4, op', cp', w6, hapA, hX4, hX5, hapB, hoB, hpkB, hcB, hszB, hvB⟩ := pack_step wr _ ow nm vr la lc (ly.take 20) z1 z2 hrt hft hl20 hNs hsas hcas HI.out.row (by rw [HI.out.len]; omega) (by have := HBl.out; have := HI.out.chg.size; omega)
            rw [hll] at hapA hX4 hX5 hapB hoB hpkB
            rw [HI.out.len] at hapB hoB hpkB hvB
            have y3 : w4.cell? ⟨wr.heap.size, 3, none⟩ = some (.slice la 20 lc) := cell_of_block hX4 rfl
            have yz : w4.frozen? ⟨wr.heap.size, 3, none⟩ = false := free_of_block hX4
            have v0 : (w4.setCell ⟨wr.heap.size, 3, none⟩ (.slice ol 20 cl)).cell? ⟨wr.heap.size, 0, none⟩ = some (.int .i64 ow) := cell_of_block hX5 rfl
            have v1 : (w4.setCell ⟨wr.heap.size, 3, none⟩ (.slice ol 20 cl)).cell? ⟨wr.heap.size, 1, none⟩ = some (.string nm) := cell_of_block hX5 rfl
            have v2 : (w4.setCell ⟨wr.heap.size, 3, none⟩ (.slice ol 20 cl)).cell? ⟨wr.heap.size, 2, none⟩ = some (.string vr) := cell_of_block hX5 rfl
            have v3 : (w4.setCell ⟨wr.heap.size, 3, none⟩ (.slice ol 20 cl)).cell? ⟨wr.heap.size, 3, none⟩ = some (.slice ol 20 cl) := cell_of_block hX5 rfl
            have HoB := Lib.hid hoB
            have HpkB := Lib.hid hpkB
            have HcB := Lib.hid hcB
            have HvB := Lib.hid (And.intro hszB hvB)
            clear hX4 hX5 hoB hpkB hcB hszB hvB
            go_wp2_with (first
              | (at_builtin; refine wpList_app rfl _ _ _ rfl rfl rfl hapA ?_)
              | (at_builtin; refine wpList_app rfl _ _ _ rfl rfl rfl hapB ?_))
            clear hapA hapB y3 yz v0 v1 v2 v3
            have hgr := HI.out.row
            have hown : ∀ b, (Value.slice opv k2 cpv).ownBlock = some b → B + 1 ≤ b ∧ b < wr.heap.size := fun b hb => hgr.lt hb
            have hs6 := HvB.out.1
            have hBw := HBl.out
            have hs2 := HI.out.chg.size
            refine ⟨⟨k2 + 1, _, by go_num, hlt2, h202, HoB.out, by rw [List.length_append, HI.out.len]; rfl, fun x hx => ?_, HI.out.chg.new HcB.out (fun b e => ?_)⟩, meas_step h202⟩
            · rcases List.mem_append.1 hx with h5 | h5
              · refine ((HI.out.pks x h5).kept HcB.out (fun b hb e => hb.2.2 e.symm)).wide (fun b hb => ⟨hb.1, by have := hb.2.1; omega, fun e => ?_⟩)
                rcases HvB.out.2 with h6 | ⟨b', h6, h7⟩
                · exact hb.2.2 (h6.symm.trans e)
                · have h8 := Option.some.inj (h6.symm.trans e)
                  have := hb.2.1
                  omega
              · rw [List.mem_singleton.1 h5]
                refine HpkB.out.wide (fun b hb => ⟨by have := hb.1; omega, hb.2.1, hb.2.2⟩)
            · have := hown b e.symm
              omega
          · have h3i : ¬ (20 : Int) < (ly.length : Int) := by omega
            have h3l : ly.length ≤ 20 := by omega
            obtain ⟨ol, cl, w4, op', cp', w6, hapA, hX4, hX5, hapB, hoB, hpkB, hcB, hszB, hvB⟩ := pack_step wr _ ow nm vr la lc ly z1 z2 hly href h3l hN hsa hca HI.out.row (by rw [HI.out.len]; omega) (by have := HBl.out; have := HI.out.chg.size; omega)
            rw [(rfl : ly.length = ly.length)] at hapA hX4 hX5 hapB hoB hpkB
            rw [HI.out.len] at hapB hoB hpkB hvB
            have y3 : w4.cell? ⟨wr.heap.size, 3, none⟩ = some (.slice la ly.length lc) := cell_of_block hX4 rfl
            have yz : w4.frozen? ⟨wr.heap.size, 3, none⟩ = false := free_of_block hX4
            have v0 : (w4.setCell ⟨wr.heap.size, 3, none⟩ (.slice ol ly.length cl)).cell? ⟨wr.heap.size, 0, none⟩ = some (.int .i64 ow) := cell_of_block hX5 rfl
            have v1 : (w4.setCell ⟨wr.heap.size, 3, none⟩ (.slice ol ly.length cl)).cell? ⟨wr.heap.size, 1, none⟩ = some (.string nm) := cell_of_block hX5 rfl
            have v2 : (w4.setCell ⟨wr.heap.size, 3, none⟩ (.slice ol ly.length cl)).cell? ⟨wr.heap.size, 2, none⟩ = some (.string vr) := cell_of_block hX5 rfl
            have v3 : (w4.setCell ⟨wr.heap.size, 3, none⟩ (.slice ol ly.length cl)).cell? ⟨wr.heap.size, 3, none⟩ = some (.slice ol ly.length cl) := cell_of_block hX5 rfl
            have HoB := Lib.hid hoB
            have HpkB := Lib.hid hpkB
            have HcB := Lib.hid hcB
            have HvB := Lib.hid (And.intro hszB hvB)
            clear hX4 hX5 hoB hpkB hcB hszB hvB
            go_wp2_with (first
              | (at_builtin; refine wpList_app rfl _ _ _ rfl rfl rfl hapA ?_)
              | (at_builtin; refine wpList_app rfl _ _ _ rfl rfl rfl hapB ?_))
            clear hapA hapB y3 yz v0 v1 v2 v3
            have hgr := HI.out.row
            have hown : ∀ b, (Value.slice opv k2 cpv).ownBlock = some b → B + 1 ≤ b ∧ b < wr.heap.size := fun b hb => hgr.lt hb
            have hs6 := HvB.out.1
            have hBw := HBl.out
            have hs2 := HI.out.chg.size
            refine ⟨⟨k2 + 1, _, by go_num, hlt2, h202, HoB.out, by rw [List.length_append, HI.out.len]; rfl, fun x hx => ?_, HI.out.chg.new HcB.out (fun b e => ?_)⟩, meas_step h202⟩
            · rcases List.mem_append.1 hx with h5 | h5
              · refine ((HI.out.pks x h5).kept HcB.out (fun b hb e => hb.2.2 e.symm)).wide (fun b hb => ⟨hb.1, by have := hb.2.1; omega, fun e => ?_⟩)
                rcases HvB.out.2 with h6 | ⟨b', h6, h7⟩
                · exact hb.2.2 (h6.symm.trans e)
                · have h8 := Option.some.inj (h6.symm.trans e)
                  have := hb.2.1
                  omega
              · rw [List.mem_singleton.1 h5]
                refine HpkB.out.wide (fun b hb => ⟨by have := hb.1; omega, hb.2.1, hb.2.2⟩)
            · have := hown b e.symm
              omega
        · have hk12 : ¬ (k2 : Int) < 20 := by omega
          have hcs := Chg.setCell (S := (· = B)) (Chg.refl _ wr) (p := ⟨B, 1, none⟩) (fun _ => rfl) (.slice opv k2 cpv)
          have hcc : Chg (· = B) _ (wr.setCell ⟨B, 1, none⟩ (.slice opv k2 cpv)) := ((HC1.out.trans' HI.out.chg).mono (fun _ _ h => h.elim)).trans' hcs
          have hlo : ∀ b, (Value.slice ov k cv).ownBlock = some b → w.heap.size ≤ b ∧ b < B := fun b hb => by have := HS.out.row.lt hb; rw [HB.out] at this; exact this
          have hro := HS.out.row.kept hcc (fun b hb e => by have := hlo b hb; omega)
          have hb3 := block_setCell (i := 1) (v := .slice opv k2 cpv) HBi.out
          have hs3 : (wr.setCell ⟨B, 1, none⟩ (.slice opv k2 cpv)).heap.size = wr.heap.size := by simp [World.setCell]
          have hwB : w.heap.size ≤ B := by have := HS.out.chg.size; rw [HB.out] at this; exact this
          have hBr : B < wr.heap.size := lt_of_block HBi.out
          obtain ⟨i0, hi, hz, his, hib⟩ := info_parts info_plan
          obtain ⟨o6, c6, w6, hap, ho6, hc6, hsz6, hv6⟩ := own_push (P := Try.prog) Try.underlying34 hi hz his hib rfl (by decide) hro (planG r (.slice opv k2 cpv)) rfl (by intro x hx; simp only [planG, List.mem_cons, List.not_mem_nil, or_false] at hx; rcases hx with rfl | rfl <;> rfl) (by rw [HZl.out]; omega) (by omega) (by omega)
          rw [HZl.out] at hap ho6 hv6
          rw [hs3] at hap hsz6 hv6
          have ez : wr.frozen? ⟨B, 1, none⟩ = false := free_of_block HBi.out
          have f0 : (wr.setCell ⟨B, 1, none⟩ (.slice opv k2 cpv)).cell? ⟨B, 0, none⟩ = some (.int .i64 r) := cell_of_block hb3 rfl
          have f1 : (wr.setCell ⟨B, 1, none⟩ (.slice opv k2 cpv)).cell? ⟨B, 1, none⟩ = some (.slice opv k2 cpv) := cell_of_block hb3 rfl
          have hdl : ∀ b, B ≤ b → b < wr.heap.size → (Value.slice o6 (k + 1) c6).ownBlock ≠ some b := fun b hb1 hb2 e => by
            rcases hv6 with h1 | h1
            · have := hlo b (h1.symm.trans e); omega
            · have h2 := Option.some.inj (h1.symm.trans e); omega
          have hnb : ∀ b, b < wr.heap.size → (Value.slice ov k cv).ownBlock ≠ some b → (Value.slice o6 (k + 1) c6).ownBlock ≠ some b := fun b hb hne e => by
            rcases hv6 with h1 | h1
            · exact hne (h1.symm.trans e)
            · have h2 := Option.some.inj (h1.symm.trans e); omega
          have hS6 : FewS w w6 (k + 1) (.slice o6 (k + 1) c6) (ps ++ [r]) (pk ++ [.slice opv k2 cpv]) := by
            have hch : Chg (fun b => b = B ∨ some b = (Value.slice ov k cv).ownBlock) wr w6 := (hcs.mono (fun _ _ h => Or.inl h)).trans' (hc6.mono (fun _ _ h => Or.inr h))
            have hrw := HI.out.row
            have hnpv : ∀ b, (Value.slice opv k2 cpv).ownBlock = some b → B + 1 ≤ b ∧ b < wr.heap.size := fun b hb => hrw.lt hb
            have hrw6 := hrw.kept hch (fun b hb e => by
              have h1 := hnpv b hb
              rcases e with e | e
              · omega
              · have := hlo b e.symm; omega)
            refine ⟨?_, by rw [List.length_append, HS.out.pl]; rfl, by rw [List.length_append, HS.out.kl]; rfl, fun p hp => ?_, ((HS.out.chg.trans' HC1.out).trans' HI.out.chg).new hch (fun b e => ?_)⟩
            · rw [List.zipWith_append (by rw [HS.out.pl, HS.out.kl])]
              exact ho6
            · rcases List.mem_append.1 hp with h1 | h1
              · refine ((((HS.out.pks p h1).kept (HC1.out.trans' HI.out.chg) (fun _ _ h => h)).kept hch (fun b hb e => ?_))).wide (fun b hb => ⟨hb.1, by have := hb.2.1; rw [HB.out] at this; omega, hnb b (by have := hb.2.1; rw [HB.out] at this; omega) hb.2.2⟩)
                rcases e with e | e
                · have := hb.2.1; rw [HB.out] at this; omega
                · exact hb.2.2 e.symm
              · rw [List.mem_singleton.1 h1]
                obtain ⟨oa', cap', e1, g1, g2⟩ := hrw.slice
                rw [HI.out.len] at e1 g1
                cases e1
                refine ⟨opv, cpv, rows, by rw [HI.out.len], rows_of_own hrw6, fun x hx => ((HI.out.pks x hx).kept hch (fun b hb e => ?_)).wide (fun b hb => ⟨by have := hb.1; omega, by have := hb.2.1; omega, hdl b (by have := hb.1; omega) hb.2.1⟩), fun hn b off ho => ?_, by rw [HI.out.len]; exact hk20, by rw [HI.out.len]; exact g1, g2⟩
                · rcases e with e | e
                  · have := hb.1; omega
                  · have := hlo b e.symm; have := hb.1; omega
                · have h2 := hnpv b (by
                    have hne : 0 < rows.length := Nat.pos_of_ne_zero hn
                    obtain ⟨g, e2, -⟩ := hrw.cell' (k := 0) hne
                    rw [ho] at e2
                    cases e2
                    rw [ho]
                    rfl)
                  exact ⟨by omega, by omega, hdl b (by omega) h2.2⟩
            · rcases e with e | e
              · omega
              · exact (hlo b e.symm).1
          have HS6 := Lib.hid hS6
          clear hcs hcc hro hb3 hi hz his hib ho6 hc6 hsz6 hv6 hdl hnb hS6 hlo hs3
          go_wp2_with (first
            | (at_builtin; refine wpList_app rfl _ _ _ rfl rfl rfl hap ?_))
          exact ⟨⟨k + 1, _, _, by go_num, hlt, h10, HS6.out⟩, meas_step h10⟩
      · have hki2 : ¬ (k2 : Int) < (pl.length : Int) := by omega
        have hcs := Chg.setCell (S := (· = B)) (Chg.refl _ wr) (p := ⟨B, 1, none⟩) (fun _ => rfl) (.slice opv k2 cpv)
        have hcc : Chg (· = B) _ (wr.setCell ⟨B, 1, none⟩ (.slice opv k2 cpv)) := ((HC1.out.trans' HI.out.chg).mono (fun _ _ h => h.elim)).trans' hcs
        have hlo : ∀ b, (Value.slice ov k cv).ownBlock = some b → w.heap.size ≤ b ∧ b < B := fun b hb => by have := HS.out.row.lt hb; rw [HB.out] at this; exact this
        have hro := HS.out.row.kept hcc (fun b hb e => by have := hlo b hb; omega)
        have hb3 := block_setCell (i := 1) (v := .slice opv k2 cpv) HBi.out
        have hs3 : (wr.setCell ⟨B, 1, none⟩ (.slice opv k2 cpv)).heap.size = wr.heap.size := by simp [World.setCell]
        have hwB : w.heap.size ≤ B := by have := HS.out.chg.size; rw [HB.out] at this; exact this
        have hBr : B < wr.heap.size := lt_of_block HBi.out
        obtain ⟨i0, hi, hz, his, hib⟩ := info_parts info_plan
        obtain ⟨o6, c6, w6, hap, ho6, hc6, hsz6, hv6⟩ := own_push (P := Try.prog) Try.underlying34 hi hz his hib rfl (by decide) hro (planG r (.slice opv k2 cpv)) rfl (by intro x hx; simp only [planG, List.mem_cons, List.not_mem_nil, or_false] at hx; rcases hx with rfl | rfl <;> rfl) (by rw [HZl.out]; omega) (by omega) (by omega)
        rw [HZl.out] at hap ho6 hv6
        rw [hs3] at hap hsz6 hv6
        have ez : wr.frozen? ⟨B, 1, none⟩ = false := free_of_block HBi.out
        have f0 : (wr.setCell ⟨B, 1, none⟩ (.slice opv k2 cpv)).cell? ⟨B, 0, none⟩ = some (.int .i64 r) := cell_of_block hb3 rfl
        have f1 : (wr.setCell ⟨B, 1, none⟩ (.slice opv k2 cpv)).cell? ⟨B, 1, none⟩ = some (.slice opv k2 cpv) := cell_of_block hb3 rfl
        have hdl : ∀ b, B ≤ b → b < wr.heap.size → (Value.slice o6 (k + 1) c6).ownBlock ≠ some b := fun b hb1 hb2 e => by
          rcases hv6 with h1 | h1
          · have := hlo b (h1.symm.trans e); omega
          · have h2 := Option.some.inj (h1.symm.trans e); omega
        have hnb : ∀ b, b < wr.heap.size → (Value.slice ov k cv).ownBlock ≠ some b → (Value.slice o6 (k + 1) c6).ownBlock ≠ some b := fun b hb hne e => by
          rcases hv6 with h1 | h1
          · exact hne (h1.symm.trans e)
          · have h2 := Option.some.inj (h1.symm.trans e); omega
        have hS6 : FewS w w6 (k + 1) (.slice o6 (k + 1) c6) (ps ++ [r]) (pk ++ [.slice opv k2 cpv]) := by
          have hch : Chg (fun b => b = B ∨ some b = (Value.slice ov k cv).ownBlock) wr w6 := (hcs.mono (fun _ _ h => Or.inl h)).trans' (hc6.mono (fun _ _ h => Or.inr h))
          have hrw := HI.out.row
          have hnpv : ∀ b, (Value.slice opv k2 cpv).ownBlock = some b → B + 1 ≤ b ∧ b < wr.heap.size := fun b hb => hrw.lt hb
          have hrw6 := hrw.kept hch (fun b hb e => by
            have h1 := hnpv b hb
            rcases e with e | e
            · omega
            · have := hlo b e.symm; omega)
          refine ⟨?_, by rw [List.length_append, HS.out.pl]; rfl, by rw [List.length_append, HS.out.kl]; rfl, fun p hp => ?_, ((HS.out.chg.trans' HC1.out).trans' HI.out.chg).new hch (fun b e => ?_)⟩
          · rw [List.zipWith_append (by rw [HS.out.pl, HS.out.kl])]
            exact ho6
          · rcases List.mem_append.1 hp with h1 | h1
            · refine ((((HS.out.pks p h1).kept (HC1.out.trans' HI.out.chg) (fun _ _ h => h)).kept hch (fun b hb e => ?_))).wide (fun b hb => ⟨hb.1, by have := hb.2.1; rw [HB.out] at this; omega, hnb b (by have := hb.2.1; rw [HB.out] at this; omega) hb.2.2⟩)
              rcases e with e | e
              · have := hb.2.1; rw [HB.out] at this; omega
              · exact hb.2.2 e.symm
            · rw [List.mem_singleton.1 h1]
              obtain ⟨oa', cap', e1, g1, g2⟩ := hrw.slice
              rw [HI.out.len] at e1 g1
              cases e1
              refine ⟨opv, cpv, rows, by rw [HI.out.len], rows_of_own hrw6, fun x hx => ((HI.out.pks x hx).kept hch (fun b hb e => ?_)).wide (fun b hb => ⟨by have := hb.1; omega, by have := hb.2.1; omega, hdl b (by have := hb.1; omega) hb.2.1⟩), fun hn b off ho => ?_, by rw [HI.out.len]; exact hk20, by rw [HI.out.len]; exact g1, g2⟩
              · rcases e with e | e
                · have := hb.1; omega
                · have := hlo b e.symm; have := hb.1; omega
              · have h2 := hnpv b (by
                  have hne : 0 < rows.length := Nat.pos_of_ne_zero hn
                  obtain ⟨g, e2, -⟩ := hrw.cell' (k := 0) hne
                  rw [ho] at e2
                  cases e2
                  rw [ho]
                  rfl)
                exact ⟨by omega, by omega, hdl b (by omega) h2.2⟩
          · rcases e with e | e
            · omega
            · exact (hlo b e.symm).1
        have HS6 := Lib.hid hS6
        clear hcs hcc hro hb3 hi hz his hib ho6 hc6 hsz6 hv6 hdl hnb hS6 hlo hs3
        go_wp2_with (first
          | (at_builtin; refine wpList_app rfl _ _ _ rfl rfl rfl hap ?_))
        exact ⟨⟨k + 1, _, _, by go_num, hlt, h10, HS6.out⟩, meas_step h10⟩
    · have hk1 : ¬ (k : Int) < 10 := by omega
      go_wp2_with fail
      go_ret
      have hs := HS.out.chg.size
      exact ⟨_, rfl, ps, pk, HS.out.row, by rw [HS.out.pl, HS.out.kl], by rw [HS.out.pl]; omega, fun p hp => (HS.out.pks p hp).wide (fun b hb => ⟨hb.1, hb.2.1⟩), HS.out.chg⟩
  · have hki : ¬ (k : Int) < (l.length : Int) := by omega
    go_wp2_with fail
    go_ret
    exact ⟨_, rfl, ps, pk, HS.out.row, by rw [HS.out.pl, HS.out.kl], by rw [HS.out.pl]; omega, fun p hp => (HS.out.pks p hp).wide (fun b hb => ⟨hb.1, hb.2.1⟩), HS.out.chg⟩

end Go.Proofs.Ytogjjkbgagedpaa.coordg
