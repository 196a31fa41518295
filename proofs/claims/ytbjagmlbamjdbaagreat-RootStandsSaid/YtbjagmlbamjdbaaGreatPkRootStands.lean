/-
  RootStands, whole: for every list of acts the law returns true and changes nothing that was there. No condition.
-/
import Derived.Test.YtbjagmlbamjdbaaGreatPx1RootStands
import Derived.Test.YtbjagmlbamjdbaaGreatPx22RootStands
import Derived.Test.YtbjagmlbamjdbaaGreatPx23RootStands
import Derived.Test.YtbjagmlbamjdbaaGreatRows

section
set_option linter.unusedSimpArgs false
set_option linter.unusedVariables false
namespace Go.Proofs.YtbjagmlbamjdbaaGreat.rootStands
open Go.ChangeShapes Go.WideShapes Go.ChangeAt Go.RowKit Go.My Go.Maps Go.ChangeMaps wals disks kvs roots

theorem laidOut : laidOutB Tryz.prog = true := by kernel_rfl
theorem own : ownKnob Tryz.prog.godebug = none := by kernel_rfl

/-- What an act may do to a root. -/
structure Acted (k t : Int) (S : RS) (z : Int) (S' : RS) : Prop where
  no : z ≠ 0 → S' = S
  same : k ≠ 1 → S'.stack = S.stack ∧ S'.done = S.done
  com : k = 1 → z = 0 → (S.staged : Int) = t → S'.stack = S.wants ∧ S'.staged = 0 ∧ S'.done.length = S.done.length + 1
  len : S'.done.length ≤ S.done.length + 1

theorem acted_stage {S S' : RS} {t z : Int} {ps : List Pk} {full : Prop} (h : roots.Told (stageE S t ps) S (stageS S t.toNat ps) full z S') : Acted 0 t S z S' := by
  rcases h with ⟨y, -, -, rfl⟩ | ⟨-, rfl, rfl⟩ | ⟨-, rfl, rfl, -⟩
  · exact ⟨fun _ => rfl, fun _ => ⟨rfl, rfl⟩, fun h => absurd h (by decide), by omega⟩
  · exact ⟨fun h => absurd rfl h, fun _ => ⟨rfl, rfl⟩, fun h => absurd h (by decide), by simp [stageS]⟩
  · exact ⟨fun _ => rfl, fun _ => ⟨rfl, rfl⟩, fun h => absurd h (by decide), by omega⟩
theorem acted_abort {S S' : RS} {t z : Int} {full : Prop} (h : roots.Told (abortE S t) S (abortS S) full z S') : Acted 2 t S z S' := by
  rcases h with ⟨y, -, -, rfl⟩ | ⟨-, rfl, rfl⟩ | ⟨-, rfl, rfl, -⟩
  · exact ⟨fun _ => rfl, fun _ => ⟨rfl, rfl⟩, fun h => absurd h (by decide), by omega⟩
  · exact ⟨fun h => absurd rfl h, fun _ => ⟨rfl, rfl⟩, fun h => absurd h (by decide), by simp [abortS]⟩
  · exact ⟨fun _ => rfl, fun _ => ⟨rfl, rfl⟩, fun h => absurd h (by decide), by omega⟩
theorem acted_commit {S S' : RS} {t z : Int} {full : Prop} (hg : RGood S) (h : roots.Told (commitE S t) S (commitS S t.toNat) full z S') : Acted 1 t S z S' := by
  rcases h with ⟨y, hy, rfl, rfl⟩ | ⟨-, rfl, rfl⟩ | ⟨-, rfl, rfl, -⟩
  · refine ⟨fun _ => rfl, fun h => absurd rfl h, fun _ hz hs => ?_, by omega⟩
    exfalso
    unfold commitE at hy
    have hz : y = 0 := by omega
    subst hz
    by_cases h0 : askF t = 0
    · rw [if_neg (by simpa using h0)] at hy
      by_cases hd : ∃ n ∈ S'.done, (n : Int) = t
      · obtain ⟨n, hn, e⟩ := hd
        have : n = S'.staged := by omega
        exact hg.off (this ▸ hn)
      · rw [if_neg hd, if_neg (by simpa using hs)] at hy
        cases hy
    · rw [if_pos h0] at hy
      exact h0 (Option.some.inj hy)
  · exact ⟨fun h => absurd rfl h, fun h => absurd rfl h, fun _ _ _ => ⟨rfl, rfl, by simp [commitS]⟩, by simp [commitS]⟩
  · exact ⟨fun _ => rfl, fun h => absurd rfl h, fun _ h => absurd h (by decide), by omega⟩

set_option linter.unusedVariables false in
set_option maxRecDepth 100000 in
set_option maxHeartbeats 4000000 in
theorem walk (W : World) (oa : Option Addr) (cap : Nat) (l : List RAct) (hr : RowsAt W 5 oa (l.map RAct.row)) (hok : ∀ a ∈ l, a.ok W) : Calls Tryz.prog 5 #[.slice oa l.length cap] W fun e w' => e = .returned (.bool true) ∧ Chg (fun _ => False) W w' := by
  have HWk := Lib.hid works_any
  have HRows := Lib.hid hr
  have HOk := Lib.hid hok
  have HBl := Lib.hid (Blank.new 600 (by omega) (by omega))
  have HNew := Lib.hid (ds_new W W (Chg.refl _ _) 600 (by omega) (by omega))
  clear hr hok
  go_enter Tryz.func5, Tryz.ntmps5
  go_wp2_with (first
    | (go_at_call 25; fail))
  refine HNew.out.mono ?_
  rintro e w1 ⟨d, rfl, P, hd⟩
  have HO := Lib.hid (open_blank w1 hd HBl.out rfl)
  clear hd HNew
  dsimp only
  go_wp2_with (first
    | (go_at_call 24; fail))
  refine HO.out.mono ?_
  rintro e w2 ⟨r, rfl, Q, X, recs, a, m, hR, -, -, -⟩
  have HR := Lib.hid hR
  clear hR HO
  dsimp only
  go_wp2_with fail
  go_loopw [7] (fun j wr => ∃ (k : Nat) (Q : Nat → Prop) (X : DV) (recs : List Txt) (s a : Nat) (m : List KV) (S : RS), j = .int .i64 k ∧ k ≤ l.length ∧ k ≤ 40 ∧ RL Q W wr r d X recs s a m S ∧ s ≤ 1 + k ∧ S.done.length ≤ k) (fun j _ => 40 - (intOf j).toNat)
  · exact ⟨0, Q, X, recs, 1, a, m, nilS, rfl, Nat.zero_le _, Nat.zero_le _, HR.out, Nat.le_refl _, Nat.le_refl _⟩
  clear HR
  obtain ⟨k, Q, X, recs, s, a, m, S, rfl, hk, hk40, hR, hs, hdn⟩ := hrel
  have HRk := Lib.hid hR
  have HSd := Lib.hid (And.intro hs hdn)
  clear hR hs hdn
  by_cases hlt : k < l.length
  · have hki : (k : Int) < (l.length : Int) := by omega
    by_cases h40 : k < 40
    · have hk1 : (k : Int) < 40 := by omega
      obtain ⟨ac, hac⟩ : ∃ x, l[k]? = some x := ⟨l[k], List.getElem?_eq_getElem hlt⟩
      have hok := HOk.out ac (List.mem_of_getElem? hac)
      obtain ⟨b0, off, rfl⟩ := HRows.out.spot (by intro e; rw [List.map_eq_nil_iff] at e; rw [e] at hlt; simp at hlt)
      have hcell := fun j v hj => HRk.out.rt.chg.cell (HRows.out.cell b0 off rfl k _ j v (by rw [List.getElem?_map, hac]; rfl) hj) id
      have d0 : wr.cell? ⟨b0, off + k * 5, none⟩ = some (.int .i64 ac.kind) := hcell 0 _ rfl
      have d1 : wr.cell? ⟨b0, off + k * 5 + 1, none⟩ = some (.int .i64 ac.tx) := hcell 1 _ rfl
      have d2 : wr.cell? ⟨b0, off + k * 5 + 2, none⟩ = some (.int .i64 ac.n) := hcell 2 _ rfl
      have d3 : wr.cell? ⟨b0, off + k * 5 + 3, none⟩ = some ac.pv := hcell 3 _ rfl
      have d4 : wr.cell? ⟨b0, off + k * 5 + 4, none⟩ = some ac.kv := hcell 4 _ rfl
      obtain ⟨op, cp, lp, hpv, -⟩ := id hok.pv.is
      obtain ⟨ok, nk, ck, hkv⟩ := hok.kv
      obtain ⟨np, hnp⟩ : ∃ n, ac.packs.length = n := ⟨_, rfl⟩
      rw [hnp] at hpv
      rw [hpv] at d3
      rw [hkv] at d4
      have HPv := Lib.hid (show PksAt W (fun b => b < W.heap.size) (.slice op np cp) ac.packs by rw [← hpv]; exact hok.pv)
      obtain ⟨kd, hkd⟩ : ∃ z, ac.kind = z := ⟨_, rfl⟩
      obtain ⟨tx, htx⟩ : ∃ z, ac.tx = z := ⟨_, rfl⟩
      obtain ⟨an, han⟩ : ∃ z, ac.n = z := ⟨_, rfl⟩
      rw [hkd] at d0
      rw [htx] at d1
      rw [han] at d2
      clear hcell hac hok hpv hkv hnp hkd htx han
      obtain ⟨w1', hw1⟩ : ∃ w', wr.alloc (.cells #[.int .i64 kd, .int .i64 tx, .int .i64 an, .slice op np cp, .slice ok nk ck] 57) = w' := ⟨_, rfl⟩
      have hc1 : Chg (fun _ => False) wr w1' := by rw [← hw1]; exact (Chg.refl _ _).alloc _
      have hb1 : w1'.heap[wr.heap.size]? = some (.cells #[.int .i64 kd, .int .i64 tx, .int .i64 an, .slice op np cp, .slice ok nk ck] 57 (0, 0)) := by rw [← hw1]; exact block_alloc_new wr _
      have HC1 := Lib.hid hc1
      have HB1 := Lib.hid hb1
      clear hc1 hb1
      go_wp2_with (first
        | (go_at_call 26; fail))
      try rw [hw1]
      clear hw1 d0 d1 d2 d3 d4
      obtain ⟨P0, kb, q1, q2, F0, sv, wv, dv, hrk, -⟩ := (HRk.out.fresh HC1.out).rt.ex
      refine (state_is w1' hrk.rt).mono ?_
      clear hrk
      rintro e w2' ⟨v1, v2, v3, rfl, hst2, hc2⟩
      obtain ⟨⟨x1, y1, e1⟩, ⟨x2, y2, e2⟩, ⟨x3, y3, e3⟩⟩ := hst2.slices
      subst e1; subst e2; subst e3
      obtain ⟨n1, hn1⟩ : ∃ n, S.stack.length = n := ⟨_, rfl⟩
      obtain ⟨n2, hn2⟩ : ∃ n, S.wants.length = n := ⟨_, rfl⟩
      obtain ⟨n3, hn3⟩ : ∃ n, S.done.length = n := ⟨_, rfl⟩
      obtain ⟨st, hst⟩ : ∃ n, S.staged = n := ⟨_, rfl⟩
      have HNs := Lib.hid (And.intro hn1 (And.intro hn2 (And.intro hn3 hst)))
      rw [hn1, hn2, hn3] at hst2
      have HC2 := Lib.hid hc2
      have HSt2 := Lib.hid hst2
      have HB2 := Lib.hid (hc2.at HB1.out id)
      clear hc2 hst2
      unfold stV
      rw [hn1, hn2, hn3, hst]
      clear hn1 hn2 hn3 hst
      obtain ⟨B8, hB8⟩ : ∃ n, wr.heap.size = n := ⟨_, rfl⟩
      rw [hB8] at HB1 HB2 ⊢
      have HB8 := Lib.hid hB8
      clear hB8
      obtain ⟨w3, hw3⟩ : ∃ w', w2'.alloc (.cells #[.slice x1 n1 y1, .slice x2 n2 y2, .int .i64 (st : Int), .slice x3 n3 y3] 59) = w' := ⟨_, rfl⟩
      have hc3 : Chg (fun _ => False) w2' w3 := by rw [← hw3]; exact (Chg.refl _ _).alloc _
      have hb3 : w3.heap[w2'.heap.size]? = some (.cells #[.slice x1 n1 y1, .slice x2 n2 y2, .int .i64 (st : Int), .slice x3 n3 y3] 59 (0, 0)) := by rw [← hw3]; exact block_alloc_new w2' _
      have HC3 := Lib.hid ((HC1.out.trans' HC2.out).trans' hc3)
      have HB3 := Lib.hid (hc3.at HB2.out id)
      have HS3 := Lib.hid hb3
      have HSt3 := Lib.hid (HSt2.out.fresh hc3)
      have c0 : w3.cell? ⟨B8, 0, none⟩ = some (.int .i64 kd) := cell_of_block HB3.out rfl
      have c1 : w3.cell? ⟨B8, 1, none⟩ = some (.int .i64 tx) := cell_of_block HB3.out rfl
      have c3 : w3.cell? ⟨B8, 3, none⟩ = some (.slice op np cp) := cell_of_block HB3.out rfl
      clear hc3 hb3
      dsimp only
      have HCW := Lib.hid (HRk.out.rt.chg.trans' HC3.out)
      have HR3 := Lib.hid (HRk.out.fresh HC3.out)
      try rw [hw3]
      by_cases k0 : kd = 0
      · subst k0
        go_wp2_with fail
        try rw [hw3]
        clear hw3
        refine wp_region_noPanic ?_
        refine wp_region_held_drew (S := (fun w' => w'.cell? ⟨B8, 1, none⟩ = some (.int .i64 tx) ∧ w'.cell? ⟨B8, 3, none⟩ = some (.slice op np cp))) (by kernel_rfl) (⟨c1, c3⟩) (fun hHeld => ?_)
        have HD := Lib.hid (show Chg (fun _ => False) w3 w3.drew from (Chg.refl _ _).drew)
        refine take_list (i := 0) (v := ?_) rfl (by kernel_rfl) (by kernel_rfl) (by kernel_rfl) (fun _ _ _ h => h) (Or.inl ⟨by rfl, fun w hSw => ?_⟩) hHeld ?_
        rotate_left
        · (obtain ⟨hSw1, hSw2⟩ := hSw; go_simp)
          try with_reducible rfl
        simp only [Act.put, List.setIfInBounds_toArray, List.set_cons_zero, List.set_cons_succ]
        refine take_list (i := 1) (v := ?_) rfl (by kernel_rfl) (by kernel_rfl) (by kernel_rfl) (fun _ _ _ h => h) (Or.inl ⟨by rfl, fun w hSw => ?_⟩) hHeld ?_
        rotate_left
        · (obtain ⟨hSw1, hSw2⟩ := hSw; go_simp)
          try with_reducible rfl
        simp only [Act.put, List.setIfInBounds_toArray, List.set_cons_zero, List.set_cons_succ]
        refine take_list (i := 2) (v := ?_) rfl (by kernel_rfl) (by kernel_rfl) (by kernel_rfl) (fun _ _ _ h => h) (Or.inl ⟨by rfl, fun w hSw => ?_⟩) hHeld ?_
        rotate_left
        · (obtain ⟨hSw1, hSw2⟩ := hSw; go_simp)
          try with_reducible rfl
        simp only [Act.put, List.setIfInBounds_toArray, List.set_cons_zero, List.set_cons_succ]
        refine take_list (i := 3) (v := ?_) rfl (by kernel_rfl) (by kernel_rfl) (by kernel_rfl) (fun _ _ _ h => h) (Or.inl ⟨by rfl, fun w hSw => ?_⟩) hHeld ?_
        rotate_left
        · (obtain ⟨hSw1, hSw2⟩ := hSw; go_simp)
          try with_reducible rfl
        simp only [Act.put, List.setIfInBounds_toArray, List.set_cons_zero, List.set_cons_succ]
        refine take_list (i := 4) (v := ?_) rfl (by kernel_rfl) (by kernel_rfl) (by kernel_rfl) (fun _ _ _ h => h) (Or.inl ⟨by rfl, fun w hSw => ?_⟩) hHeld ?_
        rotate_left
        · (obtain ⟨hSw1, hSw2⟩ := hSw; go_simp)
          try with_reducible rfl
        simp only [Act.put, List.setIfInBounds_toArray, List.set_cons_zero, List.set_cons_succ]
        refine wpAnyH_ready (rs := [5]) (by kernel_rfl) (by simp) (one_list (i := 5) rfl (by rfl) (fun K hK => ?_) AllReadyH.nil)
        go_simp
        refine (few_is w3.drew (HPv.out.fresh (HCW.out.trans' HD.out))).mono ?_
        rintro e w4 ⟨v4, rfl, hp4, hc4⟩
        obtain ⟨o4, p4, l4, hv4, -⟩ := id hp4.is
        obtain ⟨n4, hn4⟩ : ∃ n, (fewF ac.packs).length = n := ⟨_, rfl⟩
        rw [hn4] at hv4
        subst hv4
        have HP4 := Lib.hid hp4
        have HC4 := Lib.hid (HD.out.trans' hc4)
        clear hp4 hc4 hn4
        refine hK _ _ (⟨HC4.out.cell c1 id, HC4.out.cell c3 id⟩) (fun hA1 => ?_)
        try simp only [Act.put, List.setIfInBounds_toArray, List.set_cons_zero, List.set_cons_succ]
        refine wpAnyH_ready (rs := [6]) (by kernel_rfl) (by simp) (one_list (i := 6) rfl (by rfl) (fun K hK => ?_) AllReadyH.nil)
        go_simp
        have hst := rl_stage w4 (HR3.out.fresh HC4.out) (by have := HSd.out.1; omega) tx HP4.out (fun b hb => ⟨fun hq => by have := HR3.out.rt.lt _ hq; have h1 : w3.heap.size ≤ b := hb.1; omega, hb.2⟩)
        refine hst.mono ?_
        clear hst
        rintro e w5 ⟨z, rfl, S', ⟨⟨Q5, X5, recs5, s5, a5, m5, hR5, hl5, hs5, ho5⟩, hc5⟩, ht5⟩
        have hc35 : Chg Q w3 w5 := (HC4.out.mono (fun _ _ e => e.elim)).trans' hc5
        have HAct := Lib.hid (acted_stage ht5)
        have hq3 : ¬ Q B8 := fun hq => by have := HRk.out.rt.lt _ hq; have := HB8.out; omega
        refine hK _ _ (⟨hc35.cell c1 hq3, hc35.cell c3 hq3⟩) (fun hA2 => ?_)
        try simp only [Act.put, List.setIfInBounds_toArray, List.set_cons_zero, List.set_cons_succ]
        refine take_list (i := 7) (v := ?_) rfl (by kernel_rfl) (by kernel_rfl) (by kernel_rfl) (fun _ _ _ h => h) (Or.inl ⟨by rfl, fun w hSw => ?_⟩) hA2 ?_
        rotate_left
        · (skip; go_simp)
          try with_reducible rfl
        simp only [Act.put, List.setIfInBounds_toArray, List.set_cons_zero, List.set_cons_succ]
        refine wpAnyH_done (by kernel_rfl) ?_ _
        refine NoPanic.normal ?_
        clear hHeld hA1 hA2 hq3 hc5 ht5 c0 c1 c3 ho5 hl5
        have HR5 := Lib.hid hR5
        have hB8q : ¬ Q B8 := fun hq => by have := HRk.out.rt.lt _ hq; have := HB8.out; omega
        have hB9q : ¬ Q w2'.heap.size := fun hq => by have := HRk.out.rt.lt _ hq; have := HC1.out.size; have := HC2.out.size; omega
        have hb5 := hc35.at HB3.out hB8q
        have hs5' := hc35.at HS3.out hB9q
        have hst5 := HSt3.out.kept hc35 (fun b hb hq => by have := HRk.out.rt.lt _ hq; have := hb.1; have := HC1.out.size; omega)
        have HB5 := Lib.hid hb5
        have HS5 := Lib.hid hs5'
        have HSt5 := Lib.hid hst5
        clear hR5 hB8q hB9q hb5 hs5' hst5 hc35
        try dsimp only
        go_wp2_with (first
          | (go_at_call 26; fail))
        obtain ⟨P6, kb6, q6, l6, F6, sv6, wv6, dv6, hrk, -⟩ := HR5.out.rt.ex
        refine (state_is w5 hrk.rt).mono ?_
        clear hrk
        rintro e w6 ⟨u1, u2, u3, rfl, hst6, hc6⟩
        obtain ⟨⟨a1, b1, e1⟩, ⟨a2, b2, e2⟩, ⟨a3, b3, e3⟩⟩ := hst6.slices
        subst e1; subst e2; subst e3
        obtain ⟨m1, hm1⟩ : ∃ n, S'.stack.length = n := ⟨_, rfl⟩
        obtain ⟨m2, hm2⟩ : ∃ n, S'.wants.length = n := ⟨_, rfl⟩
        obtain ⟨m3, hm3⟩ : ∃ n, S'.done.length = n := ⟨_, rfl⟩
        obtain ⟨st', hst'⟩ : ∃ n, S'.staged = n := ⟨_, rfl⟩
        have HMs := Lib.hid (And.intro hm1 (And.intro hm2 (And.intro hm3 hst')))
        rw [hm1, hm2, hm3] at hst6
        unfold stV
        rw [hm1, hm2, hm3, hst']
        obtain ⟨w7, hw7⟩ : ∃ w', w6.alloc (.cells #[.slice a1 m1 b1, .slice a2 m2 b2, .int .i64 (st' : Int), .slice a3 m3 b3] 59) = w' := ⟨_, rfl⟩
        have hc7 : Chg (fun _ => False) w6 w7 := by rw [← hw7]; exact (Chg.refl _ _).alloc _
        have hi7 : w7.heap[w6.heap.size]? = some (.cells #[.slice a1 m1 b1, .slice a2 m2 b2, .int .i64 (st' : Int), .slice a3 m3 b3] 59 (0, 0)) := by rw [← hw7]; exact block_alloc_new w6 _
        have hb7 := (hc6.trans' hc7).at HB5.out id
        have hs7 := (hc6.trans' hc7).at HS5.out id
        have hsu := hst6.fresh hc7
        have hsv := HSt5.out.fresh (hc6.trans' hc7)
        have HC7 := Lib.hid (hc6.trans' hc7)
        have HCell := Lib.hid (fun (v : World) (hv : Chg (fun _ => False) w7 v) => (⟨hv.cell (cell_of_block hb7 (i := 0) rfl) id, hv.cell (cell_of_block hb7 (i := 1) rfl) id, hv.cell (cell_of_block hs7 (i := 0) rfl) id, hv.cell (cell_of_block hs7 (i := 1) rfl) id, hv.cell (cell_of_block hs7 (i := 2) rfl) id, hv.cell (cell_of_block hs7 (i := 3) rfl) id, hv.cell (cell_of_block hi7 (i := 0) rfl) id, hv.cell (cell_of_block hi7 (i := 1) rfl) id, hv.cell (cell_of_block hi7 (i := 2) rfl) id, hv.cell (cell_of_block hi7 (i := 3) rfl) id⟩ :
          v.cell? ⟨B8, 0, none⟩ = some (.int .i64 0) ∧ v.cell? ⟨B8, 1, none⟩ = some (.int .i64 tx) ∧ v.cell? ⟨w2'.heap.size, 0, none⟩ = some (.slice x1 n1 y1) ∧ v.cell? ⟨w2'.heap.size, 1, none⟩ = some (.slice x2 n2 y2) ∧ v.cell? ⟨w2'.heap.size, 2, none⟩ = some (.int .i64 (st : Int)) ∧ v.cell? ⟨w2'.heap.size, 3, none⟩ = some (.slice x3 n3 y3) ∧ v.cell? ⟨w6.heap.size, 0, none⟩ = some (.slice a1 m1 b1) ∧ v.cell? ⟨w6.heap.size, 1, none⟩ = some (.slice a2 m2 b2) ∧ v.cell? ⟨w6.heap.size, 2, none⟩ = some (.int .i64 (st' : Int)) ∧ v.cell? ⟨w6.heap.size, 3, none⟩ = some (.slice a3 m3 b3)))
        have hal : ∀ (v : World) (_ : Chg (fun _ => False) w7 v), Calls Tryz.prog 27 #[.agg #[.slice a1 m1 b1, .slice a2 m2 b2, .int .i64 (st' : Int), .slice a3 m3 b3], .agg #[.slice x1 n1 y1, .slice x2 n2 y2, .int .i64 (st : Int), .slice x3 n3 y3]] v fun e w' => e = .returned (.bool (S'.alike S)) ∧ Chg (fun _ => False) v w' := fun v hv => by
          have h := alike_is v (hsu.fresh hv) (hsv.fresh hv)
          unfold stV at h
          rw [hst', HNs.out.2.2.2] at h
          exact h
        have HAl := Lib.hid hal
        have HS1 := Lib.hid (fun (v : World) (hv : Chg (fun _ => False) w7 v) => rsame_is v (hsu.stack.fresh hv) (hsv.stack.fresh hv))
        have HS2 := Lib.hid (fun (v : World) (hv : Chg (fun _ => False) w7 v) => rsame_is v (hsu.stack.fresh hv) (hsv.wants.fresh hv))
        have hnm : ∀ (v : World) (_ : Chg (fun _ => False) w7 v), Calls Tryz.prog 29 #[.slice a3 m3 b3, .slice x3 n3 y3] v fun e w' => e = .returned (.bool (decide (S'.done = S.done))) ∧ Chg (fun _ => False) v w' := fun v hv => by
          obtain ⟨f1, hf1⟩ := hsu.done
          obtain ⟨f2, hf2⟩ := hsv.done
          exact nums_same v (SlAt.of_own (own_keptS hf1 hv (fun _ _ e => e)) : NumsAt v _ S'.done) (SlAt.of_own (own_keptS hf2 hv (fun _ _ e => e)) : NumsAt v _ S.done) (by have := hsu.len; omega)
        have HNm := Lib.hid hnm
        clear hst6 hc6 hc7 hi7 hb7 hs7 hsu hsv hal hnm hm1 hm2 hm3 hst'
        obtain ⟨c0, c1, p0, p1, p2, p3, r0, r1, r2, r3⟩ := HCell.out w7 (Chg.refl _ _)
        by_cases hz0 : z ≠ 0
        · have hzb : (z != 0) = true := by simpa using hz0
          go_wp2_with (first
            | (go_at_call 27; fail))
          try rw [hw7]
          clear hw7
          clear c0 c1 p0 p1 p2 p3 r0 r1 r2 r3
          refine (HAl.out w7 (Chg.refl _ _)).mono ?_
          rintro e wA ⟨rfl, hcA⟩
          have hself : S'.alike S = true := by rw [HAct.out.no hz0]; exact RS.alike_self S
          rw [hself]
          clear hself
          have HCA := Lib.hid hcA
          clear hcA
          obtain ⟨c0, c1, p0, p1, p2, p3, r0, r1, r2, r3⟩ := HCell.out wA HCA.out
          dsimp only
          go_wp2_with (first
            | (go_at_call 28; fail))
          skip
          clear c0 c1 p0 p1 p2 p3 r0 r1 r2 r3
          refine (HS1.out wA HCA.out).mono ?_
          rintro e wB ⟨rfl, hcB⟩
          have hself : decide (S'.stack = S.stack) = true := decide_eq_true (HAct.out.same (by decide)).1
          rw [hself]
          clear hself
          have HCB := Lib.hid (Chg.trans' HCA.out hcB)
          clear hcB
          obtain ⟨c0, c1, p0, p1, p2, p3, r0, r1, r2, r3⟩ := HCell.out wB HCB.out
          dsimp only
          go_wp2_with (first
            | (go_at_call 29; fail))
          clear c0 c1 p0 p1 p2 p3 r0 r1 r2 r3
          refine (HNm.out wB HCB.out).mono ?_
          rintro e wC ⟨rfl, hcC⟩
          have hself : decide (S'.done = S.done) = true := decide_eq_true (HAct.out.same (by decide)).2
          rw [hself]
          clear hself
          have HCC := Lib.hid (HCB.out.trans' hcC)
          clear hcC
          obtain ⟨c0, c1, p0, p1, p2, p3, r0, r1, r2, r3⟩ := HCell.out wC HCC.out
          dsimp only
          go_wp2_with fail
          exact ⟨⟨k + 1, Q5, X5, recs5, s5, a5, m5, S', by go_num, hlt, h40, HR5.out.fresh (HC7.out.trans' HCC.out), by have := HSd.out.1; omega, by have := HSd.out.2; have := HAct.out.len; omega⟩, meas_step h40⟩
        · have hzb : (z != 0) = false := by simpa using hz0
          have hz1 : (z == 0) = true := by simpa using hz0
          go_wp2_with (first
            | (go_at_call 28; fail))
          (try rw [hw7])
          clear c0 c1 p0 p1 p2 p3 r0 r1 r2 r3
          refine (HS1.out w7 (Chg.refl (fun _ => False) w7)).mono ?_
          rintro e wB ⟨rfl, hcB⟩
          have hself : decide (S'.stack = S.stack) = true := decide_eq_true (HAct.out.same (by decide)).1
          rw [hself]
          clear hself
          have HCB := Lib.hid (Chg.trans' (Chg.refl (fun _ => False) w7) hcB)
          clear hcB
          obtain ⟨c0, c1, p0, p1, p2, p3, r0, r1, r2, r3⟩ := HCell.out wB HCB.out
          dsimp only
          go_wp2_with (first
            | (go_at_call 29; fail))
          clear c0 c1 p0 p1 p2 p3 r0 r1 r2 r3
          refine (HNm.out wB HCB.out).mono ?_
          rintro e wC ⟨rfl, hcC⟩
          have hself : decide (S'.done = S.done) = true := decide_eq_true (HAct.out.same (by decide)).2
          rw [hself]
          clear hself
          have HCC := Lib.hid (HCB.out.trans' hcC)
          clear hcC
          obtain ⟨c0, c1, p0, p1, p2, p3, r0, r1, r2, r3⟩ := HCell.out wC HCC.out
          dsimp only
          go_wp2_with fail
          exact ⟨⟨k + 1, Q5, X5, recs5, s5, a5, m5, S', by go_num, hlt, h40, HR5.out.fresh (HC7.out.trans' HCC.out), by have := HSd.out.1; omega, by have := HSd.out.2; have := HAct.out.len; omega⟩, meas_step h40⟩
      · by_cases k1 : kd = 1
        · subst k1
          go_wp2_with (first
            | (go_at_call 20; fail))
          try rw [hw3]
          clear hw3
          have hst := rl_commit w3 HR3.out (by have := HSd.out.1; omega) (by have := HSd.out.2; omega) tx
          refine hst.mono ?_
          clear hst
          rintro e w5 ⟨z, rfl, S', ⟨⟨Q5, X5, recs5, s5, a5, m5, hR5, hl5, hs5, ho5⟩, hc35⟩, ht5⟩
          have HAct := Lib.hid (acted_commit HRk.out.rt.good ht5)
          clear ht5 c0 c1 c3 ho5 hl5
          have HR5 := Lib.hid hR5
          have hB8q : ¬ Q B8 := fun hq => by have := HRk.out.rt.lt _ hq; have := HB8.out; omega
          have hB9q : ¬ Q w2'.heap.size := fun hq => by have := HRk.out.rt.lt _ hq; have := HC1.out.size; have := HC2.out.size; omega
          have hb5 := hc35.at HB3.out hB8q
          have hs5' := hc35.at HS3.out hB9q
          have hst5 := HSt3.out.kept hc35 (fun b hb hq => by have := HRk.out.rt.lt _ hq; have := hb.1; have := HC1.out.size; omega)
          have HB5 := Lib.hid hb5
          have HS5 := Lib.hid hs5'
          have HSt5 := Lib.hid hst5
          clear hR5 hB8q hB9q hb5 hs5' hst5 hc35
          try dsimp only
          go_wp2_with (first
            | (go_at_call 26; fail))
          obtain ⟨P6, kb6, q6, l6, F6, sv6, wv6, dv6, hrk, -⟩ := HR5.out.rt.ex
          refine (state_is w5 hrk.rt).mono ?_
          clear hrk
          rintro e w6 ⟨u1, u2, u3, rfl, hst6, hc6⟩
          obtain ⟨⟨a1, b1, e1⟩, ⟨a2, b2, e2⟩, ⟨a3, b3, e3⟩⟩ := hst6.slices
          subst e1; subst e2; subst e3
          obtain ⟨m1, hm1⟩ : ∃ n, S'.stack.length = n := ⟨_, rfl⟩
          obtain ⟨m2, hm2⟩ : ∃ n, S'.wants.length = n := ⟨_, rfl⟩
          obtain ⟨m3, hm3⟩ : ∃ n, S'.done.length = n := ⟨_, rfl⟩
          obtain ⟨st', hst'⟩ : ∃ n, S'.staged = n := ⟨_, rfl⟩
          have HMs := Lib.hid (And.intro hm1 (And.intro hm2 (And.intro hm3 hst')))
          rw [hm1, hm2, hm3] at hst6
          unfold stV
          rw [hm1, hm2, hm3, hst']
          obtain ⟨w7, hw7⟩ : ∃ w', w6.alloc (.cells #[.slice a1 m1 b1, .slice a2 m2 b2, .int .i64 (st' : Int), .slice a3 m3 b3] 59) = w' := ⟨_, rfl⟩
          have hc7 : Chg (fun _ => False) w6 w7 := by rw [← hw7]; exact (Chg.refl _ _).alloc _
          have hi7 : w7.heap[w6.heap.size]? = some (.cells #[.slice a1 m1 b1, .slice a2 m2 b2, .int .i64 (st' : Int), .slice a3 m3 b3] 59 (0, 0)) := by rw [← hw7]; exact block_alloc_new w6 _
          have hb7 := (hc6.trans' hc7).at HB5.out id
          have hs7 := (hc6.trans' hc7).at HS5.out id
          have hsu := hst6.fresh hc7
          have hsv := HSt5.out.fresh (hc6.trans' hc7)
          have HC7 := Lib.hid (hc6.trans' hc7)
          have HCell := Lib.hid (fun (v : World) (hv : Chg (fun _ => False) w7 v) => (⟨hv.cell (cell_of_block hb7 (i := 0) rfl) id, hv.cell (cell_of_block hb7 (i := 1) rfl) id, hv.cell (cell_of_block hs7 (i := 0) rfl) id, hv.cell (cell_of_block hs7 (i := 1) rfl) id, hv.cell (cell_of_block hs7 (i := 2) rfl) id, hv.cell (cell_of_block hs7 (i := 3) rfl) id, hv.cell (cell_of_block hi7 (i := 0) rfl) id, hv.cell (cell_of_block hi7 (i := 1) rfl) id, hv.cell (cell_of_block hi7 (i := 2) rfl) id, hv.cell (cell_of_block hi7 (i := 3) rfl) id⟩ :
            v.cell? ⟨B8, 0, none⟩ = some (.int .i64 1) ∧ v.cell? ⟨B8, 1, none⟩ = some (.int .i64 tx) ∧ v.cell? ⟨w2'.heap.size, 0, none⟩ = some (.slice x1 n1 y1) ∧ v.cell? ⟨w2'.heap.size, 1, none⟩ = some (.slice x2 n2 y2) ∧ v.cell? ⟨w2'.heap.size, 2, none⟩ = some (.int .i64 (st : Int)) ∧ v.cell? ⟨w2'.heap.size, 3, none⟩ = some (.slice x3 n3 y3) ∧ v.cell? ⟨w6.heap.size, 0, none⟩ = some (.slice a1 m1 b1) ∧ v.cell? ⟨w6.heap.size, 1, none⟩ = some (.slice a2 m2 b2) ∧ v.cell? ⟨w6.heap.size, 2, none⟩ = some (.int .i64 (st' : Int)) ∧ v.cell? ⟨w6.heap.size, 3, none⟩ = some (.slice a3 m3 b3)))
          have hal : ∀ (v : World) (_ : Chg (fun _ => False) w7 v), Calls Tryz.prog 27 #[.agg #[.slice a1 m1 b1, .slice a2 m2 b2, .int .i64 (st' : Int), .slice a3 m3 b3], .agg #[.slice x1 n1 y1, .slice x2 n2 y2, .int .i64 (st : Int), .slice x3 n3 y3]] v fun e w' => e = .returned (.bool (S'.alike S)) ∧ Chg (fun _ => False) v w' := fun v hv => by
            have h := alike_is v (hsu.fresh hv) (hsv.fresh hv)
            unfold stV at h
            rw [hst', HNs.out.2.2.2] at h
            exact h
          have HAl := Lib.hid hal
          have HS1 := Lib.hid (fun (v : World) (hv : Chg (fun _ => False) w7 v) => rsame_is v (hsu.stack.fresh hv) (hsv.stack.fresh hv))
          have HS2 := Lib.hid (fun (v : World) (hv : Chg (fun _ => False) w7 v) => rsame_is v (hsu.stack.fresh hv) (hsv.wants.fresh hv))
          have hnm : ∀ (v : World) (_ : Chg (fun _ => False) w7 v), Calls Tryz.prog 29 #[.slice a3 m3 b3, .slice x3 n3 y3] v fun e w' => e = .returned (.bool (decide (S'.done = S.done))) ∧ Chg (fun _ => False) v w' := fun v hv => by
            obtain ⟨f1, hf1⟩ := hsu.done
            obtain ⟨f2, hf2⟩ := hsv.done
            exact nums_same v (SlAt.of_own (own_keptS hf1 hv (fun _ _ e => e)) : NumsAt v _ S'.done) (SlAt.of_own (own_keptS hf2 hv (fun _ _ e => e)) : NumsAt v _ S.done) (by have := hsu.len; omega)
          have HNm := Lib.hid hnm
          clear hst6 hc6 hc7 hi7 hb7 hs7 hsu hsv hal hnm hm1 hm2 hm3 hst'
          obtain ⟨c0, c1, p0, p1, p2, p3, r0, r1, r2, r3⟩ := HCell.out w7 (Chg.refl _ _)
          by_cases hz0 : z ≠ 0
          · have hzb : (z != 0) = true := by simpa using hz0
            have hz1 : (z == 0) = false := by simpa using hz0
            go_wp2_with (first
              | (go_at_call 27; fail))
            try rw [hw7]
            clear hw7
            clear c0 c1 p0 p1 p2 p3 r0 r1 r2 r3
            refine (HAl.out w7 (Chg.refl _ _)).mono ?_
            rintro e wA ⟨rfl, hcA⟩
            have hself : S'.alike S = true := by rw [HAct.out.no hz0]; exact RS.alike_self S
            rw [hself]
            clear hself
            have HCA := Lib.hid hcA
            clear hcA
            obtain ⟨c0, c1, p0, p1, p2, p3, r0, r1, r2, r3⟩ := HCell.out wA HCA.out
            dsimp only
            go_wp2_with fail
            exact ⟨⟨k + 1, Q5, X5, recs5, s5, a5, m5, S', by go_num, hlt, h40, HR5.out.fresh (HC7.out.trans' HCA.out), by have := HSd.out.1; omega, by have := HSd.out.2; have := HAct.out.len; omega⟩, meas_step h40⟩
          · have hzb : (z != 0) = false := by simpa using hz0
            have hz1 : (z == 0) = true := by simpa using hz0
            by_cases hsx : (st : Int) = tx
            · have hsb : ((st : Int) == tx) = true := by simpa using hsx
              obtain ⟨f1, f2, f3⟩ := HAct.out.com rfl (by simpa using hz0) (by rw [HNs.out.2.2.2]; exact hsx)
              have e1 : st' = 0 := by rw [← HMs.out.2.2.2]; exact f2
              have e2 : m3 = n3 + 1 := by rw [← HMs.out.2.2.1, ← HNs.out.2.2.1]; exact f3
              have HF1 := Lib.hid f1
              have hn3 : (n3 : Int) ≤ 40 := by have := HSd.out.2; have := HNs.out.2.2.1; omega
              have hn30 : (0 : Int) ≤ (n3 : Int) := by omega
              have h0b : ((st' : Int) != 0) = false := by rw [e1]; rfl
              have hmb : ((m3 : Int) != (n3 : Int) + 1) = false := by rw [e2]; simp
              clear f1 f2 f3 e1 e2 hsx
              go_wp2_with (first
                | (go_at_call 28; fail))
              try rw [hw7]
              clear hw7
              clear c0 c1 p0 p1 p2 p3 r0 r1 r2 r3
              refine (HS2.out w7 (Chg.refl _ _)).mono ?_
              rintro e wB ⟨rfl, hcB⟩
              have hself : decide (S'.stack = S.wants) = true := decide_eq_true HF1.out
              rw [hself]
              clear hself
              have HCB := Lib.hid hcB
              clear hcB
              obtain ⟨c0, c1, p0, p1, p2, p3, r0, r1, r2, r3⟩ := HCell.out wB HCB.out
              dsimp only
              go_wp2_with fail
              exact ⟨⟨k + 1, Q5, X5, recs5, s5, a5, m5, S', by go_num, hlt, h40, HR5.out.fresh (HC7.out.trans' HCB.out), by have := HSd.out.1; omega, by have := HSd.out.2; have := HAct.out.len; omega⟩, meas_step h40⟩
            · have hsb : ((st : Int) == tx) = false := by simpa using hsx
              go_wp2_with fail
              try rw [hw7]
              exact ⟨⟨k + 1, Q5, X5, recs5, s5, a5, m5, S', by go_num, hlt, h40, HR5.out.fresh (HC7.out.trans' (Chg.refl (fun _ => False) w7)), by have := HSd.out.1; omega, by have := HSd.out.2; have := HAct.out.len; omega⟩, meas_step h40⟩
        · by_cases k2 : kd = 2
          · subst k2
            go_wp2_with (first
              | (go_at_call 21; fail))
            try rw [hw3]
            clear hw3
            have hst := rl_abort w3 HR3.out (by have := HSd.out.1; omega) tx
            refine hst.mono ?_
            clear hst
            rintro e w5 ⟨z, rfl, S', ⟨⟨Q5, X5, recs5, s5, a5, m5, hR5, hl5, hs5, ho5⟩, hc35⟩, ht5⟩
            have HAct := Lib.hid (acted_abort ht5)
            clear ht5 c0 c1 c3 ho5 hl5
            have HR5 := Lib.hid hR5
            have hB8q : ¬ Q B8 := fun hq => by have := HRk.out.rt.lt _ hq; have := HB8.out; omega
            have hB9q : ¬ Q w2'.heap.size := fun hq => by have := HRk.out.rt.lt _ hq; have := HC1.out.size; have := HC2.out.size; omega
            have hb5 := hc35.at HB3.out hB8q
            have hs5' := hc35.at HS3.out hB9q
            have hst5 := HSt3.out.kept hc35 (fun b hb hq => by have := HRk.out.rt.lt _ hq; have := hb.1; have := HC1.out.size; omega)
            have HB5 := Lib.hid hb5
            have HS5 := Lib.hid hs5'
            have HSt5 := Lib.hid hst5
            clear hR5 hB8q hB9q hb5 hs5' hst5 hc35
            try dsimp only
            go_wp2_with (first
              | (go_at_call 26; fail))
            obtain ⟨P6, kb6, q6, l6, F6, sv6, wv6, dv6, hrk, -⟩ := HR5.out.rt.ex
            refine (state_is w5 hrk.rt).mono ?_
            clear hrk
            rintro e w6 ⟨u1, u2, u3, rfl, hst6, hc6⟩
            obtain ⟨⟨a1, b1, e1⟩, ⟨a2, b2, e2⟩, ⟨a3, b3, e3⟩⟩ := hst6.slices
            subst e1; subst e2; subst e3
            obtain ⟨m1, hm1⟩ : ∃ n, S'.stack.length = n := ⟨_, rfl⟩
            obtain ⟨m2, hm2⟩ : ∃ n, S'.wants.length = n := ⟨_, rfl⟩
            obtain ⟨m3, hm3⟩ : ∃ n, S'.done.length = n := ⟨_, rfl⟩
            obtain ⟨st', hst'⟩ : ∃ n, S'.staged = n := ⟨_, rfl⟩
            have HMs := Lib.hid (And.intro hm1 (And.intro hm2 (And.intro hm3 hst')))
            rw [hm1, hm2, hm3] at hst6
            unfold stV
            rw [hm1, hm2, hm3, hst']
            obtain ⟨w7, hw7⟩ : ∃ w', w6.alloc (.cells #[.slice a1 m1 b1, .slice a2 m2 b2, .int .i64 (st' : Int), .slice a3 m3 b3] 59) = w' := ⟨_, rfl⟩
            have hc7 : Chg (fun _ => False) w6 w7 := by rw [← hw7]; exact (Chg.refl _ _).alloc _
            have hi7 : w7.heap[w6.heap.size]? = some (.cells #[.slice a1 m1 b1, .slice a2 m2 b2, .int .i64 (st' : Int), .slice a3 m3 b3] 59 (0, 0)) := by rw [← hw7]; exact block_alloc_new w6 _
            have hb7 := (hc6.trans' hc7).at HB5.out id
            have hs7 := (hc6.trans' hc7).at HS5.out id
            have hsu := hst6.fresh hc7
            have hsv := HSt5.out.fresh (hc6.trans' hc7)
            have HC7 := Lib.hid (hc6.trans' hc7)
            have HCell := Lib.hid (fun (v : World) (hv : Chg (fun _ => False) w7 v) => (⟨hv.cell (cell_of_block hb7 (i := 0) rfl) id, hv.cell (cell_of_block hb7 (i := 1) rfl) id, hv.cell (cell_of_block hs7 (i := 0) rfl) id, hv.cell (cell_of_block hs7 (i := 1) rfl) id, hv.cell (cell_of_block hs7 (i := 2) rfl) id, hv.cell (cell_of_block hs7 (i := 3) rfl) id, hv.cell (cell_of_block hi7 (i := 0) rfl) id, hv.cell (cell_of_block hi7 (i := 1) rfl) id, hv.cell (cell_of_block hi7 (i := 2) rfl) id, hv.cell (cell_of_block hi7 (i := 3) rfl) id⟩ :
              v.cell? ⟨B8, 0, none⟩ = some (.int .i64 2) ∧ v.cell? ⟨B8, 1, none⟩ = some (.int .i64 tx) ∧ v.cell? ⟨w2'.heap.size, 0, none⟩ = some (.slice x1 n1 y1) ∧ v.cell? ⟨w2'.heap.size, 1, none⟩ = some (.slice x2 n2 y2) ∧ v.cell? ⟨w2'.heap.size, 2, none⟩ = some (.int .i64 (st : Int)) ∧ v.cell? ⟨w2'.heap.size, 3, none⟩ = some (.slice x3 n3 y3) ∧ v.cell? ⟨w6.heap.size, 0, none⟩ = some (.slice a1 m1 b1) ∧ v.cell? ⟨w6.heap.size, 1, none⟩ = some (.slice a2 m2 b2) ∧ v.cell? ⟨w6.heap.size, 2, none⟩ = some (.int .i64 (st' : Int)) ∧ v.cell? ⟨w6.heap.size, 3, none⟩ = some (.slice a3 m3 b3)))
            have hal : ∀ (v : World) (_ : Chg (fun _ => False) w7 v), Calls Tryz.prog 27 #[.agg #[.slice a1 m1 b1, .slice a2 m2 b2, .int .i64 (st' : Int), .slice a3 m3 b3], .agg #[.slice x1 n1 y1, .slice x2 n2 y2, .int .i64 (st : Int), .slice x3 n3 y3]] v fun e w' => e = .returned (.bool (S'.alike S)) ∧ Chg (fun _ => False) v w' := fun v hv => by
              have h := alike_is v (hsu.fresh hv) (hsv.fresh hv)
              unfold stV at h
              rw [hst', HNs.out.2.2.2] at h
              exact h
            have HAl := Lib.hid hal
            have HS1 := Lib.hid (fun (v : World) (hv : Chg (fun _ => False) w7 v) => rsame_is v (hsu.stack.fresh hv) (hsv.stack.fresh hv))
            have HS2 := Lib.hid (fun (v : World) (hv : Chg (fun _ => False) w7 v) => rsame_is v (hsu.stack.fresh hv) (hsv.wants.fresh hv))
            have hnm : ∀ (v : World) (_ : Chg (fun _ => False) w7 v), Calls Tryz.prog 29 #[.slice a3 m3 b3, .slice x3 n3 y3] v fun e w' => e = .returned (.bool (decide (S'.done = S.done))) ∧ Chg (fun _ => False) v w' := fun v hv => by
              obtain ⟨f1, hf1⟩ := hsu.done
              obtain ⟨f2, hf2⟩ := hsv.done
              exact nums_same v (SlAt.of_own (own_keptS hf1 hv (fun _ _ e => e)) : NumsAt v _ S'.done) (SlAt.of_own (own_keptS hf2 hv (fun _ _ e => e)) : NumsAt v _ S.done) (by have := hsu.len; omega)
            have HNm := Lib.hid hnm
            clear hst6 hc6 hc7 hi7 hb7 hs7 hsu hsv hal hnm hm1 hm2 hm3 hst'
            obtain ⟨c0, c1, p0, p1, p2, p3, r0, r1, r2, r3⟩ := HCell.out w7 (Chg.refl _ _)
            by_cases hz0 : z ≠ 0
            · have hzb : (z != 0) = true := by simpa using hz0
              go_wp2_with (first
                | (go_at_call 27; fail))
              try rw [hw7]
              clear hw7
              clear c0 c1 p0 p1 p2 p3 r0 r1 r2 r3
              refine (HAl.out w7 (Chg.refl _ _)).mono ?_
              rintro e wA ⟨rfl, hcA⟩
              have hself : S'.alike S = true := by rw [HAct.out.no hz0]; exact RS.alike_self S
              rw [hself]
              clear hself
              have HCA := Lib.hid hcA
              clear hcA
              obtain ⟨c0, c1, p0, p1, p2, p3, r0, r1, r2, r3⟩ := HCell.out wA HCA.out
              dsimp only
              go_wp2_with (first
                | (go_at_call 28; fail))
              skip
              clear c0 c1 p0 p1 p2 p3 r0 r1 r2 r3
              refine (HS1.out wA HCA.out).mono ?_
              rintro e wB ⟨rfl, hcB⟩
              have hself : decide (S'.stack = S.stack) = true := decide_eq_true (HAct.out.same (by decide)).1
              rw [hself]
              clear hself
              have HCB := Lib.hid (Chg.trans' HCA.out hcB)
              clear hcB
              obtain ⟨c0, c1, p0, p1, p2, p3, r0, r1, r2, r3⟩ := HCell.out wB HCB.out
              dsimp only
              go_wp2_with (first
                | (go_at_call 29; fail))
              clear c0 c1 p0 p1 p2 p3 r0 r1 r2 r3
              refine (HNm.out wB HCB.out).mono ?_
              rintro e wC ⟨rfl, hcC⟩
              have hself : decide (S'.done = S.done) = true := decide_eq_true (HAct.out.same (by decide)).2
              rw [hself]
              clear hself
              have HCC := Lib.hid (HCB.out.trans' hcC)
              clear hcC
              obtain ⟨c0, c1, p0, p1, p2, p3, r0, r1, r2, r3⟩ := HCell.out wC HCC.out
              dsimp only
              go_wp2_with fail
              exact ⟨⟨k + 1, Q5, X5, recs5, s5, a5, m5, S', by go_num, hlt, h40, HR5.out.fresh (HC7.out.trans' HCC.out), by have := HSd.out.1; omega, by have := HSd.out.2; have := HAct.out.len; omega⟩, meas_step h40⟩
            · have hzb : (z != 0) = false := by simpa using hz0
              have hz1 : (z == 0) = true := by simpa using hz0
              go_wp2_with (first
                | (go_at_call 28; fail))
              (try rw [hw7])
              clear c0 c1 p0 p1 p2 p3 r0 r1 r2 r3
              refine (HS1.out w7 (Chg.refl (fun _ => False) w7)).mono ?_
              rintro e wB ⟨rfl, hcB⟩
              have hself : decide (S'.stack = S.stack) = true := decide_eq_true (HAct.out.same (by decide)).1
              rw [hself]
              clear hself
              have HCB := Lib.hid (Chg.trans' (Chg.refl (fun _ => False) w7) hcB)
              clear hcB
              obtain ⟨c0, c1, p0, p1, p2, p3, r0, r1, r2, r3⟩ := HCell.out wB HCB.out
              dsimp only
              go_wp2_with (first
                | (go_at_call 29; fail))
              clear c0 c1 p0 p1 p2 p3 r0 r1 r2 r3
              refine (HNm.out wB HCB.out).mono ?_
              rintro e wC ⟨rfl, hcC⟩
              have hself : decide (S'.done = S.done) = true := decide_eq_true (HAct.out.same (by decide)).2
              rw [hself]
              clear hself
              have HCC := Lib.hid (HCB.out.trans' hcC)
              clear hcC
              obtain ⟨c0, c1, p0, p1, p2, p3, r0, r1, r2, r3⟩ := HCell.out wC HCC.out
              dsimp only
              go_wp2_with fail
              exact ⟨⟨k + 1, Q5, X5, recs5, s5, a5, m5, S', by go_num, hlt, h40, HR5.out.fresh (HC7.out.trans' HCC.out), by have := HSd.out.1; omega, by have := HSd.out.2; have := HAct.out.len; omega⟩, meas_step h40⟩
          · have k0b : (kd == 0) = false := by simpa using k0
            have k1b : (kd == 1) = false := by simpa using k1
            have k2b : (kd == 2) = false := by simpa using k2
            go_wp2_with fail
            try rw [hw3]
            exact ⟨⟨k + 1, Q, X, recs, s, a, m, S, by go_num, hlt, h40, HR3.out, by have := HSd.out.1; omega, by have := HSd.out.2; omega⟩, meas_step h40⟩
    · have hk1 : ¬ (k : Int) < 40 := by omega
      go_wp2_with (first
        | (go_at_call 17; refine (HWk.out _).mono ?_; rintro e w9 ⟨rfl, hc9⟩; have HC9 := Lib.hid hc9; clear hc9))
      go_ret
      exact ⟨rfl, HRk.out.rt.chg.trans' HC9.out⟩
  · have hki : ¬ (k : Int) < (l.length : Int) := by omega
    go_wp2_with (first
      | (go_at_call 17; refine (HWk.out _).mono ?_; rintro e w9 ⟨rfl, hc9⟩; have HC9 := Lib.hid hc9; clear hc9))
    go_ret
    exact ⟨rfl, HRk.out.rt.chg.trans' HC9.out⟩

set_option maxRecDepth 100000 in
theorem lifted (os : Os) (started : os.Started) (H : Type) (enc : TypeId × Value → H) :
    ReturnsInHanded {} Tryz.checked os 5 .any (Rows.rootStandsSpec.pre6 enc Tryz.prog Tryz.f5 [] false) (Rows.rootStandsSpec.post enc Tryz.prog Tryz.f5 false true false false) := by
  refine law_handed (C := Tryz.checked) (tb := 4) own started (by kernel_rfl) Tryz.func5
    (ChangeSpec.witness6 (enc := enc) (C := Tryz.checked) false ⟨#[], #[.slice none 0 0], []⟩ 8 (by kernel_rfl) (by kernel_rfl) (by kernel_rfl) (by kernel_rfl))
    laidOut (by rw [show Tryz.checked.prog = Tryz.prog from rfl, Tryz.params5]; intro t ht; simp at ht; subst ht; exact ⟨by kernel_rfl, of_decide_eq_true (by kernel_rfl)⟩) rfl rfl Tryz.underlying4 ?_ ?_
  · intro ds hds
    rw [Tryz.params5] at hds
    match ds, hds with
    | [_], _ => rfl
  · intro W base args ds before hval0 hA0 _ hsz0
    have hval : ∀ (j : Nat) t v, Tryz.f5.params[j]? = some t → args[j]? = some v → Value.okWide Tryz.prog W .any base t v := hval0
    have hA : DataW.TrodAll enc Tryz.prog W 0 (fun _ => true) true Tryz.f5.params.toList args.toList ds before := hA0
    rw [Tryz.params5] at hA hval
    obtain ⟨v0, vs0, d0, ds0, p0, q0, hargs, rfl, rfl, h0, r0⟩ := trodAll_cons hA
    obtain ⟨rfl, rfl, rfl⟩ := trodAll_nil r0
    obtain rfl : args = #[v0] := by cases args; simp_all
    obtain ⟨oa0, l0, cap0, rfl, -, -, g0, ok0⟩ := open_acts13 (hval 0 53 v0 rfl rfl) h0
    exact walk W oa0 cap0 l0 g0 ok0

theorem over : Rows.rootStandsRow.holds Tryz.pinned (OpenSpec.ofChange Rows.rootStandsSpec) :=
  OpenClaim.holds_of_wide 5 Tryz.f5 rfl rfl rfl rfl rfl rfl rfl ⟨rfl, rfl, rfl, rfl, rfl⟩ rfl rfl rfl rfl rfl (by kernel_rfl) Tryz.func5 (by kernel_rfl)
    (of_decide_eq_true (by kernel_rfl)) (by unfold Func.isWrapper; first | (rw [if_pos (by decide +kernel)]; kernel_rfl) | (rw [if_neg (by decide +kernel)]; exact ⟨rfl, rfl⟩))
    (fun os started H enc _ => lifted os started H enc)

theorem proved : Rows.RootStandsSaid := over
#print axioms proved

end Go.Proofs.YtbjagmlbamjdbaaGreat.rootStands
end
