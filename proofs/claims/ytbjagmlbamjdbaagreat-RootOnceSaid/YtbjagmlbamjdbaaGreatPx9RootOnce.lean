/- . -/
import Derived.Test.YtbjagmlbamjdbaaGreatPx4RootOnce
import Derived.Test.YtbjagmlbamjdbaaGreatPx6RootOnce
import Derived.Test.YtbjagmlbamjdbaaGreatPx8RootOnce
import Derived.StillTailTactics
import Derived.Defers
import Derived.Recover

set_option linter.unusedSimpArgs false
set_option linter.unusedVariables false
section
namespace Go.Proofs.YtbjagmlbamjdbaaGreat.wals
open Go.RowKit Go.My disks bufs
set_option maxRecDepth 100000

variable {w w' : World} {l d : Nat} {F Fd : Nat → Prop} {X : DV} {V : LV} {rv tv wv : Value}

theorem LogIs.setLost (h : LogIs w l d F V rv tv wv) (b : Bool) : LogIs (w.setCell ⟨l, 8, none⟩ (.bool b)) l d F { V with lost := b } rv tv wv ∧ Chg F w (w.setCell ⟨l, 8, none⟩ (.bool b)) := by
  have hc : Chg (· = l) w (w.setCell ⟨l, 8, none⟩ (.bool b)) := Chg.setCell (S := (· = l)) (Chg.refl _ _) (fun _ => rfl) _
  exact ⟨⟨h.head.set 8 _, row_kept h.recs hc (row_head h.recs h.head (by decide)), row_kept h.tail hc (row_head h.tail h.head (by decide)), row_kept h.wait hc (row_head h.wait h.head (by decide)), h.rw, h.fl, h.fr, h.ft, h.fw, fun k hk => Nat.lt_of_lt_of_le (h.lt k hk) hc.size⟩, hc.mono (fun i _ e => by have e : i = l := e; rw [e]; exact h.fl)⟩

theorem LogIs.noWait (h : LogIs w l d F V rv tv wv) : LogIs (w.setCell ⟨l, 6, none⟩ (.slice none 0 0)) l d F { V with wait := [] } rv tv (.slice none 0 0) ∧ Chg F w (w.setCell ⟨l, 6, none⟩ (.slice none 0 0)) := by
  have hc : Chg (· = l) w (w.setCell ⟨l, 6, none⟩ (.slice none 0 0)) := Chg.setCell (S := (· = l)) (Chg.refl _ _) (fun _ => rfl) _
  exact ⟨⟨h.head.set 6 _, row_kept h.recs hc (row_head h.recs h.head (by decide)), row_kept h.tail hc (row_head h.tail h.head (by decide)), ⟨rfl, Or.inl ⟨rfl, rfl⟩⟩, fun g hg e => by simp [Value.ownBlock] at e, h.fl, h.fr, h.ft, fun g hg => by simp [Value.ownBlock] at hg, fun k hk => Nat.lt_of_lt_of_le (h.lt k hk) hc.size⟩, hc.mono (fun i _ e => by have e : i = l := e; rw [e]; exact h.fl)⟩

theorem LogIs.growRecs {w1 wa w3 : World} (h1 : LogIs w1 l d F V rv tv wv) (hca : Chg (fun _ => False) w1 wa) {v3 : Value} {rs : List Blk} {n3 : Nat} (hn3 : rs.length = n3) (ho : w3.ownsRow 0 9 1 v3 n3 (rs.map strV)) {row : Option Nat} (hg : wa.grownBy w3 row) (hrow : row = rv.ownBlock ∨ row = none ∨ ∃ k, row = some k ∧ w1.heap.size ≤ k) (h4 : v3.ownBlock = rv.ownBlock ∨ ∃ k, v3.ownBlock = some k ∧ w1.heap.size ≤ k) :
    LogIs (w3.setCell ⟨l, 4, none⟩ v3) l d (fun k => F k ∨ v3.ownBlock = some k) { V with recs := rs } v3 tv wv ∧ Chg F w1 (w3.setCell ⟨l, 4, none⟩ v3) := by
  subst hn3
  have hc3 := Chg.of_grown hg
  have hsa := hca.size
  have hnew : ∀ g, g < w1.heap.size → rv.ownBlock ≠ some g → ¬ some g = row := fun g hg hr e => by
    rcases hrow with e1 | e1 | ⟨k, e1, hk⟩
    · exact hr (by rw [← e1, ← e])
    · rw [e1] at e; cases e
    · rw [e1] at e; cases e; omega
  have n1 : ¬ some l = row := hnew l (h1.lt l h1.fl) (fun e => row_head h1.recs h1.head (by decide) l e rfl)
  have n2 : ∀ g, wv.ownBlock = some g → ¬ some g = row := fun g hg => hnew g (h1.wait.lt g hg).2 (fun e => h1.rw g e hg)
  have n3 : ∀ g, tv.ownBlock = some g → ¬ some g = row := fun g hg => hnew g (h1.tail.lt g hg).2 (fun e => row_apart h1.tail h1.recs (by decide) g hg e)
  have a3 := hc3.at (hca.at h1.head id) n1
  have r3 := row_kept (own_kept h1.wait hca) hc3 n2
  have t3 := row_kept (own_kept h1.tail hca) hc3 n3
  have hc : Chg (· = l) w3 (w3.setCell ⟨l, 4, none⟩ v3) := Chg.setCell (S := (· = l)) (Chg.refl _ _) (fun _ => rfl) _
  refine ⟨⟨Arr.set a3 4 v3, row_kept ho hc (row_head ho a3 (by decide)), row_kept t3 hc (row_head t3 a3 (by decide)), row_kept r3 hc (row_head r3 a3 (by decide)), fun g hg e => ?_, Or.inl h1.fl, fun g hg => Or.inr hg, fun g hg => Or.inl (h1.ft g hg), fun g hg => Or.inl (h1.fw g hg), fun k hk => ?_⟩, ((hca.mono (fun _ _ h => h.elim)).trans hc3 (fun i hi e => ?_)).trans hc (fun i hi e => by have e : i = l := e; rw [e]; exact h1.fl)⟩
  · rcases h4 with h4 | ⟨k, h4, hk⟩
    · exact h1.rw g (h4 ▸ hg) e
    · rw [h4] at hg
      have := (h1.wait.lt g e).2
      cases hg
      omega
  · have := hc.size
    have := hc3.size
    rcases hk with hk | hk
    · have := h1.lt k hk; omega
    · have := (ho.lt k hk).2; omega
  · rcases hrow with e1 | e1 | ⟨k, e1, hk⟩
    · exact h1.fr i (by rw [← e1, ← e])
    · rw [e1] at e; cases e
    · rw [e1] at e; cases e; omega

theorem LogAt.step {w1 w2 : World} {F1 Fd1 F2 : Nat → Prop} {V1 V2 : LV} (h : LogAt w1 l d F1 Fd1 X V1) (hF : ∀ k, F1 k → F k ∨ w.heap.size ≤ k) (hFd : ∀ k, Fd1 k → Fd k ∨ w.heap.size ≤ k) (hc : Chg (fun k => F k ∨ Fd k) w w1)
    (h2 : LogIs w2 l d F2 V2 rv tv wv) (hF2 : ∀ k, F2 k → F1 k ∨ w1.heap.size ≤ k) (hc2 : Chg F1 w1 w2) : ∃ F' Fd', LogAt w2 l d F' Fd' X V2 ∧ (∀ k, F' k → F k ∨ w.heap.size ≤ k) ∧ (∀ k, Fd' k → Fd k ∨ w.heap.size ≤ k) ∧ Chg (fun k => F k ∨ Fd k) w w2 := by
  have hsz := hc.size
  refine ⟨F2, Fd1, ⟨⟨rv, tv, wv, h2⟩, h.disk.kept hc2 (fun k hk hF => h.off k hF hk), fun k hk hF => ?_⟩, fun k hk => ?_, hFd, hc.trans hc2 (fun k hk h => ?_)⟩
  · rcases hF2 k hk with h1 | h1
    · exact h.off k h1 hF
    · have := h.disk.lt k hF; omega
  · rcases hF2 k hk with h1 | h1
    · exact hF k h1
    · exact Or.inr (by omega)
  · rcases hF k h with h1 | h1
    · exact Or.inl h1
    · omega

set_option maxHeartbeats 1000000 in
theorem sync_any (w : World) (h : LogAt w l d F Fd X V) (hV : V.Ok X.B.length) (hf : X.fuse ≤ 9223372036854775807) (hL : ∀ j, (X.L j).length < 500000) :
    Calls Tryz.prog 68 #[.pointer (some ⟨l, 0, none⟩)] w (LogPost w l d F Fd (syncF X V).1 (syncF X V).2.1 (syncF X V).2.2) := by
  have HNo := Lib.hid (log_no w h)
  have H := Lib.hid h
  have HV := Lib.hid hV
  have HFL := Lib.hid (And.intro hf hL)
  have hs := hV.small
  obtain ⟨⟨rv, tv, wv, hl⟩, -, -⟩ := h
  have HL := Lib.hid hl
  obtain ⟨R, hR⟩ : ∃ R, syncF X V = R := ⟨_, rfl⟩
  rw [hR]
  have HR := Lib.hid hR
  obtain ⟨oaw, capw, rfl⟩ := own_slice hl.wait
  obtain ⟨oat, capt, rfl⟩ := own_slice hl.tail
  have c8 : w.cell? ⟨l, 8, none⟩ = some (.bool V.lost) := hl.head.cell rfl
  have c6 : w.cell? ⟨l, 6, none⟩ = some (.slice oaw V.wait.length capw) := hl.head.cell rfl
  clear hl hR hV hf hL
  rcases Bool.eq_false_or_eq_true V.lost with hlo | hlo
  · rw [hlo] at c8
    have HLo := Lib.hid hlo
    clear hlo
    go_enter Tryz.func68, Tryz.ntmps68
    go_wp2_with (first
      | (go_at_call 107; refine HNo.out.mono ?_; rintro e w' ⟨rfl, rfl⟩))
    go_ret
    have hRe : R = (15, X, V) := by rw [← HR.out]; unfold syncF; rw [if_pos HLo.out]
    rw [hRe]
    exact ⟨rfl, F, Fd, H.out, fun k hk => Or.inl hk, fun k hk => Or.inl hk, Chg.refl _ _⟩
  · rw [hlo] at c8
    have HLo := Lib.hid hlo
    clear hlo
    by_cases hw0 : V.wait = []
    · have hw1 : V.wait.length = 0 := by rw [hw0]; rfl
      rw [hw1] at c6
      have HW := Lib.hid hw0
      clear hw0 hw1
      go_enter Tryz.func68, Tryz.ntmps68
      go_wp2_with (first
        | (go_at_call 107; refine HNo.out.mono ?_; rintro e w' ⟨rfl, rfl⟩))
      go_ret
      have hRe : R = (0, X, V) := by rw [← HR.out]; unfold syncF; rw [if_neg (by rw [HLo.out]; decide), if_pos HW.out]
      rw [hRe]
      exact ⟨rfl, F, Fd, H.out, fun k hk => Or.inl hk, fun k hk => Or.inl hk, Chg.refl _ _⟩
    · obtain ⟨nw, hnw⟩ : ∃ nw, V.wait.length = nw := ⟨_, rfl⟩
      have i0 : (1 : Int) ≤ (nw : Int) := by
        have : V.wait.length ≠ 0 := fun e => hw0 (List.eq_nil_of_length_eq_zero e)
        omega
      have hwr := write_log w.drew (H.out.fresh (Chg.refl _ _).drew) HV.out.ge HV.out.le V.wait _ (SlAt.of_own (own_kept HL.out.wait (Chg.refl _ _).drew)) HV.out.short (by have := HV.out.more; omega) V.tail _ (SlAt.of_own (own_kept HL.out.tail (Chg.refl _ _).drew)) (by have := HV.out.tail; omega) (V.seq + 1) V.area V.used (by have := HV.out.seq; omega) HV.out.area (by omega) HFL.out.1 HFL.out.2
      obtain ⟨Q, hQ⟩ : ∃ Q, layF X (firstN X.B.length V.area + V.used / 64) (V.tail ++ framesB V.wait) (V.seq + 1) V.area (V.used + (framesB V.wait).length) = Q := ⟨_, rfl⟩
      obtain ⟨T, hT⟩ : ∃ T, (V.tail ++ framesB V.wait).drop ((V.tail ++ framesB V.wait).length / 64 * 64) = T := ⟨_, rfl⟩
      rw [hQ, hT] at hwr
      have HWr := Lib.hid hwr
      have HQ := Lib.hid hQ
      have HT := Lib.hid hT
      have HW := Lib.hid hw0
      rw [hnw] at c6 HWr
      have c5 : w.cell? ⟨l, 5, none⟩ = some (.slice oat V.tail.length capt) := HL.out.head.cell rfl
      have c1 : w.cell? ⟨l, 1, none⟩ = some (.int .i64 V.seq) := HL.out.head.cell rfl
      have c2 : w.cell? ⟨l, 2, none⟩ = some (.int .i64 V.area) := HL.out.head.cell rfl
      have c3 : w.cell? ⟨l, 3, none⟩ = some (.int .i64 V.used) := HL.out.head.cell rfl
      have i1 : (V.seq : Int) ≤ 1152921504606846976 := by have := HV.out.seq; omega
      have HNw := Lib.hid hnw
      clear hwr hQ hT hw0 hnw
      go_enter Tryz.func68, Tryz.ntmps68
      go_wp2_with (first
        | (go_at_call 107; refine HNo.out.mono ?_; rintro e w' ⟨rfl, rfl⟩))
      go_still_tail 26, (by kernel_rfl)
      change wpList _ _ _ _ _ w.drew
      go_wp2_with (first
        | (go_at_call 128; fail))
      refine HWr.out.mono ?_
      rintro e w1 ⟨rfl, F1, Fd1, h1, hF1, hFd1, hc1⟩
      have hc1 := (Chg.refl (fun k => F k ∨ Fd k) w).drew.trans' hc1
      have hF1 : ∀ k, F1 k → F k ∨ w.heap.size ≤ k := hF1
      have hFd1 : ∀ k, Fd1 k → Fd k ∨ w.heap.size ≤ k := hFd1
      obtain ⟨n, hn⟩ : ∃ n, Q.1 = n := ⟨_, rfl⟩
      rw [hn] at h1 ⊢
      have HQn := Lib.hid hn
      have HP := Lib.hid (And.intro hF1 (And.intro hFd1 hc1))
      clear hn hF1 hFd1 hc1 HWr
      by_cases hz : n = 0
      · subst hz
        unfold writeV at h1
        rw [if_pos rfl] at h1
        have H1 := Lib.hid h1
        obtain ⟨⟨rv1, tv1, wv1, hl1⟩, -, -⟩ := h1
        obtain ⟨oar, capr, rfl⟩ := own_slice hl1.recs
        obtain ⟨oav, capv, rfl⟩ := own_slice hl1.wait
        have hd1 : Chg (fun _ => False) w1 w1.drew := (Chg.refl _ _).drew
        have hld := hl1.kept hd1 (fun _ _ h => h)
        obtain ⟨v3, w3, hr3, ho3, hg3, h43⟩ := append_strs hld.recs (SlAt.of_own hld.wait) (one_strs _) (Nat.zero_le _) (by simp only [List.length_map]; omega) 109
        rw [show V.recs.map strV ++ V.wait.map strV = (V.recs ++ V.wait).map strV by simp, List.length_map] at ho3
        obtain ⟨n3, hn3⟩ : ∃ n3, (V.recs ++ V.wait).length = n3 := ⟨_, rfl⟩
        rw [hn3] at ho3
        obtain ⟨oa3, cap3, rfl⟩ := own_slice ho3
        obtain ⟨hl4, hc4⟩ := hld.growRecs (Chg.refl _ _) hn3 ho3 hg3 (Or.inl rfl) (h43.imp id (fun e => ⟨_, e, Nat.le_refl _⟩))
        obtain ⟨hl5, hc5⟩ := hl4.noWait
        obtain ⟨hl6, hc6⟩ := hl5.setMore 0
        have a3 := (Chg.of_grown hg3).at hld.head (fun e => row_head hld.recs hld.head (by decide) l e.symm rfl)
        have k4 : w1.drew.cell? ⟨l, 4, none⟩ = some (.slice oar V.recs.length capr) := hld.head.cell rfl
        have k6 : w1.drew.cell? ⟨l, 6, none⟩ = some (.slice oav V.wait.length capv) := hld.head.cell rfl
        have j4 : w3.cell? ⟨l, 4, none⟩ = some (.slice oar V.recs.length capr) := Arr.cell a3 rfl
        have z4 : w3.frozen? ⟨l, 4, none⟩ = false := Arr.free a3
        obtain ⟨w4, hw4⟩ : ∃ w4, w3.setCell ⟨l, 4, none⟩ (.slice oa3 n3 cap3) = w4 := ⟨_, rfl⟩
        rw [hw4] at hl4 hc4 hl5 hc5 hl6 hc6
        have j6 : (w3.setCell ⟨l, 4, none⟩ (.slice oa3 n3 cap3)).cell? ⟨l, 6, none⟩ = some (.slice oav V.wait.length capv) := by rw [hw4]; exact hl4.head.cell rfl
        have z6 : (w3.setCell ⟨l, 4, none⟩ (.slice oa3 n3 cap3)).frozen? ⟨l, 6, none⟩ = false := by rw [hw4]; exact hl4.head.free
        have j7 : ((w3.setCell ⟨l, 4, none⟩ (.slice oa3 n3 cap3)).setCell ⟨l, 6, none⟩ (.slice none 0 0)).cell? ⟨l, 7, none⟩ = some (.int .i64 V.more) := by rw [hw4]; exact hl5.head.cell rfl
        have z7 : ((w3.setCell ⟨l, 4, none⟩ (.slice oa3 n3 cap3)).setCell ⟨l, 6, none⟩ (.slice none 0 0)).frozen? ⟨l, 7, none⟩ = false := by rw [hw4]; exact hl5.head.free
        have hnew : ∀ k, (Value.slice oa3 n3 cap3).ownBlock = some k → F1 k ∨ w1.drew.heap.size ≤ k := fun k hk => by
          rcases h43 with e | e
          · exact Or.inl (hld.fr k (e ▸ hk))
          · rw [e] at hk; cases hk; exact Or.inr (Nat.le_refl _)
        have hst := LogAt.step (H1.out.fresh hd1) HP.out.1 HP.out.2.1 (HP.out.2.2.trans' (hd1.mono (fun _ _ h => h.elim))) hl6 (fun k hk => hk.elim Or.inl (hnew k)) ((hc4.trans hc5 (fun k hk h => h.elim id (fun h => (hnew k h).resolve_right (by omega)))).trans hc6 (fun k hk h => h.elim id (fun h => (hnew k h).resolve_right (by omega))))
        have HSt := Lib.hid hst
        have HR3 := Lib.hid hr3
        have HW4 := Lib.hid hw4
        clear hst hr3 hw4 hl4 hc4 hl5 hc5 hl6 hc6 a3 ho3 hg3 h43 hld hl1 hd1 hn3 hs
        dsimp only
        go_wp2_with fail
        refine wp_region_noPanic ?_
        refine wp_region_held_drew (S := (fun _ => True)) (by kernel_rfl) (trivial) (fun hHeld => ?_)
        refine tk 0 (v := ?_) hHeld rfl (fun w hSw => ?_) ?_
        rotate_left
        · go_simp
          try with_reducible rfl
        simp only [Act.put, zA, zB, zC]
        refine tk 1 (v := ?_) hHeld rfl (fun w hSw => ?_) ?_
        rotate_left
        · go_simp
          try with_reducible rfl
        simp only [Act.put, zA, zB, zC]
        refine tk 2 (v := ?_) hHeld rfl (fun w hSw => ?_) ?_
        rotate_left
        · go_simp
          try with_reducible rfl
        simp only [Act.put, zA, zB, zC]
        refine tk 3 (v := ?_) hHeld rfl (fun w hSw => ?_) ?_
        rotate_left
        · go_simp
          try with_reducible rfl
        simp only [Act.put, zA, zB, zC]
        refine tk 5 (v := ?_) hHeld rfl (fun w hSw => ?_) ?_
        rotate_left
        · go_simp
          try with_reducible rfl
        simp only [Act.put, zA, zB, zC]
        refine tk 6 (v := ?_) hHeld rfl (fun w hSw => ?_) ?_
        rotate_left
        · go_simp
          try with_reducible rfl
        simp only [Act.put, zA, zB, zC]
        refine tk 7 (v := ?_) hHeld rfl (fun w hSw => ?_) ?_
        rotate_left
        · go_simp
          try with_reducible rfl
        simp only [Act.put, zA, zB, zC]
        refine wpAnyH_ready (rs := [4, 8]) (by kernel_rfl) (by simp) (one_list (i := 4) rfl (by rfl) (fun K hK => ?_) (one_list (i := 8) rfl (by rfl) (fun K hK => ?_) AllReadyH.nil))
        · go_simp
          refine hK _ _ (trivial) (fun hH2 => ?_)
          try simp only [Act.put, zA, zB, zC]
          refine on1 8 rfl (fun K hK => ?_)
          go_simp
          refine hK _ _ (trivial) (fun hH3 => ?_)
          try simp only [Act.put, zA, zB, zC]
          refine on1 9 rfl (fun K hK => ?_)
          refine oper_append _ _ _ rfl rfl rfl HR3.out ?_
          refine hK _ _ (trivial) (fun hH4 => ?_)
          try simp only [Act.put, zA, zB, zC]
          refine tk 10 (v := ?_) hH4 rfl (fun w hSw => ?_) ?_
          rotate_left
          · go_simp
            try with_reducible rfl
          simp only [Act.put, zA, zB, zC]
          refine tk 11 (v := ?_) hH4 rfl (fun w hSw => ?_) ?_
          rotate_left
          · go_simp
            try with_reducible rfl
          simp only [Act.put, zA, zB, zC]
          refine on1 12 rfl (fun K hK => ?_)
          go_simp
          refine hK _ _ (trivial) (fun hH5 => ?_)
          try simp only [Act.put, zA, zB, zC]
          refine wpAnyH_done (by kernel_rfl) ?_ _
          refine NoPanic.normal ?_
          clear hHeld hH2 hH3 hH4 hH5 hK k4 k6 j4 z4
          go_wp2_with fail
          go_ret
          have hRe : R = (0, Q.2, ⟨V.seq + 1, V.area, V.used + (framesB V.wait).length, V.recs ++ V.wait, T, [], 0, false⟩) := by
            rw [← HR.out]
            unfold syncF
            rw [if_neg (by rw [HLo.out]; decide), if_neg HW.out, HQ.out, HT.out, if_neg (by rw [HQn.out]; exact fun h => h rfl)]
          rw [hRe, HW4.out]
          refine ⟨rfl, ?_⟩
          have h5 := HSt.out
          rw [HLo.out] at h5
          exact h5
        · go_simp
          refine hK _ _ (trivial) (fun hH2 => ?_)
          try simp only [Act.put, zA, zB, zC]
          refine on1 4 rfl (fun K hK => ?_)
          go_simp
          refine hK _ _ (trivial) (fun hH3 => ?_)
          try simp only [Act.put, zA, zB, zC]
          refine on1 9 rfl (fun K hK => ?_)
          refine oper_append _ _ _ rfl rfl rfl HR3.out ?_
          refine hK _ _ (trivial) (fun hH4 => ?_)
          try simp only [Act.put, zA, zB, zC]
          refine tk 10 (v := ?_) hH4 rfl (fun w hSw => ?_) ?_
          rotate_left
          · go_simp
            try with_reducible rfl
          simp only [Act.put, zA, zB, zC]
          refine tk 11 (v := ?_) hH4 rfl (fun w hSw => ?_) ?_
          rotate_left
          · go_simp
            try with_reducible rfl
          simp only [Act.put, zA, zB, zC]
          refine on1 12 rfl (fun K hK => ?_)
          go_simp
          refine hK _ _ (trivial) (fun hH5 => ?_)
          try simp only [Act.put, zA, zB, zC]
          refine wpAnyH_done (by kernel_rfl) ?_ _
          refine NoPanic.normal ?_
          clear hHeld hH2 hH3 hH4 hH5 hK k4 k6 j4 z4
          go_wp2_with fail
          go_ret
          have hRe : R = (0, Q.2, ⟨V.seq + 1, V.area, V.used + (framesB V.wait).length, V.recs ++ V.wait, T, [], 0, false⟩) := by
            rw [← HR.out]
            unfold syncF
            rw [if_neg (by rw [HLo.out]; decide), if_neg HW.out, HQ.out, HT.out, if_neg (by rw [HQn.out]; exact fun h => h rfl)]
          rw [hRe, HW4.out]
          refine ⟨rfl, ?_⟩
          have h5 := HSt.out
          rw [HLo.out] at h5
          exact h5
      · have hzb : (n != 0) = true := by simp [hz]
        unfold writeV at h1
        rw [if_neg hz] at h1
        have HZ := Lib.hid hz
        have H1 := Lib.hid h1
        obtain ⟨⟨rv1, tv1, wv1, hl1⟩, -, -⟩ := h1
        have k8 : w1.cell? ⟨l, 8, none⟩ = some (.bool V.lost) := hl1.head.cell rfl
        have z8 : w1.frozen? ⟨l, 8, none⟩ = false := hl1.head.free
        obtain ⟨hl2, hc2⟩ := hl1.setLost true
        have hst := LogAt.step H1.out HP.out.1 HP.out.2.1 HP.out.2.2 hl2 (fun k hk => Or.inl hk) hc2
        have HSt := Lib.hid hst
        clear hz hl1 hl2 hc2 hst
        dsimp only
        go_wp2_with fail
        go_ret
        have hRe : R = (n, Q.2, { V with lost := true }) := by
          rw [← HR.out]
          unfold syncF
          rw [if_neg (by rw [HLo.out]; decide), if_neg HW.out, HQ.out, if_pos (by rw [HQn.out]; exact HZ.out), HQn.out]
        rw [hRe]
        exact ⟨rfl, HSt.out⟩

end Go.Proofs.YtbjagmlbamjdbaaGreat.wals
end

section
namespace Go.Proofs.YtbjagmlbamjdbaaGreat.wals
open Go.RowKit Go.My disks bufs
set_option maxRecDepth 100000

variable {w w' : World} {l d : Nat} {F Fd : Nat → Prop} {X : DV} {V : LV} {rv tv wv : Value}

theorem sizeB_take1 {rs : List Blk} {k : Nat} {r : Blk} (h : rs[k]? = some r) : sizeB (rs.take (k + 1)) = sizeB (rs.take k) + (r.length + 8) := by
  rw [List.take_add_one, h, Option.toList_some]
  simp [sizeB]
theorem sizeB_le : ∀ {rs : List Blk}, (∀ r ∈ rs, r.length ≤ 4096) → sizeB rs ≤ 4104 * rs.length
  | [], _ => by simp [sizeB]
  | r :: rs, h => by
    have h1 := sizeB_le (rs := rs) (fun x hx => h x (by simp [hx]))
    have h2 := h r (by simp)
    simp only [sizeB, List.map_cons, List.sum_cons, List.length_cons] at *
    omega

set_option maxHeartbeats 1000000 in
theorem reset_any (w : World) (h : LogAt w l d F Fd X V) (hV : V.Ok X.B.length) (hf : X.fuse ≤ 9223372036854775807) (hL : ∀ j, (X.L j).length < 500000) (recs : List Blk) (rsv : Value) (hrs : SlAt w rsv (recs.map strV)) (hbf : ∀ g, rsv.ownBlock = some g → ¬ (F g ∨ Fd g)) (hn : recs.length ≤ 1000000000) (hlen : ∀ r ∈ recs, r.length ≤ 1000000000000) :
    Calls Tryz.prog 70 #[.pointer (some ⟨l, 0, none⟩), rsv] w (LogPost w l d F Fd (resetF X V recs).1 (resetF X V recs).2.1 (resetF X V recs).2.2) := by
  have HNo := Lib.hid (log_no w h)
  have H := Lib.hid h
  have HV := Lib.hid hV
  have HFL := Lib.hid (And.intro hf hL)
  have hs := hV.small
  have HAr := Lib.hid (area_any w h (by have := hV.ge; omega) hV.le)
  obtain ⟨oars, caprs, rfl, hr2, hr3⟩ := hrs
  rw [List.length_map] at *
  have HRs := Lib.hid (show SlAt w (.slice oars recs.length caprs) (recs.map strV) from ⟨oars, caprs, by rw [List.length_map], hr2, hr3⟩)
  have HBf := Lib.hid hbf
  have HLn := Lib.hid hlen
  obtain ⟨⟨rv, tv, wv, hl⟩, -, -⟩ := h
  have HL := Lib.hid hl
  obtain ⟨R, hR⟩ : ∃ R, resetF X V recs = R := ⟨_, rfl⟩
  rw [hR]
  have HR := Lib.hid hR
  obtain ⟨oaw, capw, rfl⟩ := own_slice hl.wait
  have c8 : w.cell? ⟨l, 8, none⟩ = some (.bool V.lost) := hl.head.cell rfl
  have c6 : w.cell? ⟨l, 6, none⟩ = some (.slice oaw V.wait.length capw) := hl.head.cell rfl
  clear hl hR hV hf hL hr2 hr3 hbf hlen
  rcases Bool.eq_false_or_eq_true V.lost with hlo | hlo
  · rw [hlo] at c8
    have HLo := Lib.hid hlo
    clear hlo
    go_enter Tryz.func70, Tryz.ntmps70
    go_wp2_with (first
      | (go_at_call 107; refine HNo.out.mono ?_; rintro e w' ⟨rfl, rfl⟩))
    go_ret
    have hRe : R = (15, X, V) := by rw [← HR.out]; unfold resetF; rw [if_pos HLo.out]
    rw [hRe]
    exact ⟨rfl, F, Fd, H.out, fun k hk => Or.inl hk, fun k hk => Or.inl hk, Chg.refl _ _⟩
  · rw [hlo] at c8
    have HLo := Lib.hid hlo
    clear hlo
    by_cases hw0 : V.wait = []
    · have hw1 : V.wait.length = 0 := by rw [hw0]; rfl
      rw [hw1] at c6
      have HW := Lib.hid hw0
      clear hw0 hw1
      have hni : (recs.length : Int) ≤ 1000000000 := by omega
      go_enter Tryz.func70, Tryz.ntmps70
      go_wp2_with (first
        | (go_at_call 107; refine HNo.out.mono ?_; rintro e w' ⟨rfl, rfl⟩))
      go_loop [5, 28] (fun t i => ∃ k : Nat, i = .int .i64 k ∧ k ≤ recs.length ∧ t = .int .i64 (sizeB (recs.take k) : Int) ∧ ∀ r ∈ recs.take k, r.length ≤ 4096) (fun _ i => recs.length - (intOf i).toNat)
      case atStart => exact ⟨0, rfl, Nat.zero_le _, rfl, by simp⟩
      case round =>
        obtain ⟨k, rfl, hk, rfl, hsh⟩ := hrel
        have HSh := Lib.hid hsh
        obtain ⟨t, ht⟩ : ∃ t, sizeB (recs.take k) = t := ⟨_, rfl⟩
        have htl : (t : Int) ≤ 4104 * (recs.length : Int) := by
          have h1 := sizeB_le hsh
          rw [List.length_take] at h1
          omega
        rw [ht]
        have HTt := Lib.hid ht
        clear hsh ht
        by_cases hlt : k < recs.length
        · have hlt' : (k : Int) < (recs.length : Int) := by omega
          obtain ⟨r, hr⟩ : ∃ r, recs[k]? = some r := ⟨recs[k], List.getElem?_eq_getElem hlt⟩
          obtain ⟨g, off, rfl, hcell⟩ : ∃ g off, oars = some ⟨g, off, none⟩ ∧ w.cell? ⟨g, off + k, none⟩ = some (strV r) := by
            obtain ⟨oa', cap', e1, e2, e3⟩ := HRs.out
            simp only [Value.slice.injEq] at e1
            obtain ⟨g, off, e4⟩ := e2 (by intro e; have := congrArg List.length e; rw [List.length_map] at this; simp at this; rw [this] at hlt; simp at hlt)
            exact ⟨g, off, by rw [e1.1, e4], e3 g off e4 k _ (by rw [List.getElem?_map, hr]; rfl)⟩
          have hfr := framed_any w r (HLn.out r (List.mem_of_getElem? hr))
          have hrl := HLn.out r (List.mem_of_getElem? hr)
          obtain ⟨sr, hsr⟩ : ∃ sr : ByteArray, strV r = .string sr := ⟨_, rfl⟩
          rw [hsr] at hcell hfr
          have HR' := Lib.hid hr
          have i3 : (r.length : Int) ≤ 1000000000000 := by omega
          by_cases hb : r.length ≤ 4096
          · have hd : decide (r.length ≤ 4096) = true := by simp [hb]
            rw [hd] at hfr
            have HFr := Lib.hid hfr
            have HB := Lib.hid hb
            clear hfr hsr hr hd
            go_wp2_with (first
              | (go_at_call 126; refine HFr.out.mono ?_; rintro e w' ⟨rfl, rfl⟩))
            refine ⟨⟨k + 1, by go_num, hlt, ?_, ?_⟩, by simp [intOf]; omega⟩
            · rw [sizeB_take1 HR'.out, HTt.out]; congr 1
            · intro x hx
              rw [List.take_add_one, HR'.out, Option.toList_some, List.mem_append, List.mem_singleton] at hx
              rcases hx with hx | rfl
              · exact HSh.out x hx
              · exact HB.out
          · have hd : decide (r.length ≤ 4096) = false := by simp [hb]
            rw [hd] at hfr
            have HFr := Lib.hid hfr
            have HB := Lib.hid hb
            clear hfr hsr hr hd hb
            go_wp2_with (first
              | (go_at_call 126; refine HFr.out.mono ?_; rintro e w' ⟨rfl, rfl⟩))
            go_ret
            have hRe : R = (3, X, V) := by
              rw [← HR.out]
              unfold resetF
              rw [if_neg (by rw [HLo.out]; decide), if_neg (by rw [HW.out]; exact fun h => h rfl), if_pos ⟨r, List.mem_of_getElem? HR'.out, by have := HB.out; omega⟩]
            rw [hRe]
            exact ⟨rfl, F, Fd, H.out, fun k hk => Or.inl hk, fun k hk => Or.inl hk, Chg.refl _ _⟩
        · obtain rfl : k = recs.length := by omega
          have hsh := HSh.out
          have ht := HTt.out
          rw [List.take_of_length_le (Nat.le_refl _)] at hsh ht
          have HSh' := Lib.hid hsh
          have HT' := Lib.hid ht
          clear hsh ht HSh HTt
          obtain ⟨m, hm⟩ : ∃ m, areaN X.B.length = m := ⟨_, rfl⟩
          rw [hm] at HAr hs
          have HM := Lib.hid hm
          have i3 : (m : Int) ≤ 2047 := by omega
          clear hm
          by_cases hbig : (64 : Int) * (m : Int) < (t : Int)
          · go_wp2_with (first
              | (go_at_call 104; refine HAr.out.mono ?_; rintro e w' ⟨rfl, rfl⟩))
            go_ret
            have hRe : R = (7, X, V) := by
              rw [← HR.out]
              unfold resetF
              rw [if_neg (by rw [HLo.out]; decide), if_neg (by rw [HW.out]; exact fun h => h rfl), if_neg (fun ⟨r, h1, h2⟩ => by have := HSh'.out r h1; omega), if_pos (by rw [HM.out, HT'.out]; omega)]
            rw [hRe]
            exact ⟨rfl, F, Fd, H.out, fun k hk => Or.inl hk, fun k hk => Or.inl hk, Chg.refl _ _⟩
          · have hwr := write_log w.drew (H.out.fresh (Chg.refl _ _).drew) HV.out.ge HV.out.le recs _ (HRs.out.kept (Chg.refl _ _).drew) HSh'.out (by rw [HT'.out]; omega) [] (.slice none 0 0) ⟨none, 0, rfl, fun h => absurd rfl h, by simp [cellsB]⟩ (by simp) (V.seq + 1) (1 - V.area) 0 (by have := HV.out.seq; omega) (by omega) (by omega) HFL.out.1 HFL.out.2
            simp only [Nat.zero_div, Nat.add_zero, Nat.zero_add, List.nil_append] at hwr
            obtain ⟨Q, hQ⟩ : ∃ Q, layF X (firstN X.B.length (1 - V.area)) (framesB recs) (V.seq + 1) (1 - V.area) (framesB recs).length = Q := ⟨_, rfl⟩
            obtain ⟨T, hT⟩ : ∃ T, (framesB recs).drop ((framesB recs).length / 64 * 64) = T := ⟨_, rfl⟩
            rw [hQ, hT] at hwr
            have HWr := Lib.hid hwr
            have HQ := Lib.hid hQ
            have HTl := Lib.hid hT
            have HBig := Lib.hid (show ¬ 64 * areaN X.B.length < sizeB recs by rw [HM.out, HT'.out]; omega)
            clear hwr hQ hT
            have c1 : w.cell? ⟨l, 1, none⟩ = some (.int .i64 V.seq) := HL.out.head.cell rfl
            have c2 : w.cell? ⟨l, 2, none⟩ = some (.int .i64 V.area) := HL.out.head.cell rfl
            have i4 : (V.seq : Int) ≤ 1152921504606846976 := by have := HV.out.seq; omega
            have i5 : (V.area : Int) ≤ 1 := by have := HV.out.area; omega
            have i6 : (1 : Int) - (V.area : Int) = ((1 - V.area : Nat) : Int) := by omega
            go_wp2_with (first
              | (go_at_call 104; refine HAr.out.mono ?_; rintro e w' ⟨rfl, rfl⟩))
            go_still_tail 15, (by kernel_rfl)
            change wpList _ _ _ _ _ w.drew
            go_wp2_with (first
              | (go_at_call 128; fail))
            refine HWr.out.mono ?_
            rintro e w1 ⟨rfl, F1, Fd1, h1, hF1, hFd1, hc1⟩
            have hc1 := (Chg.refl (fun k => F k ∨ Fd k) w).drew.trans' hc1
            have hF1 : ∀ k, F1 k → F k ∨ w.heap.size ≤ k := hF1
            have hFd1 : ∀ k, Fd1 k → Fd k ∨ w.heap.size ≤ k := hFd1
            obtain ⟨n, hn⟩ : ∃ n, Q.1 = n := ⟨_, rfl⟩
            rw [hn] at h1 ⊢
            have HQn := Lib.hid hn
            have HP := Lib.hid (And.intro hF1 (And.intro hFd1 hc1))
            have hrs1 := slat_but HRs.out hc1 HBf.out
            clear hn hF1 hFd1 hc1 HWr
            by_cases hz : n = 0
            · subst hz
              unfold writeV at h1
              rw [if_pos rfl] at h1
              have H1 := Lib.hid h1
              obtain ⟨⟨rv1, tv1, wv1, hl1⟩, -, -⟩ := h1
              obtain ⟨oar, capr, rfl⟩ := own_slice hl1.recs
              have hd1 : Chg (fun _ => False) w1 (w1.alloc (.cells #[] 9)) := (Chg.refl _ _).alloc _
              have ho : (w1.alloc (.cells #[] 9)).ownsRow w1.heap.size 9 1 (.slice (some ⟨w1.heap.size, 0, none⟩) 0 0) 0 [] := own_of_block (n := 0) at1 (Nat.le_refl _) rfl (by unfold maxLen; omega)
              obtain ⟨v3, w3, hr3, ho3, hg3, h43⟩ := append_strs ho (hrs1.kept hd1) (one_strs _) (by rw [World.size_alloc]; omega) (by simp only [List.length_map, List.length_nil]; omega) 109
              rw [List.nil_append, List.length_map] at ho3
              obtain ⟨oa3, cap3, rfl⟩ := own_slice ho3
              have hnb : ∃ k, (Value.slice oa3 recs.length cap3).ownBlock = some k ∧ w1.heap.size ≤ k := by
                rcases h43 with e | e
                · exact ⟨_, e, Nat.le_refl _⟩
                · exact ⟨_, e, by rw [World.size_alloc]; omega⟩
              obtain ⟨hl4, hc4⟩ := hl1.growRecs hd1 rfl (own_lower ho3 (Nat.zero_le _)) hg3 (Or.inr (Or.inr ⟨_, rfl, Nat.le_refl _⟩)) (Or.inr hnb)
              have a3 := (Chg.of_grown hg3).at (hd1.at hl1.head id) (fun e => by
                have := hl1.lt l hl1.fl
                simp only [Value.ownBlock, Option.some.injEq] at e
                omega)
              have j4 : w3.cell? ⟨l, 4, none⟩ = some (.slice oar V.recs.length capr) := Arr.cell a3 rfl
              have z4 : w3.frozen? ⟨l, 4, none⟩ = false := Arr.free a3
              have hst := LogAt.step H1.out HP.out.1 HP.out.2.1 HP.out.2.2 hl4 (fun k hk => hk.elim Or.inl (fun h => by
                obtain ⟨k', e, h'⟩ := hnb
                rw [e] at h; cases h; exact Or.inr h')) hc4
              have HSt := Lib.hid hst
              have HR3 := Lib.hid hr3
              clear hst hr3 hl4 hc4 a3 ho3 hg3 h43 hl1 hd1 ho hnb hs
              dsimp only
              go_wp2_with (first
                | (at_builtin; refine Lib.wpList_append_run _ rfl _ _ _ _ rfl _ _ rfl rfl _ _ HR3.out ?_))
              go_ret
              have hRe : R = (0, Q.2, ⟨V.seq + 1, 1 - V.area, (framesB recs).length, recs, T, [], V.more, false⟩) := by
                rw [← HR.out]
                unfold resetF
                rw [if_neg (by rw [HLo.out]; decide), if_neg (by rw [HW.out]; exact fun h => h rfl), if_neg (fun ⟨r, h1, h2⟩ => by have := HSh'.out r h1; omega), if_neg HBig.out, HQ.out, HTl.out, if_neg (by rw [HQn.out]; exact fun h => h rfl)]
              rw [hRe]
              refine ⟨rfl, ?_⟩
              have h5 := HSt.out
              rw [HLo.out, HW.out] at h5
              exact h5
            · have hzb : (n != 0) = true := by simp [hz]
              unfold writeV at h1
              rw [if_neg hz] at h1
              have HZ := Lib.hid hz
              have H1 := Lib.hid h1
              obtain ⟨⟨rv1, tv1, wv1, hl1⟩, -, -⟩ := h1
              have k8 : w1.cell? ⟨l, 8, none⟩ = some (.bool V.lost) := hl1.head.cell rfl
              have z8 : w1.frozen? ⟨l, 8, none⟩ = false := hl1.head.free
              obtain ⟨hl2, hc2⟩ := hl1.setLost true
              have hst := LogAt.step H1.out HP.out.1 HP.out.2.1 HP.out.2.2 hl2 (fun k hk => Or.inl hk) hc2
              have HSt := Lib.hid hst
              clear hz hl1 hl2 hc2 hst
              dsimp only
              go_wp2_with fail
              go_ret
              have hRe : R = (n, Q.2, { V with lost := true }) := by
                rw [← HR.out]
                unfold resetF
                rw [if_neg (by rw [HLo.out]; decide), if_neg (by rw [HW.out]; exact fun h => h rfl), if_neg (fun ⟨r, h1, h2⟩ => by have := HSh'.out r h1; omega), if_neg HBig.out, HQ.out, if_pos (by rw [HQn.out]; exact HZ.out), HQn.out]
              rw [hRe]
              exact ⟨rfl, HSt.out⟩
    · obtain ⟨nw, hnw⟩ : ∃ nw, V.wait.length = nw := ⟨_, rfl⟩
      have i0 : (0 : Int) < (nw : Int) := by
        have : V.wait.length ≠ 0 := fun e => hw0 (List.eq_nil_of_length_eq_zero e)
        omega
      rw [hnw] at c6
      have HW := Lib.hid hw0
      clear hw0 hnw
      go_enter Tryz.func70, Tryz.ntmps70
      go_wp2_with (first
        | (go_at_call 107; refine HNo.out.mono ?_; rintro e w' ⟨rfl, rfl⟩))
      go_ret
      have hRe : R = (11, X, V) := by rw [← HR.out]; unfold resetF; rw [if_neg (by rw [HLo.out]; decide), if_pos HW.out]
      rw [hRe]
      exact ⟨rfl, F, Fd, H.out, fun k hk => Or.inl hk, fun k hk => Or.inl hk, Chg.refl _ _⟩

end Go.Proofs.YtbjagmlbamjdbaaGreat.wals
end

section
namespace Go.Proofs.YtbjagmlbamjdbaaGreat.wals
open Go.RowKit Go.My disks bufs
set_option maxRecDepth 100000

theorem read_idle (a1 a2 a3 : Value) (w : World) :
    CallsD Tryz.prog 212 #[a1, a2, a3] .returning w fun e u' w' => e = .returned (.tuple #[]) ∧ u' = .returning ∧ w' = w := by
  refine callsD_of_wpS Tryz.func212 rfl fun c₀ cs hu => ?_
  apply wpS_seq
  apply wpS_region
  simp [wpOpsS, go_sem, recoverD, hu, Tryz.ntmps212, Exit.thenS]
  apply wpS_seq
  apply wpS_region
  simp [wpOpsS, go_sem, Exit.thenS]
  refine wpS_cond (t := false) (by simp [Act.eval, Array.replicate]) ?_
  simp only [Bool.false_eq_true, if_false]
  refine wpS_of_wp (wp_skip ?_)
  cases c₀
  simp_all [bodyPostS, results, Tryz.results212]

set_option maxHeartbeats 1000000 in
theorem frame_read (w : World) (oa : Option Addr) (n cap : Nat) (b r : Blk) (hs : SlAt w (.slice oa n cap) (cellsB b)) (hb : b.length ≤ 1000000) (hcap : b.length ≤ cap)
    (h4 : 4 ≤ b.length) (hr : r.length ≤ 4096) (hl : ofLe (b.take 4) = r.length) (h8 : r.length + 8 ≤ b.length) (hbd : (b.drop 4).take r.length = r) (hcs : ofLe ((b.drop (4 + r.length)).take 4) = crcF (b.take (4 + r.length))) :
    Calls Tryz.prog 179 #[.slice oa n cap] w fun e w' => ∃ v, e = .returned (.tuple #[v, .int .i64 ((r.length + 8 : Nat) : Int), .int .i64 0]) ∧ w'.ownsRow w.heap.size 5 1 v r.length (cellsB r) ∧ Chg (fun _ => False) w w' := by
  have hmf : ∀ (fn : Fn) (first cap : Array Value) (w : World), (Instr.makeFunc fn first cap).run Tryz.prog w = .ok (.func fn first cap) w := fun _ _ _ _ => rfl
  obtain ⟨g, off, rfl⟩ : ∃ g off, oa = some ⟨g, off, none⟩ := by
    obtain ⟨oa', cap', e1, e2, e3⟩ := hs
    simp only [Value.slice.injEq] at e1
    rw [e1.1]
    exact e2 (by intro e; have := congrArg List.length e; rw [cellsB_length] at this; simp at this; rw [this] at h4; simp at h4)
  have hgl : g < w.heap.size := by
    obtain ⟨b', off', e, -, hc⟩ := hs.cell (k := 0) (by rw [cellsB_length]; omega)
    cases e
    exact World.block_lt_of_cell? _ _ hc
  obtain rfl := slat_len hs
  obtain ⟨rr, hrr⟩ : ∃ rr, w.heap.size + 1 + 1 + 1 = rr := ⟨_, rfl⟩
  obtain ⟨w0, hw0⟩ : ∃ w0, ((w.alloc (.cells #[.slice none 0 0] 101)).alloc (.cells #[.int .i64 0] 3)).alloc (.cells #[.int .i64 0] 24) = w0 := ⟨_, rfl⟩
  have h0 : w0.heap.size = rr := by rw [← hw0, ← hrr]; simp only [World.size_alloc]
  have hc0 : Chg (fun _ => False) w w0 := by rw [← hw0]; exact chg3
  have hb1 : Arr w0 w.heap.size 101 [.slice none 0 0] := by rw [← hw0]; exact at3_0
  have hb2 : Arr w0 (w.heap.size + 1) 3 [.int .i64 0] := by rw [← hw0]; exact at3_1
  have hb3 : Arr w0 (w.heap.size + 1 + 1) 24 [.int .i64 0] := by rw [← hw0]; exact at3_2
  obtain ⟨w1, hw1⟩ : ∃ w1, w0.alloc (.cells #[.slice (some ⟨g, off, none⟩) b.length cap, .int .i64 0] 288) = w1 := ⟨_, rfl⟩
  have hc1 : Chg (fun _ => False) w0 w1 := by rw [← hw1]; exact (Chg.refl _ _).alloc _
  have hr1 : Rd w1 rr (.slice (some ⟨g, off, none⟩) b.length cap) 0 := by rw [← hw1, ← h0]; exact at1
  have hf := four_any w1 rr g off b.length cap 0 b hr1 ((hs.kept hc0).kept hc1) hb hcap (by omega) (by omega)
  rw [List.drop_zero, hl, Nat.zero_add] at hf
  have HF := Lib.hid hf
  have HRr := Lib.hid hrr
  have HW0 := Lib.hid hw0
  have HW1 := Lib.hid hw1
  have HB1 := Lib.hid (hc1.at hb1 id)
  have HB2 := Lib.hid (hc1.at hb2 id)
  have HB3 := Lib.hid (hc1.at hb3 id)
  have HC1 := Lib.hid (hc0.trans' hc1)
  have HS1 := Lib.hid ((hs.kept hc0).kept hc1)
  have HN := Lib.hid (And.intro hb (And.intro hcap (And.intro h8 hgl)))
  have HBd := Lib.hid hbd
  have HCs := Lib.hid hcs
  have HRl := Lib.hid hr
  have i1 : (r.length : Int) ≤ 4096 := by omega
  have i2 : (r.length : Int) + 8 ≤ (b.length : Int) := by omega
  have i3 : (b.length : Int) ≤ (cap : Int) := by omega
  have i4 : (b.length : Int) ≤ 1000000 := by omega
  clear hf hw0 hw1 hb1 hb2 hb3 hc0 hc1 hs hb hcap h4 hr hl h8 hbd hcs hgl h0 hr1
  go_enter_defers Tryz.func179, Tryz.ntmps179
  go_wp2_with fail
  rw [HW0.out, HW1.out]
  clear hrr
  refine HF.out.mono ?_
  rintro e w2 ⟨rfl, hr2, hc2⟩
  have hlt2 : rr < w1.heap.size := by rw [← HW1.out, World.size_alloc, ← HW0.out, ← HRr.out]; simp only [World.size_alloc]; omega
  have hne : ∀ k, k < w.heap.size + 1 + 1 + 1 → ¬ (· = rr) k := fun k hk e => by have e : k = rr := e; have := HRr.out; omega
  have HNe := Lib.hid hne
  have hs2 := slat_but HS1.out hc2 (fun x hx => by cases hx; exact hne g (by have := HN.out; omega))
  have ht := take_any w2 rr g off b.length cap 4 r.length b hr2 hs2 (by have := HN.out; omega) (by have := HN.out; omega) (by have := HN.out; omega) (fun e => hne g (by have := HN.out; omega) e)
  rw [HBd.out] at ht
  have HT := Lib.hid ht
  have HB21 := Lib.hid (hc2.at HB1.out (hne _ (by omega)))
  have HB22 := Lib.hid (hc2.at HB2.out (hne _ (by omega)))
  have HB23 := Lib.hid (hc2.at HB3.out (hne _ (by omega)))
  have HC2 := Lib.hid hc2
  have HS2 := Lib.hid hs2
  clear ht hr2 hc2 hs2 hlt2 hne HF HW0 HW1 HB1 HB2 HB3 HS1
  dsimp only
  go_wp2_with (first
    | (go_at_call 214; fail))
  refine HT.out.mono ?_
  rintro e w3 ⟨⟨oa3, rfl, hs3, hg3⟩, hr3, hc3⟩
  have a3 := hc3.at HB21.out (HNe.out _ (by omega))
  have c3 : w3.cell? ⟨w.heap.size, 0, none⟩ = some (.slice none 0 0) := Arr.cell a3 rfl
  have z3 : w3.frozen? ⟨w.heap.size, 0, none⟩ = false := Arr.free a3
  have hsz : w.heap.size < rr := by have := HRr.out; omega
  obtain ⟨w4, hw4⟩ : ∃ w4, w3.setCell ⟨w.heap.size, 0, none⟩ (.slice oa3 r.length r.length) = w4 := ⟨_, rfl⟩
  have hc4 : Chg (· = w.heap.size) w3 w4 := by rw [← hw4]; exact Chg.setCell (S := (· = w.heap.size)) (Chg.refl _ _) (fun _ => rfl) _
  have a4 : Arr w4 w.heap.size 101 [.slice oa3 r.length r.length] := by rw [← hw4]; exact Arr.set a3 0 _
  have hr4 : Rd w4 rr (.slice (some ⟨g, off, none⟩) b.length cap) (4 + r.length) := hc4.at hr3 (fun e => by have e : rr = w.heap.size := e; omega)
  have hs4 : SlAt w4 (.slice (some ⟨g, off, none⟩) b.length cap) (cellsB b) := slat_but (slat_but HS2.out hc3 (fun x hx => by cases hx; exact HNe.out g (by have := HN.out; omega))) hc4 (fun x hx e => by cases hx; have e : g = w.heap.size := e; have := HN.out; omega)
  have hown3 : ∀ g', (Value.slice oa3 r.length r.length).ownBlock = some g' → g' ≠ w.heap.size := fun x hx e => by
    cases oa3 with
    | none => simp [Value.ownBlock] at hx
    | some a =>
      have h1 := hg3 a rfl
      simp only [Value.ownBlock, Option.some.injEq] at hx
      have := HN.out
      omega
  have hv4 := slat_but hs3 hc4 hown3
  obtain ⟨q, hq⟩ : ∃ q, 4 + r.length = q := ⟨_, rfl⟩
  have hf := fun w' (h1 : Rd w' rr (.slice (some ⟨g, off, none⟩) b.length cap) (4 + r.length)) (h2 : SlAt w' (.slice (some ⟨g, off, none⟩) b.length cap) (cellsB b)) => four_any w' rr g off b.length cap (4 + r.length) b h1 h2 (by have := HN.out; omega) (by have := HN.out; omega) (by have := HN.out; omega) (HNe.out g (by have := HN.out; omega))
  have hsum := fun w' (h2 : SlAt w' (.slice (some ⟨g, off, none⟩) b.length cap) (cellsB b)) => sum_any w' _ _ cap _ (slat_sub h2 g off 0 (4 + r.length) cap rfl (by have := HN.out; omega)) (by rw [List.length_take, List.length_drop]; have := HN.out; omega)
  rw [HCs.out] at hf
  rw [List.drop_zero, Nat.add_zero] at hsum
  rw [hq] at hf hsum hr4
  have i6 : (q : Int) ≤ 4100 := by omega
  have i7 : (q : Int) ≤ (b.length : Int) := by omega
  have HFo := Lib.hid hf
  have HSu := Lib.hid hsum
  have HA4 := Lib.hid a4
  have HR4 := Lib.hid hr4
  have HS4 := Lib.hid hs4
  have HV4 := Lib.hid hv4
  have HOw : Hid (∀ x, (Value.slice oa3 r.length r.length).ownBlock = some x → ¬ (· = rr) x) := Lib.hid (fun x hx => by
    cases oa3 with
    | none => simp [Value.ownBlock] at hx
    | some a =>
      have h1 := hg3 a rfl
      simp only [Value.ownBlock, Option.some.injEq] at hx
      exact HNe.out x (by have := HN.out; omega))
  have HW4 := Lib.hid hw4
  have HQ := Lib.hid hq
  have HC4 : Hid (Chg (fun _ => False) w w4) := Lib.hid (((((HC1.out.new HC2.out (fun i e => by have e : i = rr := e; omega)).new hc3 (fun i e => by have e : i = rr := e; omega)).new hc4 (fun i e => by have e : i = w.heap.size := e; omega))))
  have HB42 := Lib.hid (hc4.at (hc3.at HB22.out (HNe.out _ (by omega))) (by omega))
  have HB43 := Lib.hid (hc4.at (hc3.at HB23.out (HNe.out _ (by omega))) (by omega))
  have d4 : (w3.setCell ⟨w.heap.size, 0, none⟩ (.slice oa3 r.length r.length)).cell? ⟨rr, 1, none⟩ = some (.int .i64 (q : Int)) := by rw [hw4]; exact hr4.cell rfl
  have hcl : q + 4 = r.length + 8 := by omega
  have HCl := Lib.hid hcl
  clear hg3 hcl
  clear hf hsum a4 hr4 hs4 hv4 hw4 hq hc4 hown3 hs3 hr3 hc3 a3 HT HB21 HB22 HB23 HC1 HC2 HS2 HCs
  dsimp only
  go_wp2_with fail
  rw [HW4.out]
  clear c3 z3 d4 HW4
  have hqc : q ≤ cap := by have := HN.out; have := HQ.out; omega
  have hd4 : Chg (fun _ => False) w4 w4.drew := (Chg.refl _ w4).drew
  have HF4 := Lib.hid (HFo.out _ (hd4.at HR4.out id) (HS4.out.kept hd4))
  have HU4 := Lib.hid (HSu.out _ (HS4.out.kept hd4))
  clear hd4
  refine wp_region_noPanic ?_
  refine wp_region_held_drew (S := (fun _ => True)) (by kernel_rfl) (trivial) (fun hHeld => ?_)
  refine tk 0 (v := ?_) hHeld rfl (fun w hSw => ?_) ?_
  rotate_left
  · go_simp
    try with_reducible rfl
  simp only [Act.put, zA, zB, zC]
  refine tk 2 (v := ?_) hHeld rfl (fun w hSw => ?_) ?_
  rotate_left
  · go_simp
    try with_reducible rfl
  simp only [Act.put, zA, zB, zC]
  refine tk 3 (v := ?_) hHeld rfl (fun w hSw => ?_) ?_
  rotate_left
  · go_simp
    try with_reducible rfl
  simp only [Act.put, zA, zB, zC]
  refine tk 4 (v := ?_) hHeld rfl (fun w hSw => ?_) ?_
  rotate_left
  · go_simp
    try with_reducible rfl
  simp only [Act.put, zA, zB, zC]
  refine on1 1 rfl (fun K hK => ?_)
  go_simp
  refine HF4.out.mono ?_
  rintro e w5 ⟨rfl, hr5, hc5⟩
  have hc5 := (Chg.refl _ w4).drew.trans' hc5
  have hs5 := slat_but HS4.out hc5 (fun x hx => by cases hx; exact HNe.out g (by have := HN.out; omega))
  have HR5 := Lib.hid hr5
  have HC5 := Lib.hid hc5
  have HS5 := Lib.hid hs5
  clear hr5 hc5 hs5
  dsimp only
  refine hK _ _ (trivial) (fun hH2 => ?_)
  try simp only [Act.put, zA, zB, zC]
  refine on1 5 rfl (fun K hK => ?_)
  go_simp
  refine (HSu.out _ HS5.out).mono ?_
  rintro e w6 ⟨rfl, rfl⟩
  dsimp only
  refine hK _ _ (trivial) (fun hH3 => ?_)
  try simp only [Act.put, zA, zB, zC]
  refine tk 6 (v := ?_) hH3 rfl (fun w hSw => ?_) ?_
  rotate_left
  · go_simp
    try with_reducible rfl
  simp only [Act.put, zA, zB, zC]
  refine wpAnyH_done (by kernel_rfl) ?_ _
  refine NoPanic.normal ?_
  clear hHeld hH2 hH3 hK
  have d5 : w5.cell? ⟨rr, 1, none⟩ = some (.int .i64 ((q : Int) + 4)) := HR5.out.cell (by rw [show ((q : Int) + 4) = ((q + 4 : Nat) : Int) by omega]; rfl)
  go_wp2_with fail
  obtain ⟨wd, hwd⟩ : ∃ wd, w5.drew = wd := ⟨_, rfl⟩
  have hcd : Chg (fun _ => False) w5 wd := by rw [← hwd]; exact (Chg.refl _ _).drew
  have hc6 : Chg (fun _ => False) wd (wd.alloc (.cells #[] 5)) := (Chg.refl _ _).alloc _
  have a5 := (HC5.out.at HA4.out (HNe.out _ (by omega)))
  have ad := hcd.at a5 id
  have a6 := hc6.at ad id
  have cd1 : wd.cell? ⟨w.heap.size, 0, none⟩ = some (.slice oa3 r.length r.length) := Arr.cell ad rfl
  have c6 : (wd.alloc (.cells #[] 5)).cell? ⟨w.heap.size, 0, none⟩ = some (.slice oa3 r.length r.length) := Arr.cell a6 rfl
  have hv6 := (slat_but HV4.out HC5.out HOw.out).kept (hcd.trans' hc6)
  have hsz6 : w.heap.size < wd.heap.size := lt_of_block ad
  have ho6 : (wd.alloc (.cells #[] 5)).ownsRow wd.heap.size 5 1 (.slice (some ⟨wd.heap.size, 0, none⟩) 0 0) 0 (cellsB []) := own_of_block (n := 0) at1 (Nat.le_refl _) rfl (by unfold maxLen; omega)
  obtain ⟨v7, w7, hr7, ho7, hg7⟩ := append_step ho6 hv6 (by rw [World.size_alloc]; omega) (by have := HRl.out; simp; omega) 101
  rw [List.nil_append] at ho7
  obtain ⟨oa7, cap7, rfl⟩ := own_slice ho7
  have hd6 : (wd.alloc (.cells #[] 5)).cell? ⟨rr, 1, none⟩ = some (.int .i64 ((q : Int) + 4)) := hc6.cell (hcd.cell d5 id) id
  have HR7 := Lib.hid hr7
  have HDd := Lib.hid (show wd.cell? ⟨rr, 1, none⟩ = some (.int .i64 ((q : Int) + 4)) from hcd.cell d5 id)
  have hold : ∀ k, k < wd.heap.size → (Value.slice (some ⟨wd.heap.size, 0, none⟩) 0 0).ownBlock ≠ some k := fun k hk e => by simp only [Value.ownBlock, Option.some.injEq] at e; omega
  have hszk : rr < wd.heap.size := by have h1 := lt_of_block (hcd.at HR5.out id); omega
  have hrd7 : Rd w7 rr (.slice (some ⟨g, off, none⟩) b.length cap) (q + 4) := hg7.at (hc6.at (hcd.at HR5.out id) id) (by omega)
  have a71 : Arr w7 w.heap.size 101 [.slice oa3 r.length r.length] := hg7.at a6 (by omega)
  have a72 : Arr w7 (w.heap.size + 1) 3 [.int .i64 0] := hg7.at (hc6.at (hcd.at (HC5.out.at HB42.out (HNe.out _ (by omega))) id) id) (by have := HRr.out; omega)
  have a73 : Arr w7 (w.heap.size + 1 + 1) 24 [.int .i64 0] := hg7.at (hc6.at (hcd.at (HC5.out.at HB43.out (HNe.out _ (by omega))) id) id) (by have := HRr.out; omega)
  have hrr := HRr.out
  obtain ⟨w8, hw8⟩ : ∃ w8, w7.setCell ⟨w.heap.size, 0, none⟩ (.slice oa7 r.length cap7) = w8 := ⟨_, rfl⟩
  have hc8 : Chg (· = w.heap.size) w7 w8 := by rw [← hw8]; exact Chg.setCell (S := (· = w.heap.size)) (Chg.refl _ _) (fun _ => rfl) _
  have a81 : Arr w8 w.heap.size 101 [.slice oa7 r.length cap7] := by rw [← hw8]; exact Arr.set a71 0 _
  have a82 := hc8.at a72 (by omega)
  have a83 := hc8.at a73 (by omega)
  obtain ⟨w9, hw9⟩ : ∃ w9, w8.setCell ⟨w.heap.size + 1, 0, none⟩ (.int .i64 ((q : Int) + 4)) = w9 := ⟨_, rfl⟩
  have hc9 : Chg (· = w.heap.size + 1) w8 w9 := by rw [← hw9]; exact Chg.setCell (S := (· = w.heap.size + 1)) (Chg.refl _ _) (fun _ => rfl) _
  have a92 : Arr w9 (w.heap.size + 1) 3 [.int .i64 ((q : Int) + 4)] := by rw [← hw9]; exact Arr.set a82 0 _
  have a91 := hc9.at a81 (by omega)
  have a93 := hc9.at a83 (by omega)
  obtain ⟨w10, hw10⟩ : ∃ w10, w9.setCell ⟨w.heap.size + 1 + 1, 0, none⟩ (.int .i64 0) = w10 := ⟨_, rfl⟩
  have hc10 : Chg (· = w.heap.size + 1 + 1) w9 w10 := by rw [← hw10]; exact Chg.setCell (S := (· = w.heap.size + 1 + 1)) (Chg.refl _ _) (fun _ => rfl) _
  have aa3 : Arr w10 (w.heap.size + 1 + 1) 24 [.int .i64 0] := by rw [← hw10]; exact Arr.set a93 0 _
  have aa1 := hc10.at a91 (by omega)
  have aa2 := hc10.at a92 (by omega)
  have hd8 := hc8.at hrd7 (by omega)
  have hd9 := hc9.at hd8 (by omega)
  have hda := hc10.at hd9 (by omega)
  have hdc : ∀ {w'}, Rd w' rr (.slice (some ⟨g, off, none⟩) b.length cap) (q + 4) → w'.cell? ⟨rr, 1, none⟩ = some (.int .i64 ((q : Int) + 4)) := fun h => Arr.cell h (by rw [show ((q : Int) + 4) = ((q + 4 : Nat) : Int) by omega]; rfl)
  have HD7 := Lib.hid (hdc hrd7)
  have HD8 := Lib.hid (hdc hd8)
  have HD9 := Lib.hid (hdc hd9)
  have HD10 := Lib.hid (hdc hda)
  have HW8 := Lib.hid hw8
  have HW9 := Lib.hid hw9
  have HW10 := Lib.hid hw10
  have c7 : w7.cell? ⟨w.heap.size, 0, none⟩ = some (.slice oa3 r.length r.length) := Arr.cell a71 rfl
  have z7 : w7.frozen? ⟨w.heap.size, 0, none⟩ = false := Arr.free a71
  have c8 : w8.cell? ⟨w.heap.size + 1, 0, none⟩ = some (.int .i64 0) := Arr.cell a82 rfl
  have z8 : w8.frozen? ⟨w.heap.size + 1, 0, none⟩ = false := Arr.free a82
  have c9 : w9.cell? ⟨w.heap.size + 1 + 1, 0, none⟩ = some (.int .i64 0) := Arr.cell a93 rfl
  have z9 : w9.frozen? ⟨w.heap.size + 1 + 1, 0, none⟩ = false := Arr.free a93
  have e1 : w10.cell? ⟨w.heap.size, 0, none⟩ = some (.slice oa7 r.length cap7) := Arr.cell aa1 rfl
  have e2 : w10.cell? ⟨w.heap.size + 1, 0, none⟩ = some (.int .i64 ((q : Int) + 4)) := Arr.cell aa2 rfl
  have e3 : w10.cell? ⟨w.heap.size + 1 + 1, 0, none⟩ = some (.int .i64 0) := Arr.cell aa3 rfl
  have E1 := Lib.hid (And.intro e1 (And.intro e2 e3))
  have hC6 : Chg (fun _ => False) w (wd.alloc (.cells #[] 5)) := ((HC4.out.new HC5.out (fun i e => by have e : i = rr := e; omega)).trans' hcd).trans' hc6
  have hC10 : Chg (fun _ => False) w w10 := (((hC6.new hg7 (fun i e => by omega)).new hc8 (fun i e => by have e : i = w.heap.size := e; omega)).new hc9 (fun i e => by have e : i = w.heap.size + 1 := e; omega)).new hc10 (fun i e => by have e : i = w.heap.size + 1 + 1 := e; omega)
  have HC10 := Lib.hid hC10
  have HO7 := Lib.hid ho7
  have HK8 := Lib.hid hc8
  have HK9 := Lib.hid hc9
  have HK10 := Lib.hid hc10
  have HSz := Lib.hid hsz6
  have HSr := Lib.hid hszk
  clear hold hszk hrd7 a71 a72 a73 hc8 a81 a82 a83 hc9 a92 a91 a93 hc10 aa3 aa1 aa2 hd8 hd9 hda hdc hw8 hw9 hw10 hC10 hC6 hrr e1 e2 e3 hg7 ho7 hsz6 hcd hc6 a5
  have HD6 := Lib.hid hd6
  refine wp_region_noPanic ?_
  refine wp_region_held_drew (S := (fun w' => w'.cell? ⟨rr, 1, none⟩ = some (.int .i64 ((q : Int) + 4)))) (by kernel_rfl) (((Chg.refl (fun _ => False) _).drew.cell d5 id)) (fun hHeld => ?_)
  rw [hwd] at hHeld ⊢
  clear hr7 hd6 d5 ho6 hv6 ad a6 hwd
  refine tk 3 (v := ?_) hHeld rfl (fun w hSw => ?_) ?_
  rotate_left
  · go_simp
    try with_reducible rfl
  simp only [Act.put, zA, zB, zC]
  refine tk 4 (v := ?_) hHeld rfl (fun w hSw => ?_) ?_
  rotate_left
  · go_simp
    try with_reducible rfl
  simp only [Act.put, zA, zB, zC]
  refine tk 5 (v := ?_) hHeld rfl (fun w hSw => ?_) ?_
  rotate_left
  · go_simp
    try with_reducible rfl
  simp only [Act.put, zA, zB, zC]
  refine tk 6 (v := ?_) hHeld rfl (fun w hSw => ?_) ?_
  rotate_left
  · go_simp
    try with_reducible rfl
  simp only [Act.put, zA, zB, zC]
  refine wpAnyH_ready (rs := [0, 1]) (by kernel_rfl) (by simp) (one_list (i := 0) rfl (by rfl) (fun K hK => ?_) (one_list (i := 1) rfl (by rfl) (fun K hK => ?_) AllReadyH.nil))
  · go_simp
    refine hK _ _ (HD6.out) (fun hH2 => ?_)
    try simp only [Act.put, zA, zB, zC]
    refine on1 1 rfl (fun K hK => ?_)
    go_simp
    refine hK _ _ (HD6.out) (fun hH3 => ?_)
    try simp only [Act.put, zA, zB, zC]
    refine on1 2 rfl (fun K hK => ?_)
    refine oper_append _ _ _ rfl rfl rfl HR7.out ?_
    refine hK _ _ (HD7.out) (fun hH4 => ?_)
    try simp only [Act.put, zA, zB, zC]
    refine on1 7 rfl (fun K hK => ?_)
    go_simp
    rw [HW8.out]
    refine hK _ _ (HD8.out) (fun hH5 => ?_)
    try simp only [Act.put, zA, zB, zC]
    refine on1 8 rfl (fun K hK => ?_)
    go_simp
    rw [HW9.out]
    refine hK _ _ (HD9.out) (fun hH6 => ?_)
    try simp only [Act.put, zA, zB, zC]
    refine on1 9 rfl (fun K hK => ?_)
    go_simp
    rw [HW10.out]
    refine hK _ _ (HD10.out) (fun hH7 => ?_)
    try simp only [Act.put, zA, zB, zC]
    refine wpAnyH_done (by kernel_rfl) ?_ _
    refine NoPanic.normal ?_
    clear hHeld hH2 hH3 hH4 hH5 hH6 hH7 hK c7 z7 c8 z8 c9 z9 cd1 c6
    go_wp2_with fail
    refine leaves_cons (f := 212) (args := #[.pointer (some ⟨w.heap.size, 0, none⟩), .pointer (some ⟨w.heap.size + 1, 0, none⟩), .pointer (some ⟨w.heap.size + 1 + 1, 0, none⟩)]) (by simp) (by simp [go_sem]) ?_
    refine (read_idle _ _ _ _).mono ?_
    rintro e u' w'' ⟨rfl, rfl, rfl⟩
    have e1 := E1.out.1
    have e2 := E1.out.2.1
    have e3 := E1.out.2.2
    have hown := own_lower (row_kept (row_kept (row_kept HO7.out HK8.out (fun x hx e => by have e : x = w.heap.size := e; have := (HO7.out.lt x hx).1; have := HSz.out; omega)) HK9.out (fun x hx e => by have e : x = w.heap.size + 1 := e; have := (HO7.out.lt x hx).1; have := HSz.out; have := HRr.out; have := HSr.out; omega)) HK10.out (fun x hx e => by have e : x = w.heap.size + 1 + 1 := e; have := (HO7.out.lt x hx).1; have := HRr.out; have := HSr.out; omega)) (Nat.le_of_lt HSz.out)
    have hq4 : ((q : Int) + 4) = ((r.length + 8 : Nat) : Int) := by have := HQ.out; omega
    rw [hq4] at e2
    simp [Leaves, settle, results, Tryz.results179, go_sem, e1, e2, e3]
    exact ⟨hown, HC10.out⟩
  · go_simp
    refine hK _ _ (HDd.out) (fun hH2 => ?_)
    try simp only [Act.put, zA, zB, zC]
    refine on1 0 rfl (fun K hK => ?_)
    go_simp
    refine hK _ _ (HD6.out) (fun hH3 => ?_)
    try simp only [Act.put, zA, zB, zC]
    refine on1 2 rfl (fun K hK => ?_)
    refine oper_append _ _ _ rfl rfl rfl HR7.out ?_
    refine hK _ _ (HD7.out) (fun hH4 => ?_)
    try simp only [Act.put, zA, zB, zC]
    refine on1 7 rfl (fun K hK => ?_)
    go_simp
    rw [HW8.out]
    refine hK _ _ (HD8.out) (fun hH5 => ?_)
    try simp only [Act.put, zA, zB, zC]
    refine on1 8 rfl (fun K hK => ?_)
    go_simp
    rw [HW9.out]
    refine hK _ _ (HD9.out) (fun hH6 => ?_)
    try simp only [Act.put, zA, zB, zC]
    refine on1 9 rfl (fun K hK => ?_)
    go_simp
    rw [HW10.out]
    refine hK _ _ (HD10.out) (fun hH7 => ?_)
    try simp only [Act.put, zA, zB, zC]
    refine wpAnyH_done (by kernel_rfl) ?_ _
    refine NoPanic.normal ?_
    clear hHeld hH2 hH3 hH4 hH5 hH6 hH7 hK c7 z7 c8 z8 c9 z9 cd1 c6
    go_wp2_with fail
    refine leaves_cons (f := 212) (args := #[.pointer (some ⟨w.heap.size, 0, none⟩), .pointer (some ⟨w.heap.size + 1, 0, none⟩), .pointer (some ⟨w.heap.size + 1 + 1, 0, none⟩)]) (by simp) (by simp [go_sem]) ?_
    refine (read_idle _ _ _ _).mono ?_
    rintro e u' w'' ⟨rfl, rfl, rfl⟩
    have e1 := E1.out.1
    have e2 := E1.out.2.1
    have e3 := E1.out.2.2
    have hown := own_lower (row_kept (row_kept (row_kept HO7.out HK8.out (fun x hx e => by have e : x = w.heap.size := e; have := (HO7.out.lt x hx).1; have := HSz.out; omega)) HK9.out (fun x hx e => by have e : x = w.heap.size + 1 := e; have := (HO7.out.lt x hx).1; have := HSz.out; have := HRr.out; have := HSr.out; omega)) HK10.out (fun x hx e => by have e : x = w.heap.size + 1 + 1 := e; have := (HO7.out.lt x hx).1; have := HRr.out; have := HSr.out; omega)) (Nat.le_of_lt HSz.out)
    have hq4 : ((q : Int) + 4) = ((r.length + 8 : Nat) : Int) := by have := HQ.out; omega
    rw [hq4] at e2
    simp [Leaves, settle, results, Tryz.results179, go_sem, e1, e2, e3]
    exact ⟨hown, HC10.out⟩

end Go.Proofs.YtbjagmlbamjdbaaGreat.wals
end
