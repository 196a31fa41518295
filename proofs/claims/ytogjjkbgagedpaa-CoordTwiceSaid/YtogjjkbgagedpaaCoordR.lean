/-
  coord: Tick with one transaction that is voted on and one that is committed; behind it with the committed one alone.
-/
import Derived.Test.YtogjjkbgagedpaaCoordP
import Derived.Test.YtogjjkbgagedpaaCoordQ
namespace Go.Proofs.Ytogjjkbgagedpaa.coords
open Go.RowKit Go.Maps Go.My Go.ChangeMaps
set_option maxRecDepth 100000

variable {w w' : World} {c q x qa : Nat} {F F' Fc : Nat → Prop} {lim : Int} {m : List (Int × Nat)} {E : EV} {pv : Value}

def EV.aged (E : EV) : EV := { E with age := E.age + 1 }

theorem EntIs.putAge (h : EntIs w x F E pv qa) : EntIs (w.setCell ⟨x, 1, none⟩ (.int .i64 (E.age + 1))) x F E.aged pv qa ∧ Chg (· = x) w (w.setCell ⟨x, 1, none⟩ (.int .i64 (E.age + 1))) := by
  have hc : Chg (· = x) w (w.setCell ⟨x, 1, none⟩ (.int .i64 (E.age + 1))) := Chg.setCell (S := (· = x)) (Chg.refl _ _) (fun _ => rfl) _
  refine ⟨⟨?_, h.plans.kept hc (fun g hg => (h.own_ne g hg).2), h.ans.kept hc (fun e => h.map_ne e.symm), h.fr, h.fq, h.fp, fun k hk => Nat.lt_of_lt_of_le (h.lt k hk) hc.size, h.ok, h.len⟩, hc⟩
  rw [block_setCell h.head]; rfl

theorem none_own (k : Nat) : ¬ some k = (Value.slice none 0 0).ownBlock := by intro e; cases e

def lackMsgs (k txn : Int) (E : EV) : List (List Value) := (lacksOf E E.ps.length).map (fun r => msgC k 0 r txn false)
def allMsgs (k txn : Int) (E : EV) : List (List Value) := E.ps.map (fun r => msgC k 0 r txn false)

theorem msg_one {k txn : Int} {l : List Int} : ∀ u ∈ (l.map (fun r => msgC k 0 r txn false)).flatten, u.oneCell' = true := by
  intro u hu
  obtain ⟨r, hr, hur⟩ := List.mem_flatten.1 hu
  obtain ⟨z, -, rfl⟩ := List.mem_map.1 hr
  simp only [msgC, List.mem_cons, List.not_mem_nil, or_false] at hur
  rcases hur with rfl | rfl | rfl | rfl | rfl | rfl <;> rfl

theorem lacks_le (E : EV) : (lacksOf E E.ps.length).length ≤ E.ps.length := by
  unfold lacksOf; exact Nat.le_trans (List.length_filter_le _ _) (by rw [List.length_take]; omega)

/-- 'append(out, own...)' of messages. -/
theorem append_msgs {w : World} {base base2 : Nat} {a b : Value} {A B : List (List Value)} (ha : OwnRecs w base 24 6 a A) (hb : OwnRecs w base2 24 6 b B) (h1 : ∀ u ∈ B.flatten, u.oneCell' = true) (hA : A.length ≤ 100) (hB : B.length ≤ 100) (hbase : base ≤ w.heap.size) :
    ∃ v' w', (Builtin.append_ #[28, 28] 28 #[a, b]).run Try.prog w = .ok v' w' ∧ OwnRecs w' base 24 6 v' (A ++ B) ∧ Chg (fun k => some k = a.ownBlock) w w' := by
  obtain ⟨i0, hI0⟩ := info_parts info_msg
  obtain ⟨v', w', h2, h3, h4⟩ := run_append_recs (w := w) (base := base) (base2 := base2) 28 28 24 i0 (.agg (msgC 0 0 0 0 false).toArray) Try.underlying28 hI0.1 hI0.2.1 hI0.2.2.1 hI0.2.2.2 rfl (by decide) a b ha.row hb.row h1 (by unfold maxLen; omega) (by omega) hbase
  exact ⟨v', w', h2, OwnRecs.append h3 ha.each hb.each, h4⟩

theorem asc_two : asc [1, 2] = [1, 2] := List.mergeSort_of_pairwise (by simp)
theorem asc_two' : asc [2] = [2] := List.mergeSort_of_pairwise (by simp)

theorem open_two (w : World) {x1 x2 : Nat} (hC : CoIs w c Fc lim [(1, x1), (2, x2)] q) :
    Calls Try.prog 17 #[ptrV c] w fun e w' => ∃ g cap, e = .returned (.slice (some ⟨g, 0, none⟩) 2 cap) ∧ w'.cell? ⟨g, 0, none⟩ = some (.int .i64 1) ∧ w'.cell? ⟨g, 1, none⟩ = some (.int .i64 2) ∧ w.heap.size ≤ g ∧ g < w'.heap.size ∧ Chg (fun _ => False) w w' := by
  refine (open_any w hC (by simp)).mono ?_
  rintro e w1 ⟨v, rfl, ho, hc⟩
  simp only [List.map_cons, List.map_nil, List.length_cons, List.length_nil, Nat.zero_add, Nat.reduceAdd] at ho
  rw [asc_two] at ho
  obtain ⟨oav, cv, rfl⟩ := own_slice ho
  rcases ho.2 with ⟨e1, h0⟩ | ⟨g, cap', cur, e1, -⟩
  · simp at h0
  · simp only [Value.slice.injEq] at e1
    obtain ⟨rfl, -, -⟩ := e1
    obtain ⟨hx, e2, -⟩ := own_cell ho (k := 0) (by simp)
    obtain ⟨hy, e3, -⟩ := own_cell ho (k := 1) (by simp)
    have hl := ho.lt g rfl
    exact ⟨g, cv, rfl, by rw [e2]; rfl, by rw [e3]; rfl, hl.1, hl.2, hc⟩

set_option maxHeartbeats 400000 in
theorem tick_two (w : World) {x1 x2 qa1 qa2 : Nat} {F1 F2 : Nat → Prop} {E1 E2 : EV} {pv1 pv2 : Value} (hC : CoIs w c Fc lim [(1, x1), (2, x2)] q) (h1 : EntIs w x1 F1 E1 pv1 qa1) (h2 : EntIs w x2 F2 E2 pv2 qa2) (s1 : E1.state = 1) (s2 : E2.state = 3)
    (hage : 0 ≤ E1.age ∧ E1.age ≤ 1000000) (a1 : ∀ k, F1 k → ¬ Fc k) (a2 : ∀ k, F2 k → ¬ F1 k ∧ ¬ Fc k) :
    Calls Try.prog 22 #[ptrV c] w fun e w' => ∃ v g, e = .returned (.tuple #[v, g]) ∧ OwnRecs w' w.heap.size 24 6 v ((if lim ≤ E1.age + 1 then allMsgs 4 1 E1 else lackMsgs 1 1 E1.aged) ++ lackMsgs 3 2 E2) ∧
      w'.ownsRow w.heap.size 3 1 g (if lim ≤ E1.age + 1 then 1 else 0) ((if lim ≤ E1.age + 1 then [1] else []).map (Value.int .i64)) ∧ CoIs w' c Fc lim (if lim ≤ E1.age + 1 then [(2, x2)] else [(1, x1), (2, x2)]) q ∧ EntIs w' x1 F1 E1.aged pv1 qa1 ∧ EntIs w' x2 F2 E2 pv2 qa2 ∧ Chg (fun k => F1 k ∨ Fc k) w w' := by
  obtain ⟨A, hA⟩ : ∃ A, (if lim ≤ E1.age + 1 then allMsgs 4 1 E1 else lackMsgs 1 1 E1.aged) = A := ⟨_, rfl⟩
  obtain ⟨gn, hgn⟩ : ∃ gn : Nat, (if lim ≤ E1.age + 1 then 1 else 0) = gn := ⟨_, rfl⟩
  obtain ⟨gl, hgl⟩ : ∃ gl : List Int, (if lim ≤ E1.age + 1 then [1] else []) = gl := ⟨_, rfl⟩
  obtain ⟨m', hm'⟩ : ∃ m' : List (Int × Nat), (if lim ≤ E1.age + 1 then [(2, x2)] else [(1, x1), (2, x2)]) = m' := ⟨_, rfl⟩
  rw [hA, hgn, hgl, hm']
  have hAl : A.length ≤ 6 := by
    rw [← hA]
    split
    · unfold allMsgs; rw [List.length_map]; exact h1.len
    · unfold lackMsgs; rw [List.length_map]; exact Nat.le_trans (lacks_le _) h1.len
  have hmf : ∀ (fn : Fn) (first cap : Array Value) (w : World), (Instr.makeFunc fn first cap).run Try.prog w = .ok (.func fn first cap) w := fun _ _ _ _ => rfl
  have HA := Lib.hid hA
  have HGn := Lib.hid hgn
  have HGl := Lib.hid hgl
  have HM' := Lib.hid hm'
  have HAl := Lib.hid hAl
  have HC := Lib.hid hC
  have H1 := Lib.hid h1
  have H2 := Lib.hid h2
  have HS1 := Lib.hid s1
  have HS2 := Lib.hid s2
  have HAge := Lib.hid hage
  have HA1 := Lib.hid a1
  have HA2 := Lib.hid a2
  have HOp := Lib.hid (open_two w hC)
  clear hA hgn hgl hm' hAl hC h1 h2 s1 s2 hage a1 a2
  unfold ptrV at HOp ⊢
  go_enter Try.func22, Try.ntmps22
  go_wp2_with (go_at_call 17; refine HOp.out.mono ?_; rintro e w1 ⟨g, cap, rfl, c0, c1, hg0, hg1, hc1⟩; have HC1 := Lib.hid hc1; have HG0 := Lib.hid c0; have HG1 := Lib.hid c1; have HGl' := Lib.hid (And.intro hg0 hg1); clear hc1 c0 c1 hg0 hg1)
  go_loopw [4, 5, 13] (fun a b j wr => ∃ k : Nat, j = .int .i64 k ∧ k ≤ 2 ∧ (k = 0 → a = .slice none 0 0 ∧ b = .slice none 0 0 ∧ w1 = wr) ∧
    (1 ≤ k → OwnRecs wr w.heap.size 24 6 a (if k = 1 then A else A ++ lackMsgs 3 2 E2) ∧ wr.ownsRow w.heap.size 3 1 b gn (gl.map (Value.int .i64)) ∧ CoIs wr c Fc lim m' q ∧ EntIs wr x1 F1 E1.aged pv1 qa1 ∧ EntIs wr x2 F2 E2 pv2 qa2 ∧ Chg (fun k => F1 k ∨ Fc k) w wr ∧ w1.heap.size ≤ wr.heap.size ∧ (k = 1 → wr.cell? ⟨g, 1, none⟩ = some (.int .i64 2)))) (fun _ _ j _ => 2 - (intOf j).toNat)
  · exact ⟨0, rfl, Nat.zero_le _, fun _ => ⟨rfl, rfl, rfl⟩, fun h => by omega⟩
  obtain ⟨k, rfl, hk, hz, hp⟩ := hrel
  rcases Nat.eq_zero_or_pos k with rfl | hk1
  · obtain ⟨rfl, rfl, rfl⟩ := hz rfl
    clear hz hp
    have g0 := HG0.out
    have hCo := HC.out.fresh HC1.out
    have c1 : w1.cell? ⟨c, 1, none⟩ = some (.map (some q)) := cell_of_block hCo.head rfl
    have hlk := hCo.mp.look Try.underlying71 (zero_ent _) false 1 (WalkArith.wf_i64 (by omega))
    have hlk : (Instr.lookup 71 (.map (some q)) (.int .i64 1) false).run Try.prog w1 = .ok (.pointer (some ⟨x1, 0, none⟩)) w1 := by
      rw [show mget [((1 : Int), x1), ((2 : Int), x2)] 1 = some x1 from by simp [mget]] at hlk; exact hlk
    have hca := (Chg.refl (fun _ => False) w1).alloc (.cells #[.pointer (some ⟨x1, 0, none⟩)] 76)
    have hE1 := (H1.out.fresh HC1.out).fresh hca
    have s0 : (w1.alloc (.cells #[.pointer (some ⟨x1, 0, none⟩)] 76)).cell? ⟨x1, 0, none⟩ = some (.int .i64 1) := by rw [← HS1.out]; exact cell_of_block hE1.head rfl
    have a0 : (w1.alloc (.cells #[.pointer (some ⟨x1, 0, none⟩)] 76)).cell? ⟨x1, 1, none⟩ = some (.int .i64 E1.age) := cell_of_block hE1.head rfl
    have z0 : (w1.alloc (.cells #[.pointer (some ⟨x1, 0, none⟩)] 76)).frozen? ⟨x1, 1, none⟩ = false := free_of_block hE1.head
    have gx : (w1.alloc (.cells #[.pointer (some ⟨x1, 0, none⟩)] 76)).cell? ⟨w1.heap.size, 0, none⟩ = some (.pointer (some ⟨x1, 0, none⟩)) := cell_of_block (block_alloc_new _ _) rfl
    obtain ⟨hE1b, hcb⟩ := hE1.putAge
    have hx1 : x1 < w1.heap.size := (H1.out.fresh HC1.out).lt _ H1.out.fr
    obtain ⟨wB, hwB⟩ : ∃ wB, (w1.alloc (.cells #[.pointer (some ⟨x1, 0, none⟩)] 76)).setCell ⟨x1, 1, none⟩ (.int .i64 (E1.age + 1)) = wB := ⟨_, rfl⟩
    have b1 : ((w1.alloc (.cells #[.pointer (some ⟨x1, 0, none⟩)] 76)).setCell ⟨x1, 1, none⟩ (.int .i64 (E1.age + 1))).cell? ⟨x1, 1, none⟩ = some (.int .i64 (E1.age + 1)) := cell_of_block hE1b.head rfl
    have bx : ((w1.alloc (.cells #[.pointer (some ⟨x1, 0, none⟩)] 76)).setCell ⟨x1, 1, none⟩ (.int .i64 (E1.age + 1))).cell? ⟨w1.heap.size, 0, none⟩ = some (.pointer (some ⟨x1, 0, none⟩)) := hcb.cell gx (by simp; omega)
    have hCB := (hCo.fresh hca).kept hcb (fun k hk e => HA1.out k (by rw [e]; exact H1.out.fr) hk)
    have b0 : ((w1.alloc (.cells #[.pointer (some ⟨x1, 0, none⟩)] 76)).setCell ⟨x1, 1, none⟩ (.int .i64 (E1.age + 1))).cell? ⟨c, 0, none⟩ = some (.int .i64 lim) := cell_of_block hCB.head rfl
    have hwr : wrap64 (E1.age + 1) = E1.age + 1 := IntWalk.wrap64_in _ (by have := HAge.out; omega)
    have hE2b := ((H2.out.fresh HC1.out).fresh hca).kept hcb (fun k hk e => (HA2.out k hk).1 (by rw [e]; exact H1.out.fr))
    have HCB := Lib.hid hCB
    have HE1B := Lib.hid hE1b
    have HE2B := Lib.hid hE2b
    have HBx := Lib.hid bx
    have HCb := Lib.hid (((hca.mono (fun _ _ h => h.elim) : Chg F1 _ _)).trans' (hcb.mono (fun k _ e => (by rw [e]; exact H1.out.fr : F1 k))))
    have HSzB := Lib.hid (show w.heap.size ≤ wB.heap.size from by rw [← hwB]; exact Nat.le_trans HC1.out.size (Nat.le_trans hca.size hcb.size))
    have HGB := Lib.hid (HCb.out.cell HG1.out (fun h => absurd (H1.out.lt _ h) (Nat.not_lt.2 HGl'.out.1)))
    have HW1 := Lib.hid ((HC1.out.mono (fun _ _ h => h.elim) : Chg (fun k => F1 k ∨ Fc k) w w1).trans' (HCb.out.mono (fun _ _ h => Or.inl h)))
    rw [hwB] at HGB HW1
    clear hCo hca hE1 hcb hE1b hCB hE2b
    rw [hwB] at b1 bx b0 HCB HE1B HE2B HBx HCb
    go_wp2_with fail
    clear hwB s0 a0 z0 gx hlk
    refine wp_region_noPanic ?_
    refine wp_region_held_drew (S := (fun w' => w'.cell? ⟨w1.heap.size, 0, none⟩ = some (.pointer (some ⟨x1, 0, none⟩)) ∧ w'.cell? ⟨x1, 1, none⟩ = some (.int .i64 (E1.age + 1)) ∧ w'.cell? ⟨c, 0, none⟩ = some (.int .i64 lim))) (by kernel_rfl) (⟨bx, b1, b0⟩) (fun hHeld => ?_)
    refine take_list (i := 0) (v := ?_) rfl (by kernel_rfl) (by kernel_rfl) (by kernel_rfl) (fun _ _ _ h => h) (Or.inl ⟨by rfl, fun w hSw => ?_⟩) hHeld ?_
    rotate_left
    · (obtain ⟨hSw1, hSw2, hSw3⟩ := hSw; go_simp)
      try with_reducible rfl
    simp only [Act.put, List.setIfInBounds_toArray, List.set_cons_zero, List.set_cons_succ]
    refine take_list (i := 1) (v := ?_) rfl (by kernel_rfl) (by kernel_rfl) (by kernel_rfl) (fun _ _ _ h => h) (Or.inl ⟨by rfl, fun w hSw => ?_⟩) hHeld ?_
    rotate_left
    · (obtain ⟨hSw1, hSw2, hSw3⟩ := hSw; go_simp)
      try with_reducible rfl
    simp only [Act.put, List.setIfInBounds_toArray, List.set_cons_zero, List.set_cons_succ]
    refine take_list (i := 2) (v := ?_) rfl (by kernel_rfl) (by kernel_rfl) (by kernel_rfl) (fun _ _ _ h => h) (Or.inl ⟨by rfl, fun w hSw => ?_⟩) hHeld ?_
    rotate_left
    · (obtain ⟨hSw1, hSw2, hSw3⟩ := hSw; go_simp)
      try with_reducible rfl
    simp only [Act.put, List.setIfInBounds_toArray, List.set_cons_zero, List.set_cons_succ]
    refine take_list (i := 3) (v := ?_) rfl (by kernel_rfl) (by kernel_rfl) (by kernel_rfl) (fun _ _ _ h => h) (Or.inl ⟨by rfl, fun w hSw => ?_⟩) hHeld ?_
    rotate_left
    · (obtain ⟨hSw1, hSw2, hSw3⟩ := hSw; go_simp)
      try with_reducible rfl
    simp only [Act.put, List.setIfInBounds_toArray, List.set_cons_zero, List.set_cons_succ]
    refine take_list (i := 4) (v := ?_) rfl (by kernel_rfl) (by kernel_rfl) (by kernel_rfl) (fun _ _ _ h => h) (Or.inl ⟨by rfl, fun w hSw => ?_⟩) hHeld ?_
    rotate_left
    · (obtain ⟨hSw1, hSw2, hSw3⟩ := hSw; go_simp)
      try with_reducible rfl
    simp only [Act.put, List.setIfInBounds_toArray, List.set_cons_zero, List.set_cons_succ]
    refine take_list (i := 5) (v := ?_) rfl (by kernel_rfl) (by kernel_rfl) (by kernel_rfl) (fun _ _ _ h => h) (Or.inl ⟨by rfl, fun w hSw => ?_⟩) hHeld ?_
    rotate_left
    · (obtain ⟨hSw1, hSw2, hSw3⟩ := hSw; go_simp)
      try with_reducible rfl
    simp only [Act.put, List.setIfInBounds_toArray, List.set_cons_zero, List.set_cons_succ]
    refine take_list (i := 6) (v := ?_) rfl (by kernel_rfl) (by kernel_rfl) (by kernel_rfl) (fun _ _ _ h => h) (Or.inl ⟨by rfl, fun w hSw => ?_⟩) hHeld ?_
    rotate_left
    · (obtain ⟨hSw1, hSw2, hSw3⟩ := hSw; go_simp)
      try with_reducible rfl
    simp only [Act.put, List.setIfInBounds_toArray, List.set_cons_zero, List.set_cons_succ]
    refine take_list (i := 7) (v := ?_) rfl (by kernel_rfl) (by kernel_rfl) (by kernel_rfl) (fun _ _ _ h => h) (Or.inl ⟨by rfl, fun w hSw => ?_⟩) hHeld ?_
    rotate_left
    · (obtain ⟨hSw1, hSw2, hSw3⟩ := hSw; go_simp)
      try with_reducible rfl
    simp only [Act.put, List.setIfInBounds_toArray, List.set_cons_zero, List.set_cons_succ]
    refine take_list (i := 8) (v := ?_) rfl (by kernel_rfl) (by kernel_rfl) (by kernel_rfl) (fun _ _ _ h => h) (Or.inl ⟨by rfl, fun w hSw => ?_⟩) hHeld ?_
    rotate_left
    · (obtain ⟨hSw1, hSw2, hSw3⟩ := hSw; go_simp)
      try with_reducible rfl
    simp only [Act.put, List.setIfInBounds_toArray, List.set_cons_zero, List.set_cons_succ]
    refine wpAnyH_done (by kernel_rfl) ?_ _
    refine NoPanic.normal ?_
    clear hHeld b1 b0
    by_cases hold : lim ≤ E1.age + 1
    · have hge : E1.age + 1 ≥ lim := hold
      have hAe : A = allMsgs 4 1 E1 := by rw [← HA.out, if_pos hold]
      have hg1 : gn = 1 := by rw [← HGn.out, if_pos hold]
      have hg2 : gl = [1] := by rw [← HGl.out, if_pos hold]
      have hmm : m' = [(2, x2)] := by rw [← HM'.out, if_pos hold]
      have HAe := Lib.hid hAe
      have HG1' := Lib.hid hg1
      have HG2' := Lib.hid hg2
      have HMm := Lib.hid hmm
      obtain ⟨i0, hI0⟩ := info_parts info_int
      have HI0 := Lib.hid hI0
      clear hold hAe hg1 hg2 hmm hI0
      go_wp2_with (first
        | (go_at_call 32; refine (all_any _ (HE1B.out.fresh (Chg.refl _ _).drew) 4 1).mono ?_; rintro e w5 ⟨v, rfl, ho, hc5⟩
           obtain ⟨v', w6, hap, ho6, hc6⟩ := append_msgs (OwnRecs.nil w5 w.heap.size 24 6) ho msg_one (by simp) (by rw [List.length_map]; have := H1.out.len; exact Nat.le_trans this (by omega)) (Nat.le_trans HSzB.out hc5.size)
           have hc56 : Chg (fun _ => False) wB w6 := ((Chg.refl (fun _ => False) wB).drew.trans' hc5).trans' (hc6.mono (fun k _ e => (none_own k e).elim))
           have HO6 := Lib.hid ho6
           have HC6 := Lib.hid hc56
           clear ho hc5 ho6 hc6 hc56)
        | (at_builtin; have _h := hap; refine wpList_append_run rfl _ _ 28 rfl rfl rfl hap ?_; clear hap)
        | (at_builtin; refine wpList_append_own_at _ rfl _ _ 41 rfl w.heap.size 3 i0 (.int .i64 0) 1 8 Try.underlying41 HI0.out.1 HI0.out.2.1 HI0.out.2.2.1 HI0.out.2.2.2 rfl (by decide) _ 0 [] rfl (World.ownsRow_nil _ _ _ _) ⟨w6.heap.size, 0, none⟩ 1 1 [.int .i64 1] rfl rfl (cells_new w6 [.int .i64 1] _) (by intro x hx; rw [List.mem_singleton.1 hx]; rfl) (by unfold maxLen; omega) (by omega) (Nat.le_trans HSzB.out (HC6.out.alloc _).size) ?_; intro v8 w8 ho8 hg8 hx1 hx2
           have hc8 : Chg (fun _ => False) wB w8 := (HC6.out.alloc _).trans' ((Chg.of_grown hg8).mono (fun k _ e => (none_own k e).elim))
           have hC8 := HCB.out.fresh hc8
           have d1 : w8.cell? ⟨c, 1, none⟩ = some (.map (some q)) := cell_of_block hC8.head rfl
           obtain ⟨ob, hdl, hmd⟩ := hC8.mp.del Try.underlying71 1 (WalkArith.wf_i64 (by omega)) 0
           have hdl : (Builtin.delete_ #[71, 3] 0 #[.map (some q), .int .i64 1]).run Try.prog w8 = .ok (.tuple #[]) (setBlock w8 q ob) := hdl
           have hcd : Chg (· = q) w8 (setBlock w8 q ob) := Chg.setBlock (S := (· = q)) (Chg.refl _ _) (fun _ => rfl) _
           have HMd := Lib.hid hmd
           have HCd := Lib.hid hcd
           clear hmd hcd
           have HO8 := Lib.hid ho8
           have HG8 := Lib.hid hg8
           have HC8 := Lib.hid hc8
           have HCo8 := Lib.hid hC8
           clear ho8 hg8 hx1 hx2 hc8 hC8))
      have hvq : ∀ k, some k = v'.ownBlock → ¬ k = q := fun k e hq => by
        have h1 := (HO6.out.lt e.symm).1
        have h2 := HC.out.lt q HC.out.fq
        omega
      refine ⟨⟨1, by go_num, by omega, fun h => by omega, fun _ => ⟨?_, ?_, ?_, (HE1B.out.fresh HC8.out).kept HCd.out (fun k hk e => HA1.out k hk (by rw [e]; exact HC.out.fq)), (HE2B.out.fresh HC8.out).kept HCd.out (fun k hk e => (HA2.out k hk).2 (by rw [e]; exact HC.out.fq)), ?_, Nat.le_trans HCb.out.size (Nat.le_trans HC8.out.size HCd.out.size), fun _ => HCd.out.cell (HC8.out.cell HGB.out id) (fun e => by have h1 := HGl'.out.1; have h2 := HC.out.lt q HC.out.fq; simp at e; omega)⟩⟩, by simp [intOf]⟩
      · rw [if_pos rfl, HAe.out]
        have h1 := HO6.out.kept ((((Chg.refl (fun _ => False) w6).alloc (.cells #[.int .i64 1] 3)).trans' ((Chg.of_grown HG8.out).mono (fun k _ e => (none_own k e).elim)))) (fun _ _ h => h)
        exact h1.kept HCd.out (fun k e => hvq k e.symm)
      · rw [HG1'.out, HG2'.out]
        exact row_kept HO8.out HCd.out (fun k e hq => by
          have h1 := (HO8.out.lt k e).1
          have h2 := HC.out.lt q HC.out.fq
          omega)
      · rw [HMm.out]
        have hh := HCd.out.at HCo8.out.head HCo8.out.cq
        refine ⟨hh, ?_, HCo8.out.fc, HCo8.out.fq, fun k hk => Nat.lt_of_lt_of_le (HCo8.out.lt k hk) HCd.out.size⟩
        have := HMd.out
        rw [show mdel [((1 : Int), x1), ((2 : Int), x2)] 1 = [(2, x2)] from by simp [mdel]] at this
        exact this
      · exact (HW1.out.trans' (HC8.out.mono (fun _ _ h => h.elim))).trans' (HCd.out.mono (fun k _ e => Or.inr (by rw [e]; exact HC.out.fq)))
    · have hAe : A = lackMsgs 1 1 E1.aged := by rw [← HA.out, if_neg hold]
      have hg1 : gn = 0 := by rw [← HGn.out, if_neg hold]
      have hg2 : gl = [] := by rw [← HGl.out, if_neg hold]
      have hmm : m' = [(1, x1), (2, x2)] := by rw [← HM'.out, if_neg hold]
      have HAe := Lib.hid hAe
      have HG1' := Lib.hid hg1
      have HG2' := Lib.hid hg2
      have HMm := Lib.hid hmm
      clear hAe hg1 hg2 hmm
      go_wp2_with (first
        | (go_at_call 32; refine (all_lacks_prep _ (HE1B.out.fresh (Chg.refl _ _).drew) 1 1 rfl w1.heap.size HBx.out).mono ?_; rintro e w5 ⟨v, rfl, ho, hc5⟩
           obtain ⟨v', w6, hap, ho6, hc6⟩ := append_msgs (OwnRecs.nil w5 w.heap.size 24 6) ho msg_one (by simp) (by rw [List.length_map]; exact Nat.le_trans (lacks_le _) (Nat.le_trans HE1B.out.len (by omega))) (Nat.le_trans HSzB.out hc5.size)
           have hc56 : Chg (fun _ => False) wB w6 := ((Chg.refl (fun _ => False) wB).drew.trans' hc5).trans' (hc6.mono (fun k _ e => (none_own k e).elim))
           have HO6 := Lib.hid ho6
           have HC6 := Lib.hid hc56
           clear ho hc5 ho6 hc6 hc56)
        | (at_builtin; have _h := hap; refine wpList_append_run rfl _ _ 28 rfl rfl rfl hap ?_; clear hap))
      refine ⟨⟨1, by go_num, by omega, fun h => by omega, fun _ => ⟨?_, ?_, ?_, HE1B.out.fresh HC6.out, HE2B.out.fresh HC6.out, HW1.out.trans' (HC6.out.mono (fun _ _ h => h.elim)), Nat.le_trans HCb.out.size HC6.out.size, fun _ => HC6.out.cell HGB.out id⟩⟩, by simp [intOf]⟩
      · rw [if_pos rfl, HAe.out]; exact HO6.out
      · rw [HG1'.out, HG2'.out]; exact World.ownsRow_nil _ _ _ _
      · rw [HMm.out]; exact HCB.out.fresh HC6.out
  · obtain ⟨ho, hgo, hCo, hE1, hE2, hW, hsz, hg⟩ := hp hk1
    clear hz hp
    have HMg := Lib.hid (show mget m' 2 = some x2 from by rw [← HM'.out]; split <;> simp [mget])
    have HO := Lib.hid ho
    have HGo := Lib.hid hgo
    have HCo := Lib.hid hCo
    have HE1 := Lib.hid hE1
    have HE2 := Lib.hid hE2
    have HW := Lib.hid hW
    have HSz := Lib.hid hsz
    clear ho hgo hCo hE1 hE2 hW hsz
    obtain ⟨i0, hI0⟩ := info_parts info_msg
    rcases (by omega : k = 1 ∨ k = 2) with rfl | rfl
    · have g1 := hg rfl
      have ho := HO.out
      rw [if_pos rfl] at ho
      have HOa := Lib.hid ho
      have c1 : wr.cell? ⟨c, 1, none⟩ = some (.map (some q)) := cell_of_block HCo.out.head rfl
      have hlk := HCo.out.mp.look Try.underlying71 (zero_ent _) false 2 (WalkArith.wf_i64 (by omega))
      have hlk : (Instr.lookup 71 (.map (some q)) (.int .i64 2) false).run Try.prog wr = .ok (.pointer (some ⟨x2, 0, none⟩)) wr := by
        rw [HMg.out] at hlk; exact hlk
      have hca := (Chg.refl (fun _ => False) wr).alloc (.cells #[.pointer (some ⟨x2, 0, none⟩)] 76)
      have hE2 := HE2.out.fresh hca
      have s0 : (wr.alloc (.cells #[.pointer (some ⟨x2, 0, none⟩)] 76)).cell? ⟨x2, 0, none⟩ = some (.int .i64 3) := by rw [← HS2.out]; exact cell_of_block hE2.head rfl
      have hgx : (wr.alloc (.cells #[.pointer (some ⟨x2, 0, none⟩)] 76)).cell? ⟨wr.heap.size, 0, none⟩ = some (.pointer (some ⟨x2, 0, none⟩)) := cell_of_block (block_alloc_new _ _) rfl
      have HE2a := Lib.hid hE2
      have HGx := Lib.hid hgx
      have HCa := Lib.hid hca
      clear hca hE2 hg ho hI0 hk1
      go_wp2_with (first
        | (go_at_call 32; refine (all_lacks _ HE2a.out 3 2 (by decide) wr.heap.size HGx.out).mono ?_; rintro e w5 ⟨v, rfl, ho, hc5⟩
           obtain ⟨v', w6, hap, ho6, hc6⟩ := append_msgs (HOa.out.kept (HCa.out.trans' hc5) (fun _ _ h => h)) ho msg_one (Nat.le_trans HAl.out (by omega)) (by rw [List.length_map]; exact Nat.le_trans (lacks_le _) (Nat.le_trans HE2a.out.len (by omega))) (Nat.le_trans HC1.out.size (Nat.le_trans HSz.out (HCa.out.trans' hc5).size))
           have HC5 := Lib.hid (HCa.out.trans' hc5)
           have HO6 := Lib.hid ho6
           have HC6 := Lib.hid hc6
           clear ho hc5 ho6 hc6)
        | (at_builtin; have _h := hap; refine wpList_append_run rfl _ _ 28 rfl rfl rfl hap ?_; clear hap))
      have hcw : Chg (fun j => some j = u4.ownBlock) wr w6 := (HC5.out.mono (fun _ _ h => h.elim)).trans' HC6.out
      have hown : ∀ j, some j = u4.ownBlock → w.heap.size ≤ j := fun j e => (HOa.out.lt e.symm).1
      refine ⟨⟨2, by go_num, by omega, fun h => by omega, fun _ => ⟨?_, ?_, HCo.out.kept hcw (fun k hk e => by have h1 := hown k e; have h2 := HC.out.lt k hk; omega), HE1.out.kept hcw (fun k hk e => by have h1 := hown k e; have h2 := H1.out.lt k hk; omega), HE2.out.kept hcw (fun k hk e => by have h1 := hown k e; have h2 := H2.out.lt k hk; omega), HW.out.trans hcw (fun k hk e => absurd (hown k e) (Nat.not_le.2 hk)), Nat.le_trans HSz.out hcw.size, fun h => by omega⟩⟩, by simp [intOf]⟩
      · rw [if_neg (by omega)]; exact HO6.out
      · refine row_kept HGo.out hcw (fun j hj e => ?_)
        obtain ⟨c1, h1⟩ := row_obj HGo.out hj
        obtain ⟨c2, h2⟩ := row_obj HOa.out.row e.symm
        rw [h1] at h2
        simp only [Option.some.injEq, Obj.cells.injEq] at h2
        exact absurd h2.2.1 (by decide)
    · go_wp2_with fail
      go_ret2
      have ho := HO.out
      rw [if_neg (by omega)] at ho
      exact ⟨_, _, rfl, ho, HGo.out, HCo.out, HE1.out, HE2.out, HW.out⟩

set_option maxHeartbeats 400000 in
theorem tick_last (w : World) {x2 qa2 : Nat} {F2 : Nat → Prop} {E2 : EV} {pv2 : Value} (hC : CoIs w c Fc lim [(2, x2)] q) (h2 : EntIs w x2 F2 E2 pv2 qa2) (s2 : E2.state = 3) :
    Calls Try.prog 22 #[ptrV c] w fun e w' => ∃ v, e = .returned (.tuple #[v, .slice none 0 0]) ∧ OwnRecs w' w.heap.size 24 6 v (lackMsgs 3 2 E2) ∧ Chg (fun _ => False) w w' := by
  have hmf : ∀ (fn : Fn) (first cap : Array Value) (w : World), (Instr.makeFunc fn first cap).run Try.prog w = .ok (.func fn first cap) w := fun _ _ _ _ => rfl
  have HC := Lib.hid hC
  have HE := Lib.hid h2
  have HS := Lib.hid s2
  have HOp := Lib.hid (open_one w 2 hC)
  clear hC h2 s2
  unfold ptrV at HOp ⊢
  go_enter Try.func22, Try.ntmps22
  go_wp2_with (go_at_call 17; refine HOp.out.mono ?_; rintro e w1 ⟨g, cap, rfl, hg, hc1⟩; have HG := Lib.hid hg; have HC1 := Lib.hid hc1; clear hg hc1)
  go_loopw [4, 5, 13] (fun a b j wr => ∃ k : Nat, j = .int .i64 k ∧ k ≤ 1 ∧ (k = 0 → a = .slice none 0 0) ∧ (k = 1 → OwnRecs wr w.heap.size 24 6 a (lackMsgs 3 2 E2)) ∧ b = .slice none 0 0 ∧ Chg (fun _ => False) w1 wr) (fun _ _ j _ => 1 - (intOf j).toNat)
  · exact ⟨0, rfl, Nat.zero_le _, fun _ => rfl, fun h => by omega, rfl, Chg.refl _ _⟩
  obtain ⟨k, rfl, hk, ha, ha1, rfl, hc⟩ := hrel
  have HCx := Lib.hid (HC1.out.trans' hc)
  have HG2 := Lib.hid (hc.cell HG.out id)
  have HCy := Lib.hid hc
  clear hc
  rcases Nat.eq_zero_or_pos k with rfl | hk1
  · obtain rfl := ha rfl
    have g0 := HG2.out
    have hCo := HC.out.fresh HCx.out
    have c1 : wr.cell? ⟨c, 1, none⟩ = some (.map (some q)) := cell_of_block hCo.head rfl
    have hlk := hCo.mp.look Try.underlying71 (zero_ent _) false 2 (WalkArith.wf_i64 (by omega))
    have hlk : (Instr.lookup 71 (.map (some q)) (.int .i64 2) false).run Try.prog wr = .ok (.pointer (some ⟨x2, 0, none⟩)) wr := by
      rw [show mget [((2 : Int), x2)] 2 = some x2 from by simp [mget]] at hlk; exact hlk
    have hca := (Chg.refl (fun _ => False) wr).alloc (.cells #[.pointer (some ⟨x2, 0, none⟩)] 76)
    have hE2 := (HE.out.fresh HCx.out).fresh hca
    have s0 : (wr.alloc (.cells #[.pointer (some ⟨x2, 0, none⟩)] 76)).cell? ⟨x2, 0, none⟩ = some (.int .i64 3) := by rw [← HS.out]; exact cell_of_block hE2.head rfl
    have hgx : (wr.alloc (.cells #[.pointer (some ⟨x2, 0, none⟩)] 76)).cell? ⟨wr.heap.size, 0, none⟩ = some (.pointer (some ⟨x2, 0, none⟩)) := cell_of_block (block_alloc_new _ _) rfl
    have HE2 := Lib.hid hE2
    have HGx := Lib.hid hgx
    have HCa := Lib.hid hca
    clear hCo hca hE2 ha ha1
    go_wp2_with (first
      | (go_at_call 32; refine (all_lacks _ HE2.out 3 2 (by decide) wr.heap.size HGx.out).mono ?_; rintro e w5 ⟨v, rfl, ho, hc5⟩
         obtain ⟨v', w6, hap, ho6, hc6⟩ := append_msgs (OwnRecs.nil w5 w.heap.size 24 6) ho msg_one (by simp) (by rw [List.length_map]; exact Nat.le_trans (lacks_le _) (Nat.le_trans HE2.out.len (by omega))) (Nat.le_trans HCx.out.size (HCa.out.trans' hc5).size)
         have HC6 := Lib.hid ((HCa.out.trans' hc5).trans' (hc6.mono (fun k _ e => (none_own k e).elim)))
         have HO6 := Lib.hid ho6
         clear ho hc5 ho6 hc6)
      | (at_builtin; have _h := hap; refine wpList_append_run rfl _ _ 28 rfl rfl rfl hap ?_; clear hap))
    exact ⟨⟨1, by go_num, Nat.le_refl _, fun h => by omega, fun _ => HO6.out, rfl, HCy.out.trans' HC6.out⟩, by simp [intOf]⟩
  · obtain rfl : k = 1 := by omega
    have HO := Lib.hid (ha1 rfl)
    clear ha1 ha
    go_wp2_with fail
    go_ret2
    exact ⟨_, rfl, HO.out, HCx.out⟩

end Go.Proofs.Ytogjjkbgagedpaa.coords
