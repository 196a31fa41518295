/- . -/
import Derived.Test.YtbjagmlbamjdbaaGreatPx1RootOnce
import Derived.Test.YtbjagmlbamjdbaaGreatPx24RootOnce
import Derived.Test.YtbjagmlbamjdbaaGreatPx27RootOnce
import Derived.Test.YtbjagmlbamjdbaaGreatPx28RootOnce
import Derived.Deep.CutBlock
import Derived.Test.YtbjagmlbamjdbaaGreatRows

set_option linter.unusedSimpArgs false
set_option linter.unusedVariables false
section
namespace Go.Proofs.YtbjagmlbamjdbaaGreat.rootOnce
open Go.ChangeShapes Go.WideShapes Go.ChangeAt Go.RowKit Go.My Go.Maps Go.ChangeMaps wals disks kvs roots

theorem laidOut : laidOutB Tryz.prog = true := by kernel_rfl
theorem own : ownKnob Tryz.prog.godebug = none := by kernel_rfl

def onceS (n : Nat) (ps : List Pk) : RS := ⟨ps, 0, [], [n]⟩
structure OnceOk (n : Nat) (ps : List Pk) : Prop where
  n1 : 1 ≤ n
  n2 : n ≤ 1000
  ok : rchkF ps = 0
variable {n : Nat} {ps : List Pk}
theorem ask_in {n : Nat} (h1 : 1 ≤ n) (h2 : n ≤ 1001) : askF (n : Int) = 0 := by unfold askF; rw [if_neg (by omega)]
theorem OnceOk.e1 (h : OnceOk n ps) : stageE nilS (n : Int) ps = none := by
  unfold stageE
  rw [if_neg (by rw [ask_in h.n1 (by have := h.n2; omega)]; simp), if_neg (by simp [h.ok]), if_neg (by simp [nilS]), if_neg (by have := h.n1; simp only [nilS]; omega), if_neg (by simp [nilS])]
theorem OnceOk.e2 (h : OnceOk n ps) : commitE (stageS nilS n ps) (n : Int) = none := by
  unfold commitE
  rw [if_neg (by rw [ask_in h.n1 (by have := h.n2; omega)]; simp), if_neg (by simp [nilS, stageS]), if_neg (by simp [stageS])]
theorem OnceOk.e3 (h : OnceOk n ps) : stageE (onceS n ps) (n : Int) ps = some 11 := by
  unfold stageE
  rw [if_neg (by rw [ask_in h.n1 (by have := h.n2; omega)]; simp), if_neg (by simp [h.ok]), if_pos ⟨n, by simp [onceS], rfl⟩]
theorem OnceOk.e4 (h : OnceOk n ps) : commitE (onceS n ps) (n : Int) = some 0 := by
  unfold commitE
  rw [if_neg (by rw [ask_in h.n1 (by have := h.n2; omega)]; simp), if_pos ⟨n, by simp [onceS], rfl⟩]
theorem OnceOk.e5 (h : OnceOk n ps) : abortE (onceS n ps) (n : Int) = some 11 := by
  unfold abortE
  rw [if_neg (by rw [ask_in h.n1 (by have := h.n2; omega)]; simp), if_pos ⟨n, by simp [onceS], rfl⟩]
theorem not_done {n : Nat} {ps : List Pk} : ¬ ∃ k ∈ (onceS n ps).done, (k : Int) = ((n + 1 : Nat) : Int) := by
  rintro ⟨k, hk, e⟩
  have hk : k ∈ [n] := hk
  rw [List.mem_singleton] at hk
  omega
theorem OnceOk.e6 (h : OnceOk n ps) : stageE (onceS n ps) ((n + 1 : Nat) : Int) [] = none := by
  unfold stageE
  rw [if_neg (by rw [ask_in (by omega) (by have := h.n2; omega)]; simp), if_neg (by decide), if_neg not_done, if_neg (by simp only [onceS]; omega), if_neg (by simp [onceS])]
theorem OnceOk.e7 (h : OnceOk n ps) : abortE (stageS (onceS n ps) (n + 1) []) ((n + 1 : Nat) : Int) = none := by
  unfold abortE
  rw [if_neg (by rw [ask_in (by omega) (by have := h.n2; omega)]; simp), if_neg (show ¬ ∃ k ∈ (stageS (onceS n ps) (n + 1) []).done, (k : Int) = ((n + 1 : Nat) : Int) from not_done (ps := ps)), if_neg (by simp [stageS])]
theorem OnceOk.e8 (h : OnceOk n ps) : abortE (onceS n ps) ((n + 1 : Nat) : Int) = some 0 := by
  unfold abortE
  rw [if_neg (by rw [ask_in (by omega) (by have := h.n2; omega)]; simp), if_neg not_done, if_pos (by simp only [onceS]; omega)]
theorem OnceOk.e9 (h : OnceOk n ps) : commitE (onceS n ps) ((n + 1 : Nat) : Int) = some 11 := by
  unfold commitE
  rw [if_neg (by rw [ask_in (by omega) (by have := h.n2; omega)]; simp), if_neg not_done, if_pos (by simp only [onceS]; omega)]
theorem bad_e1 (h1 : 1 ≤ n) (h2 : n ≤ 1000) (h : rchkF ps ≠ 0) : stageE nilS (n : Int) ps = some (rchkF ps) := by
  unfold stageE
  rw [if_neg (by rw [ask_in h1 (by omega)]; simp), if_pos h]
theorem mod_k (z : Int) : ∃ K : Nat, 1 ≤ K ∧ K ≤ 1000 ∧ wrap64 (z.tmod 1000 + 1000) = z.tmod 1000 + 1000 ∧ wrap64 (1 + (z.tmod 1000 + 1000).tmod 1000) = (K : Int) := by
  obtain ⟨R, h1, h2, h3⟩ := mod_twice z 1000 (by omega) (by omega)
  have h2 : wrap64 (z.tmod 1000 + 1000) = z.tmod 1000 + 1000 := h2
  have h3 : (z.tmod 1000 + 1000).tmod 1000 = (R : Int) := h3
  exact ⟨R + 1, by omega, by omega, h2, by rw [h3, IntWalk.wrap64_in _ (by omega)]; omega⟩

theorem one_at {w : World} {b : Nat} {TX : Nat} (h : w.heap[b]? = some (.cells #[.int .i64 (TX : Int)] 3 (0, 0))) : SlAt w (.slice (some ⟨b, 0, none⟩) 1 1) ([TX].map (fun n : Nat => Value.int .i64 (n : Int))) := by
  refine ⟨some ⟨b, 0, none⟩, 1, rfl, fun _ => ⟨b, 0, rfl⟩, fun b' off ho i x hx => ?_⟩
  cases ho
  cases i with
  | zero =>
    simp only [List.map_cons, List.map_nil, List.getElem?_cons_zero, Option.some.injEq] at hx
    subst hx
    exact cell_of_block h rfl
  | succ i => simp at hx

set_option linter.unusedVariables false in
set_option maxRecDepth 100000 in
set_option maxHeartbeats 4000000 in
theorem walk (W : World) (v0 : Value) (L : List Pk) (hp : PksAt W (fun b => b < W.heap.size) v0 L) (t : Int) (ht : inR t) (oa : Option Addr) (cap : Nat) (l : List RAct) (hr : RowsAt W 5 oa (l.map RAct.row)) (hok : ∀ a ∈ l, a.ok W) : Calls Tryz.prog 6 #[v0, .int .i64 t, .slice oa l.length cap] W fun e w' => e = .returned (.bool true) ∧ Chg (fun _ => False) W w' := by
  obtain ⟨TX, hK1, hK2, hw3, hw4⟩ := mod_k t
  have HWk := Lib.hid works_any
  have HRows := Lib.hid hr
  have HPv := Lib.hid hp
  obtain ⟨o0, c0, l0, hv0, -⟩ := id hp.is
  obtain ⟨N0, hN0⟩ : ∃ n, L.length = n := ⟨_, rfl⟩
  rw [hN0] at hv0
  subst hv0
  have HBl := Lib.hid (Blank.new 600 (by omega) (by omega))
  have HNew := Lib.hid (ds_new W W (Chg.refl _ _) 600 (by omega) (by omega))
  clear hr hok hp hN0 ht
  go_enter Tryz.func6, Tryz.ntmps6
  go_wp2_with (first
    | (go_at_call 25; fail))
  refine HNew.out.mono ?_
  rintro e w1 ⟨d, rfl, P, hd⟩
  have HO := Lib.hid (open_blank w1 hd HBl.out rfl)
  clear hd HNew
  dsimp only
  go_wp2_with (first
    | (go_at_call 24; fail))
  refine HO.out.mono ?_
  rintro e w2 ⟨r, rfl, Q, X, recs, a, m, hR, hlen, -, -⟩
  have HLvA := Lib.hid (show Lv W w2 r d (fun _ => False) nilS 1 from ⟨⟨Q, X, recs, 1, a, m, hR, Nat.le_refl _, by rw [hlen, DV.new_len]; exact of_decide_eq_true (by decide), fun _ h => h.elim⟩, fun _ h => h.elim⟩)
  clear hR hlen HO
  dsimp only
  go_wp2_with (first
    | (go_at_call 9; fail))
  refine (few_is w2 (HPv.out.fresh HLvA.out.chg)).mono ?_
  rintro e w3 ⟨v3, rfl, hp3, hc3⟩
  obtain ⟨LL, hLL⟩ : ∃ LL, fewF L = LL := ⟨_, rfl⟩
  rw [hLL] at hp3
  obtain ⟨o4, p4, l4, hv4, -⟩ := id hp3.is
  obtain ⟨n4, hn4⟩ : ∃ n, LL.length = n := ⟨_, rfl⟩
  rw [hn4] at hv4
  subst hv4
  have HLvB := Lib.hid (HLvA.out.more (G' := fun b => w2.heap.size ≤ b ∧ b < w3.heap.size) hc3 (fun b hb => Or.inr hb))
  have HP3 := Lib.hid hp3
  clear hc3 hp3 hLL
  dsimp only
  go_wp2_with (first
    | (go_at_call 19; fail))
  try rw [hw4]
  clear hw3 hw4
  by_cases hck : rchkF LL = 0
  · have hok : OnceOk TX LL := ⟨hK1, hK2, hck⟩
    refine (lv_stage w3 HLvB.out (by omega) (TX : Int) HP3.out (fun b hb => hb) hok.e1 (by simp [nilS])).mono ?_
    rintro e w4 ⟨rfl, hg⟩
    have HLvC := Lib.hid (show Lv W w4 r d _ (stageS nilS TX LL) _ from hg.lv)
    have HP4 := Lib.hid (HP3.out.kept hg.chg (fun b hb hn => hn hb))
    have HOk := Lib.hid hok
    clear hg hok
    dsimp only
    go_wp2_with (first
      | (go_at_call 20; fail))
    refine (lv_commit w4 HLvC.out (by omega) (TX : Int) HOk.out.e2 (by simp [nilS, stageS])).mono ?_
    rintro e w5 ⟨rfl, hg⟩
    have HLvD := Lib.hid (show Lv W w5 r d _ (onceS TX LL) _ from hg.lv)
    have HP5 := Lib.hid (HP4.out.kept hg.chg (fun b hb hn => hn hb))
    clear hg
    dsimp only
    go_wp2_with (first
      | (go_at_call 26; fail))
    obtain ⟨n1, hn1⟩ : ∃ n, (onceS TX LL).stack.length = n := ⟨_, rfl⟩
    obtain ⟨n2, hn2⟩ : ∃ n, (onceS TX LL).wants.length = n := ⟨_, rfl⟩
    obtain ⟨n3, hn3⟩ : ∃ n, (onceS TX LL).done.length = n := ⟨_, rfl⟩
    have HN1 := Lib.hid (And.intro hn1 (And.intro hn2 hn3))
    clear hn1 hn2 hn3
    obtain ⟨kbZ, FZ, svZ, wvZ, dvZ, hrk⟩ := (HLvD.out).is
    refine (state_is w5 hrk).mono ?_
    clear hrk
    rintro e w6 ⟨u1, u2, u3, rfl, hst2, hc2⟩
    obtain ⟨⟨x1, y1, e1⟩, ⟨x2, y2, e2⟩, ⟨x3, y3, e3⟩⟩ := hst2.slices
    subst e1; subst e2; subst e3
    rw [HN1.out.1, HN1.out.2.1, HN1.out.2.2] at hst2
    rw [show stV (.slice x1 (onceS TX LL).stack.length y1) (.slice x2 (onceS TX LL).wants.length y2) (.slice x3 (onceS TX LL).done.length y3) (onceS TX LL) = .agg #[.slice x1 n1 y1, .slice x2 n2 y2, .int .i64 0, .slice x3 n3 y3] by unfold stV; rw [HN1.out.1, HN1.out.2.1, HN1.out.2.2]; rfl]
    obtain ⟨w7, hw7⟩ : ∃ w', w6.alloc (.cells #[.slice x1 n1 y1, .slice x2 n2 y2, .int .i64 0, .slice x3 n3 y3] 59) = w' := ⟨_, rfl⟩
    have hc7 : Chg (fun _ => False) w6 w7 := by rw [← hw7]; exact (Chg.refl _ _).alloc _
    have hb7 : w7.heap[w6.heap.size]? = some (.cells #[.slice x1 n1 y1, .slice x2 n2 y2, .int .i64 0, .slice x3 n3 y3] 59 (0, 0)) := by rw [← hw7]; exact block_alloc_new w6 _
    have h67 := hc7.size
    have hl7 := lt_of_block hb7
    have h56 := hc2.size
    obtain ⟨G, hG⟩ : ∃ G : Nat → Prop, (fun b => (w2.heap.size ≤ b ∧ b < w3.heap.size) ∨ (w5.heap.size ≤ b ∧ b < w7.heap.size)) = G := ⟨_, rfl⟩
    have HLvE := Lib.hid (HLvD.out.more (G' := fun b => (w2.heap.size ≤ b ∧ b < w3.heap.size) ∨ (w5.heap.size ≤ b ∧ b < w7.heap.size)) (hc2.trans' hc7) (fun b hb => hb))
    have HWtE := Lib.hid (show WantAt w7 (fun b => (w2.heap.size ≤ b ∧ b < w3.heap.size) ∨ (w5.heap.size ≤ b ∧ b < w7.heap.size)) w6.heap.size _ _ _ (onceS TX LL) from ⟨(hst2.fresh hc7).wide (fun b hb => Or.inr ⟨hb.1, by omega⟩), hb7, Or.inr ⟨h56, hl7⟩⟩)
    have HP7 := Lib.hid (HP5.out.fresh (hc2.trans' hc7))
    clear hc2 hst2 hc7 hb7 h67 hl7 h56
    dsimp only
    go_upto_block 0 with fail
    try rw [hw7]
    obtain ⟨g, hg⟩ : ∃ g, w6.heap.size = g := ⟨_, rfl⟩
    rw [hg] at HWtE ⊢
    obtain ⟨B5, hB5⟩ : ∃ B, w5.heap.size = B := ⟨_, rfl⟩
    obtain ⟨B7, hB7⟩ : ∃ B, w7.heap.size = B := ⟨_, rfl⟩
    rw [hB5, hB7] at HWtE HLvE
    clear hw7 hg hB5 hB7
    have HLoc := Lib.hid (And.intro HLvA.out (And.intro HLvC.out HLvD.out))
    clear HLvA HLvB HLvC HLvD HP3 HP4 HP5 HBl
    go_cut [12] from 54 to 90 (fun _ wr => Lv W wr r d (fun b => (w2.heap.size ≤ b ∧ b < w3.heap.size) ∨ (B5 ≤ b ∧ b < B7)) (onceS TX LL) 14 ∧ WantAt wr (fun b => (w2.heap.size ≤ b ∧ b < w3.heap.size) ∨ (B5 ≤ b ∧ b < B7)) g (.slice x1 n1 y1) (.slice x2 n2 y2) (.slice x3 n3 y3) (onceS TX LL))
    case first =>
      go_wp2_with fail
      go_loopw [12] (fun j wr => ∃ (k : Nat), j = .int .i64 k ∧ k ≤ l.length ∧ k ≤ 10 ∧ Lv W wr r d (fun b => (w2.heap.size ≤ b ∧ b < w3.heap.size) ∨ (B5 ≤ b ∧ b < B7)) (onceS TX LL) (3 + k) ∧ WantAt wr (fun b => (w2.heap.size ≤ b ∧ b < w3.heap.size) ∨ (B5 ≤ b ∧ b < B7)) g (.slice x1 n1 y1) (.slice x2 n2 y2) (.slice x3 n3 y3) (onceS TX LL) ∧ PksAt wr (fun b => w2.heap.size ≤ b ∧ b < w3.heap.size) (.slice o4 n4 p4) LL) (fun j _ => 10 - (intOf j).toNat)
      · exact ⟨0, rfl, Nat.zero_le _, Nat.zero_le _, HLvE.out, HWtE.out, HP7.out⟩
      clear HLvE HWtE HP7 HLoc
      obtain ⟨k, rfl, hk, hk10, hLv, hWt, hP⟩ := hrel
      have HLv := Lib.hid hLv
      have HWt := Lib.hid hWt
      have HP := Lib.hid hP
      clear hLv hWt hP
      by_cases hlt : k < l.length
      · have hki : (k : Int) < (l.length : Int) := by omega
        by_cases h10 : k < 10
        · have hk1 : (k : Int) < 10 := by omega
          obtain ⟨ac, hac⟩ : ∃ x, l[k]? = some x := ⟨l[k], List.getElem?_eq_getElem hlt⟩
          obtain ⟨b0, off, rfl⟩ := HRows.out.spot (by intro e; rw [List.map_eq_nil_iff] at e; rw [e] at hlt; simp at hlt)
          have d0 : wr.cell? ⟨b0, off + k * 5, none⟩ = some (.int .i64 ac.kind) := HLv.out.chg.cell (HRows.out.cell b0 off rfl k _ 0 _ (by rw [List.getElem?_map, hac]; rfl) rfl) id
          obtain ⟨kd, hkd⟩ : ∃ z, ac.kind = z := ⟨_, rfl⟩
          rw [hkd] at d0
          clear hac hkd
          by_cases k0 : kd = 0
          · subst k0
            go_wp2_with (first
              | (go_at_call 19; fail))
            clear d0
            refine (lv_stage_early wr HLv.out (by omega) (TX : Int) HP.out (fun b hb => Or.inl hb) HOk.out.e3).mono ?_
            rintro e w5 ⟨rfl, hg5⟩
            have HLv5 := Lib.hid hg5.lv
            have HWt5 := Lib.hid (HWt.out.kept hg5.chg)
            have HP5 := Lib.hid (HP.out.kept hg5.chg (fun b hb hn => hn (Or.inl hb)))
            clear hg5
            dsimp only
            go_wp2_with fail
            have c0 : w5.cell? ⟨g, 0, none⟩ = some (.slice x1 n1 y1) := cell_of_block HWt5.out.cell rfl
            have c1 : w5.cell? ⟨g, 1, none⟩ = some (.slice x2 n2 y2) := cell_of_block HWt5.out.cell rfl
            have c2 : w5.cell? ⟨g, 2, none⟩ = some (.int .i64 0) := cell_of_block HWt5.out.cell rfl
            have c3 : w5.cell? ⟨g, 3, none⟩ = some (.slice x3 n3 y3) := cell_of_block HWt5.out.cell rfl
            refine wp_region_noPanic ?_
            refine wp_region_held_drew (S := (fun w' => w'.cell? ⟨g, 0, none⟩ = some (.slice x1 n1 y1) ∧ w'.cell? ⟨g, 1, none⟩ = some (.slice x2 n2 y2) ∧ w'.cell? ⟨g, 2, none⟩ = some (.int .i64 0) ∧ w'.cell? ⟨g, 3, none⟩ = some (.slice x3 n3 y3))) (by kernel_rfl) (⟨c0, c1, c2, c3⟩) (fun hHeld => ?_)
            refine tk 0 (v := ?_) hHeld rfl (fun w hSw => ?_) ?_
            rotate_left
            · (obtain ⟨hSw1, hSw2, hSw3, hSw4⟩ := hSw; go_simp)
              try with_reducible rfl
            simp only [Act.put, zA, zB, zC]
            refine tk 2 (v := ?_) hHeld rfl (fun w hSw => ?_) ?_
            rotate_left
            · (obtain ⟨hSw1, hSw2, hSw3, hSw4⟩ := hSw; go_simp)
              try with_reducible rfl
            simp only [Act.put, zA, zB, zC]
            refine on1 1 rfl (fun K hK => ?_)
            go_simp
            obtain ⟨kbZ, FZ, svZ, wvZ, dvZ, hrk⟩ := (HLv5.out.fresh (Chg.refl _ _).drew).is
            refine (state_is w5.drew hrk).mono ?_
            clear hrk
            rintro e w6 ⟨u1, u2, u3, rfl, hst2, hc2⟩
            obtain ⟨⟨a1, b1, e1⟩, ⟨a2, b2, e2⟩, ⟨a3, b3, e3⟩⟩ := hst2.slices
            subst e1; subst e2; subst e3
            rw [HN1.out.1, HN1.out.2.1, HN1.out.2.2] at hst2
            rw [show stV (.slice a1 (onceS TX LL).stack.length b1) (.slice a2 (onceS TX LL).wants.length b2) (.slice a3 (onceS TX LL).done.length b3) (onceS TX LL) = .agg #[.slice a1 n1 b1, .slice a2 n2 b2, .int .i64 0, .slice a3 n3 b3] by unfold stV; rw [HN1.out.1, HN1.out.2.1, HN1.out.2.2]; rfl]
            have HC6 := Lib.hid ((Chg.refl (fun _ => False) w5).drew.trans' hc2)
            have HS6 := Lib.hid hst2
            clear hc2 hst2
            refine hK _ _ (⟨HC6.out.cell c0 id, HC6.out.cell c1 id, HC6.out.cell c2 id, HC6.out.cell c3 id⟩) (fun hA1 => ?_)
            try simp only [Act.put, zA, zB, zC]
            refine on1 3 rfl (fun K hK => ?_)
            go_simp
            have hal := alike_is w6 HS6.out (HWt5.out.fresh HC6.out).st
            rw [RS.alike_self] at hal
            refine (show Calls Tryz.prog 27 #[.agg #[.slice a1 n1 b1, .slice a2 n2 b2, .int .i64 0, .slice a3 n3 b3], .agg #[.slice x1 n1 y1, .slice x2 n2 y2, .int .i64 0, .slice x3 n3 y3]] w6 _ from hal).mono ?_
            clear hal
            rintro e w7 ⟨rfl, hc7⟩
            have HC7 := Lib.hid (HC6.out.trans' hc7)
            clear hc7
            refine hK _ _ (⟨HC7.out.cell c0 id, HC7.out.cell c1 id, HC7.out.cell c2 id, HC7.out.cell c3 id⟩) (fun hA2 => ?_)
            try simp only [Act.put, zA, zB, zC]
            refine tk 4 (v := ?_) hA2 rfl (fun w hSw => ?_) ?_
            rotate_left
            · go_simp
              try with_reducible rfl
            simp only [Act.put, zA, zB, zC]
            refine wpAnyH_done (by kernel_rfl) ?_ _
            refine NoPanic.normal ?_
            clear hHeld hA1 hA2 c0 c1 c2 c3
            go_wp2_with fail
            exact ⟨⟨k + 1, by go_num, hlt, h10, (HLv5.out.fresh HC7.out).mono (by omega), HWt5.out.fresh HC7.out, HP5.out.fresh HC7.out⟩, meas_step h10⟩
          · by_cases k1 : kd = 1
            · subst k1
              go_wp2_with (first
                | (go_at_call 20; fail))
              clear d0
              refine (lv_commit_early wr HLv.out (by omega) (by simp [onceS]) (TX : Int) HOk.out.e4).mono ?_
              rintro e w5 ⟨rfl, hg5⟩
              have HLv5 := Lib.hid hg5.lv
              have HWt5 := Lib.hid (HWt.out.kept hg5.chg)
              have HP5 := Lib.hid (HP.out.kept hg5.chg (fun b hb hn => hn (Or.inl hb)))
              clear hg5
              dsimp only
              go_wp2_with fail
              have c0 : w5.cell? ⟨g, 0, none⟩ = some (.slice x1 n1 y1) := cell_of_block HWt5.out.cell rfl
              have c1 : w5.cell? ⟨g, 1, none⟩ = some (.slice x2 n2 y2) := cell_of_block HWt5.out.cell rfl
              have c2 : w5.cell? ⟨g, 2, none⟩ = some (.int .i64 0) := cell_of_block HWt5.out.cell rfl
              have c3 : w5.cell? ⟨g, 3, none⟩ = some (.slice x3 n3 y3) := cell_of_block HWt5.out.cell rfl
              refine wp_region_noPanic ?_
              refine wp_region_held_drew (S := (fun w' => w'.cell? ⟨g, 0, none⟩ = some (.slice x1 n1 y1) ∧ w'.cell? ⟨g, 1, none⟩ = some (.slice x2 n2 y2) ∧ w'.cell? ⟨g, 2, none⟩ = some (.int .i64 0) ∧ w'.cell? ⟨g, 3, none⟩ = some (.slice x3 n3 y3))) (by kernel_rfl) (⟨c0, c1, c2, c3⟩) (fun hHeld => ?_)
              refine tk 0 (v := ?_) hHeld rfl (fun w hSw => ?_) ?_
              rotate_left
              · (obtain ⟨hSw1, hSw2, hSw3, hSw4⟩ := hSw; go_simp)
                try with_reducible rfl
              simp only [Act.put, zA, zB, zC]
              refine tk 2 (v := ?_) hHeld rfl (fun w hSw => ?_) ?_
              rotate_left
              · (obtain ⟨hSw1, hSw2, hSw3, hSw4⟩ := hSw; go_simp)
                try with_reducible rfl
              simp only [Act.put, zA, zB, zC]
              refine on1 1 rfl (fun K hK => ?_)
              go_simp
              obtain ⟨kbZ, FZ, svZ, wvZ, dvZ, hrk⟩ := (HLv5.out.fresh (Chg.refl _ _).drew).is
              refine (state_is w5.drew hrk).mono ?_
              clear hrk
              rintro e w6 ⟨u1, u2, u3, rfl, hst2, hc2⟩
              obtain ⟨⟨a1, b1, e1⟩, ⟨a2, b2, e2⟩, ⟨a3, b3, e3⟩⟩ := hst2.slices
              subst e1; subst e2; subst e3
              rw [HN1.out.1, HN1.out.2.1, HN1.out.2.2] at hst2
              rw [show stV (.slice a1 (onceS TX LL).stack.length b1) (.slice a2 (onceS TX LL).wants.length b2) (.slice a3 (onceS TX LL).done.length b3) (onceS TX LL) = .agg #[.slice a1 n1 b1, .slice a2 n2 b2, .int .i64 0, .slice a3 n3 b3] by unfold stV; rw [HN1.out.1, HN1.out.2.1, HN1.out.2.2]; rfl]
              have HC6 := Lib.hid ((Chg.refl (fun _ => False) w5).drew.trans' hc2)
              have HS6 := Lib.hid hst2
              clear hc2 hst2
              refine hK _ _ (⟨HC6.out.cell c0 id, HC6.out.cell c1 id, HC6.out.cell c2 id, HC6.out.cell c3 id⟩) (fun hA1 => ?_)
              try simp only [Act.put, zA, zB, zC]
              refine on1 3 rfl (fun K hK => ?_)
              go_simp
              have hal := alike_is w6 HS6.out (HWt5.out.fresh HC6.out).st
              rw [RS.alike_self] at hal
              refine (show Calls Tryz.prog 27 #[.agg #[.slice a1 n1 b1, .slice a2 n2 b2, .int .i64 0, .slice a3 n3 b3], .agg #[.slice x1 n1 y1, .slice x2 n2 y2, .int .i64 0, .slice x3 n3 y3]] w6 _ from hal).mono ?_
              clear hal
              rintro e w7 ⟨rfl, hc7⟩
              have HC7 := Lib.hid (HC6.out.trans' hc7)
              clear hc7
              refine hK _ _ (⟨HC7.out.cell c0 id, HC7.out.cell c1 id, HC7.out.cell c2 id, HC7.out.cell c3 id⟩) (fun hA2 => ?_)
              try simp only [Act.put, zA, zB, zC]
              refine tk 4 (v := ?_) hA2 rfl (fun w hSw => ?_) ?_
              rotate_left
              · go_simp
                try with_reducible rfl
              simp only [Act.put, zA, zB, zC]
              refine wpAnyH_done (by kernel_rfl) ?_ _
              refine NoPanic.normal ?_
              clear hHeld hA1 hA2 c0 c1 c2 c3
              go_wp2_with fail
              exact ⟨⟨k + 1, by go_num, hlt, h10, (HLv5.out.fresh HC7.out).mono (by omega), HWt5.out.fresh HC7.out, HP5.out.fresh HC7.out⟩, meas_step h10⟩
            · have k0b : (kd == 0) = false := by simpa using k0
              have k1b : (kd == 1) = false := by simpa using k1
              go_wp2_with (first
                | (go_at_call 21; fail))
              clear d0
              refine (lv_abort_early wr HLv.out (by omega) (TX : Int) HOk.out.e5).mono ?_
              rintro e w5 ⟨rfl, hg5⟩
              have HLv5 := Lib.hid hg5.lv
              have HWt5 := Lib.hid (HWt.out.kept hg5.chg)
              have HP5 := Lib.hid (HP.out.kept hg5.chg (fun b hb hn => hn (Or.inl hb)))
              clear hg5
              dsimp only
              go_wp2_with fail
              have c0 : w5.cell? ⟨g, 0, none⟩ = some (.slice x1 n1 y1) := cell_of_block HWt5.out.cell rfl
              have c1 : w5.cell? ⟨g, 1, none⟩ = some (.slice x2 n2 y2) := cell_of_block HWt5.out.cell rfl
              have c2 : w5.cell? ⟨g, 2, none⟩ = some (.int .i64 0) := cell_of_block HWt5.out.cell rfl
              have c3 : w5.cell? ⟨g, 3, none⟩ = some (.slice x3 n3 y3) := cell_of_block HWt5.out.cell rfl
              refine wp_region_noPanic ?_
              refine wp_region_held_drew (S := (fun w' => w'.cell? ⟨g, 0, none⟩ = some (.slice x1 n1 y1) ∧ w'.cell? ⟨g, 1, none⟩ = some (.slice x2 n2 y2) ∧ w'.cell? ⟨g, 2, none⟩ = some (.int .i64 0) ∧ w'.cell? ⟨g, 3, none⟩ = some (.slice x3 n3 y3))) (by kernel_rfl) (⟨c0, c1, c2, c3⟩) (fun hHeld => ?_)
              refine tk 0 (v := ?_) hHeld rfl (fun w hSw => ?_) ?_
              rotate_left
              · (obtain ⟨hSw1, hSw2, hSw3, hSw4⟩ := hSw; go_simp)
                try with_reducible rfl
              simp only [Act.put, zA, zB, zC]
              refine tk 2 (v := ?_) hHeld rfl (fun w hSw => ?_) ?_
              rotate_left
              · (obtain ⟨hSw1, hSw2, hSw3, hSw4⟩ := hSw; go_simp)
                try with_reducible rfl
              simp only [Act.put, zA, zB, zC]
              refine on1 1 rfl (fun K hK => ?_)
              go_simp
              obtain ⟨kbZ, FZ, svZ, wvZ, dvZ, hrk⟩ := (HLv5.out.fresh (Chg.refl _ _).drew).is
              refine (state_is w5.drew hrk).mono ?_
              clear hrk
              rintro e w6 ⟨u1, u2, u3, rfl, hst2, hc2⟩
              obtain ⟨⟨a1, b1, e1⟩, ⟨a2, b2, e2⟩, ⟨a3, b3, e3⟩⟩ := hst2.slices
              subst e1; subst e2; subst e3
              rw [HN1.out.1, HN1.out.2.1, HN1.out.2.2] at hst2
              rw [show stV (.slice a1 (onceS TX LL).stack.length b1) (.slice a2 (onceS TX LL).wants.length b2) (.slice a3 (onceS TX LL).done.length b3) (onceS TX LL) = .agg #[.slice a1 n1 b1, .slice a2 n2 b2, .int .i64 0, .slice a3 n3 b3] by unfold stV; rw [HN1.out.1, HN1.out.2.1, HN1.out.2.2]; rfl]
              have HC6 := Lib.hid ((Chg.refl (fun _ => False) w5).drew.trans' hc2)
              have HS6 := Lib.hid hst2
              clear hc2 hst2
              refine hK _ _ (⟨HC6.out.cell c0 id, HC6.out.cell c1 id, HC6.out.cell c2 id, HC6.out.cell c3 id⟩) (fun hA1 => ?_)
              try simp only [Act.put, zA, zB, zC]
              refine on1 3 rfl (fun K hK => ?_)
              go_simp
              have hal := alike_is w6 HS6.out (HWt5.out.fresh HC6.out).st
              rw [RS.alike_self] at hal
              refine (show Calls Tryz.prog 27 #[.agg #[.slice a1 n1 b1, .slice a2 n2 b2, .int .i64 0, .slice a3 n3 b3], .agg #[.slice x1 n1 y1, .slice x2 n2 y2, .int .i64 0, .slice x3 n3 y3]] w6 _ from hal).mono ?_
              clear hal
              rintro e w7 ⟨rfl, hc7⟩
              have HC7 := Lib.hid (HC6.out.trans' hc7)
              clear hc7
              refine hK _ _ (⟨HC7.out.cell c0 id, HC7.out.cell c1 id, HC7.out.cell c2 id, HC7.out.cell c3 id⟩) (fun hA2 => ?_)
              try simp only [Act.put, zA, zB, zC]
              refine tk 4 (v := ?_) hA2 rfl (fun w hSw => ?_) ?_
              rotate_left
              · go_simp
                try with_reducible rfl
              simp only [Act.put, zA, zB, zC]
              refine wpAnyH_done (by kernel_rfl) ?_ _
              refine NoPanic.normal ?_
              clear hHeld hA1 hA2 c0 c1 c2 c3
              go_wp2_with fail
              exact ⟨⟨k + 1, by go_num, hlt, h10, (HLv5.out.fresh HC7.out).mono (by omega), HWt5.out.fresh HC7.out, HP5.out.fresh HC7.out⟩, meas_step h10⟩
        · have hk1 : ¬ (k : Int) < 10 := by omega
          go_wp2_with fail
          go_meet
          case rel => exact ⟨HLv.out.mono (by omega), HWt.out⟩
      · have hki : ¬ (k : Int) < (l.length : Int) := by omega
        go_wp2_with fail
        go_meet
        case rel => exact ⟨HLv.out.mono (by omega), HWt.out⟩
    case rest =>
      obtain ⟨hLv, hWt⟩ := hcut
      have HLv := Lib.hid hLv
      have HWt := Lib.hid hWt
      clear hLv hWt HLvE HWtE HP7 HLoc
      obtain ⟨wr, hwr⟩ : ∃ wr, wc = wr := ⟨_, rfl⟩
      rw [hwr] at HLv HWt ⊢
      clear hwr
      have hwr : IntKind.i64.wrap ((TX : Int) + 1) = ((TX + 1 : Nat) : Int) := by rw [wrap_small _ (by omega) (by omega)]; omega
      have HWr := Lib.hid hwr
      clear hwr
      have HWt0 := Lib.hid (HWt.out.fresh (Chg.refl _ _).drew)
      have HLv0 := Lib.hid (HLv.out.fresh (Chg.refl _ _).drew)
      go_wp2_with fail
      refine wp_region_noPanic ?_
      refine wp_region_held_drew (S := (fun w' => w'.cell? ⟨g, 0, none⟩ = some (.slice x1 n1 y1) ∧ w'.cell? ⟨g, 1, none⟩ = some (.slice x2 n2 y2) ∧ w'.cell? ⟨g, 2, none⟩ = some (.int .i64 0) ∧ w'.cell? ⟨g, 3, none⟩ = some (.slice x3 n3 y3))) (by kernel_rfl) (⟨cell_of_block HWt.out.cell rfl, cell_of_block HWt.out.cell rfl, cell_of_block HWt.out.cell rfl, cell_of_block HWt.out.cell rfl⟩) (fun hHeld => ?_)
      refine tk 0 (v := ?_) hHeld rfl (fun w hSw => ?_) ?_
      rotate_left
      · go_simp
        try with_reducible rfl
      simp only [Act.put, zA, zB, zC]
      refine tk 1 (v := ?_) hHeld rfl (fun w hSw => ?_) ?_
      rotate_left
      · go_simp
        try with_reducible rfl
      simp only [Act.put, zA, zB, zC]
      refine tk 2 (v := ?_) hHeld rfl (fun w hSw => ?_) ?_
      rotate_left
      · go_simp
        try with_reducible rfl
      simp only [Act.put, zA, zB, zC]
      refine on1 3 rfl (fun K hK => ?_)
      go_simp
      try rw [HWr.out]
      refine (lv_stage wr.drew HLv0.out (by omega) ((TX + 1 : Nat) : Int) (PksAt.nil _ (fun _ => False)) (fun b hb => hb.elim) HOk.out.e6 (by simp [onceS])).mono ?_
      rintro e wa ⟨rfl, hg⟩
      have HLv1 := Lib.hid hg.lv
      have HWt1 := Lib.hid (HWt0.out.kept hg.chg)
      clear hg
      refine hK _ _ (⟨cell_of_block HWt1.out.cell rfl, cell_of_block HWt1.out.cell rfl, cell_of_block HWt1.out.cell rfl, cell_of_block HWt1.out.cell rfl⟩) (fun hB1 => ?_)
      try simp only [Act.put, zA, zB, zC]
      refine tk 4 (v := ?_) hB1 rfl (fun w hSw => ?_) ?_
      rotate_left
      · go_simp
        try with_reducible rfl
      simp only [Act.put, zA, zB, zC]
      refine tk 5 (v := ?_) hB1 rfl (fun w hSw => ?_) ?_
      rotate_left
      · go_simp
        try with_reducible rfl
      simp only [Act.put, zA, zB, zC]
      refine tk 6 (v := ?_) hB1 rfl (fun w hSw => ?_) ?_
      rotate_left
      · go_simp
        try with_reducible rfl
      simp only [Act.put, zA, zB, zC]
      refine tk 7 (v := ?_) hB1 rfl (fun w hSw => ?_) ?_
      rotate_left
      · go_simp
        try with_reducible rfl
      simp only [Act.put, zA, zB, zC]
      refine tk 8 (v := ?_) hB1 rfl (fun w hSw => ?_) ?_
      rotate_left
      · go_simp
        try with_reducible rfl
      simp only [Act.put, zA, zB, zC]
      refine on1 9 rfl (fun K hK => ?_)
      go_simp
      try rw [HWr.out]
      refine (lv_abort wa (show Lv W wa r d _ (stageS (onceS TX LL) (TX + 1) []) _ from HLv1.out) (by omega) ((TX + 1 : Nat) : Int) HOk.out.e7 (by simp [onceS, stageS])).mono ?_
      rintro e wb ⟨rfl, hg⟩
      have HLv2 := Lib.hid hg.lv
      have HWt2 := Lib.hid (HWt1.out.kept hg.chg)
      clear hg
      refine hK _ _ (⟨cell_of_block HWt2.out.cell rfl, cell_of_block HWt2.out.cell rfl, cell_of_block HWt2.out.cell rfl, cell_of_block HWt2.out.cell rfl⟩) (fun hB2 => ?_)
      try simp only [Act.put, zA, zB, zC]
      refine tk 10 (v := ?_) hB2 rfl (fun w hSw => ?_) ?_
      rotate_left
      · go_simp
        try with_reducible rfl
      simp only [Act.put, zA, zB, zC]
      refine tk 11 (v := ?_) hB2 rfl (fun w hSw => ?_) ?_
      rotate_left
      · go_simp
        try with_reducible rfl
      simp only [Act.put, zA, zB, zC]
      refine tk 12 (v := ?_) hB2 rfl (fun w hSw => ?_) ?_
      rotate_left
      · go_simp
        try with_reducible rfl
      simp only [Act.put, zA, zB, zC]
      refine tk 13 (v := ?_) hB2 rfl (fun w hSw => ?_) ?_
      rotate_left
      · go_simp
        try with_reducible rfl
      simp only [Act.put, zA, zB, zC]
      refine tk 14 (v := ?_) hB2 rfl (fun w hSw => ?_) ?_
      rotate_left
      · go_simp
        try with_reducible rfl
      simp only [Act.put, zA, zB, zC]
      refine tk 15 (v := ?_) hB2 rfl (fun w hSw => ?_) ?_
      rotate_left
      · go_simp
        try with_reducible rfl
      simp only [Act.put, zA, zB, zC]
      refine on1 16 rfl (fun K hK => ?_)
      go_simp
      try rw [HWr.out]
      refine (lv_abort_early wb (show Lv W wb r d _ (onceS TX LL) _ from HLv2.out) (by omega) ((TX + 1 : Nat) : Int) HOk.out.e8).mono ?_
      rintro e wc ⟨rfl, hg⟩
      have HLv3 := Lib.hid hg.lv
      have HWt3 := Lib.hid (HWt2.out.kept hg.chg)
      clear hg
      refine hK _ _ (⟨cell_of_block HWt3.out.cell rfl, cell_of_block HWt3.out.cell rfl, cell_of_block HWt3.out.cell rfl, cell_of_block HWt3.out.cell rfl⟩) (fun hB3 => ?_)
      try simp only [Act.put, zA, zB, zC]
      refine tk 17 (v := ?_) hB3 rfl (fun w hSw => ?_) ?_
      rotate_left
      · go_simp
        try with_reducible rfl
      simp only [Act.put, zA, zB, zC]
      refine tk 18 (v := ?_) hB3 rfl (fun w hSw => ?_) ?_
      rotate_left
      · go_simp
        try with_reducible rfl
      simp only [Act.put, zA, zB, zC]
      refine tk 19 (v := ?_) hB3 rfl (fun w hSw => ?_) ?_
      rotate_left
      · go_simp
        try with_reducible rfl
      simp only [Act.put, zA, zB, zC]
      refine tk 20 (v := ?_) hB3 rfl (fun w hSw => ?_) ?_
      rotate_left
      · go_simp
        try with_reducible rfl
      simp only [Act.put, zA, zB, zC]
      refine tk 21 (v := ?_) hB3 rfl (fun w hSw => ?_) ?_
      rotate_left
      · go_simp
        try with_reducible rfl
      simp only [Act.put, zA, zB, zC]
      refine tk 22 (v := ?_) hB3 rfl (fun w hSw => ?_) ?_
      rotate_left
      · go_simp
        try with_reducible rfl
      simp only [Act.put, zA, zB, zC]
      refine on1 23 rfl (fun K hK => ?_)
      go_simp
      try rw [HWr.out]
      refine (lv_commit_early wc HLv3.out (by omega) (by simp [onceS]) ((TX + 1 : Nat) : Int) HOk.out.e9).mono ?_
      rintro e wd ⟨rfl, hg⟩
      have HLv4 := Lib.hid hg.lv
      have HWt4 := Lib.hid (HWt3.out.kept hg.chg)
      clear hg
      refine hK _ _ (⟨cell_of_block HWt4.out.cell rfl, cell_of_block HWt4.out.cell rfl, cell_of_block HWt4.out.cell rfl, cell_of_block HWt4.out.cell rfl⟩) (fun hB4 => ?_)
      try simp only [Act.put, zA, zB, zC]
      refine tk 24 (v := ?_) hB4 rfl (fun w hSw => ?_) ?_
      rotate_left
      · go_simp
        try with_reducible rfl
      simp only [Act.put, zA, zB, zC]
      refine tk 25 (v := ?_) hB4 rfl (fun w hSw => ?_) ?_
      rotate_left
      · go_simp
        try with_reducible rfl
      simp only [Act.put, zA, zB, zC]
      refine tk 26 (v := ?_) hB4 rfl (fun w hSw => ?_) ?_
      rotate_left
      · go_simp
        try with_reducible rfl
      simp only [Act.put, zA, zB, zC]
      refine tk 27 (v := ?_) hB4 rfl (fun w hSw => ?_) ?_
      rotate_left
      · go_simp
        try with_reducible rfl
      simp only [Act.put, zA, zB, zC]
      refine tk 29 (v := ?_) hB4 rfl (fun w hSw => ?_) ?_
      rotate_left
      · (obtain ⟨hSw1, hSw2, hSw3, hSw4⟩ := hSw; go_simp)
        try with_reducible rfl
      simp only [Act.put, zA, zB, zC]
      refine on1 28 rfl (fun K hK => ?_)
      go_simp
      obtain ⟨kbZ, FZ, svZ, wvZ, dvZ, hrk⟩ := (HLv4.out).is
      refine (state_is wd hrk).mono ?_
      clear hrk
      rintro e we ⟨u1, u2, u3, rfl, hst2, hc2⟩
      obtain ⟨⟨a1, b1, e1⟩, ⟨a2, b2, e2⟩, ⟨a3, b3, e3⟩⟩ := hst2.slices
      subst e1; subst e2; subst e3
      rw [HN1.out.1, HN1.out.2.1, HN1.out.2.2] at hst2
      rw [show stV (.slice a1 (onceS TX LL).stack.length b1) (.slice a2 (onceS TX LL).wants.length b2) (.slice a3 (onceS TX LL).done.length b3) (onceS TX LL) = .agg #[.slice a1 n1 b1, .slice a2 n2 b2, .int .i64 0, .slice a3 n3 b3] by unfold stV; rw [HN1.out.1, HN1.out.2.1, HN1.out.2.2]; rfl]
      have HWt5 := Lib.hid (HWt4.out.fresh hc2)
      have HLv5 := Lib.hid (HLv4.out.fresh hc2)
      have HS5 := Lib.hid hst2
      clear hc2 hst2
      refine hK _ _ (⟨cell_of_block HWt5.out.cell rfl, cell_of_block HWt5.out.cell rfl, cell_of_block HWt5.out.cell rfl, cell_of_block HWt5.out.cell rfl⟩) (fun hB5 => ?_)
      try simp only [Act.put, zA, zB, zC]
      refine on1 30 rfl (fun K hK => ?_)
      go_simp
      have hal := alike_is we HS5.out HWt5.out.st
      rw [RS.alike_self] at hal
      refine (show Calls Tryz.prog 27 #[.agg #[.slice a1 n1 b1, .slice a2 n2 b2, .int .i64 0, .slice a3 n3 b3], .agg #[.slice x1 n1 y1, .slice x2 n2 y2, .int .i64 0, .slice x3 n3 y3]] we _ from hal).mono ?_
      clear hal
      rintro e wf ⟨rfl, hc7⟩
      have HWt6 := Lib.hid (HWt5.out.fresh hc7)
      have HLv6 := Lib.hid (HLv5.out.fresh hc7)
      clear hc7
      refine hK _ _ (⟨cell_of_block HWt6.out.cell rfl, cell_of_block HWt6.out.cell rfl, cell_of_block HWt6.out.cell rfl, cell_of_block HWt6.out.cell rfl⟩) (fun hB6 => ?_)
      try simp only [Act.put, zA, zB, zC]
      refine tk 31 (v := ?_) hB6 rfl (fun w hSw => ?_) ?_
      rotate_left
      · go_simp
        try with_reducible rfl
      simp only [Act.put, zA, zB, zC]
      refine tk 32 (v := ?_) hB6 rfl (fun w hSw => ?_) ?_
      rotate_left
      · go_simp
        try with_reducible rfl
      simp only [Act.put, zA, zB, zC]
      refine wpAnyH_done (by kernel_rfl) ?_ _
      refine NoPanic.normal ?_
      clear hHeld hB1 hB2 hB3 hB4 hB5 hB6
      go_wp2_with (first
        | (go_at_call 24; fail))
      refine (lv_open wf HLv6.out (by omega) (by simp [onceS])).mono ?_
      rintro e wg ⟨r2, rfl, hg⟩
      have HLv7 := Lib.hid hg.lv
      have HWt7 := Lib.hid (HWt6.out.kept hg.chg)
      clear hg
      dsimp only
      go_wp2_with fail
      have HWt8 := Lib.hid (HWt7.out.fresh (Chg.refl _ _).drew)
      have HLv8 := Lib.hid (HLv7.out.fresh (Chg.refl _ _).drew)
      refine wp_region_noPanic ?_
      refine wp_region_held_drew (S := (fun w' => w'.cell? ⟨g, 0, none⟩ = some (.slice x1 n1 y1) ∧ w'.cell? ⟨g, 1, none⟩ = some (.slice x2 n2 y2) ∧ w'.cell? ⟨g, 2, none⟩ = some (.int .i64 0) ∧ w'.cell? ⟨g, 3, none⟩ = some (.slice x3 n3 y3))) (by kernel_rfl) (⟨cell_of_block HWt7.out.cell rfl, cell_of_block HWt7.out.cell rfl, cell_of_block HWt7.out.cell rfl, cell_of_block HWt7.out.cell rfl⟩) (fun hHeld => ?_)
      refine tk 0 (v := ?_) hHeld rfl (fun w hSw => ?_) ?_
      rotate_left
      · go_simp
        try with_reducible rfl
      simp only [Act.put, zA, zB, zC]
      refine tk 1 (v := ?_) hHeld rfl (fun w hSw => ?_) ?_
      rotate_left
      · go_simp
        try with_reducible rfl
      simp only [Act.put, zA, zB, zC]
      refine tk 2 (v := ?_) hHeld rfl (fun w hSw => ?_) ?_
      rotate_left
      · go_simp
        try with_reducible rfl
      simp only [Act.put, zA, zB, zC]
      refine tk 3 (v := ?_) hHeld rfl (fun w hSw => ?_) ?_
      rotate_left
      · go_simp
        try with_reducible rfl
      simp only [Act.put, zA, zB, zC]
      refine tk 5 (v := ?_) hHeld rfl (fun w hSw => ?_) ?_
      rotate_left
      · (obtain ⟨hSw1, hSw2, hSw3, hSw4⟩ := hSw; go_simp)
        try with_reducible rfl
      simp only [Act.put, zA, zB, zC]
      refine on1 4 rfl (fun K hK => ?_)
      go_simp
      obtain ⟨kbZ, FZ, svZ, wvZ, dvZ, hrk⟩ := (HLv8.out).is
      refine (state_is wg.drew hrk).mono ?_
      clear hrk
      rintro e wh ⟨u1, u2, u3, rfl, hst2, hc2⟩
      obtain ⟨⟨a1, b1, e1⟩, ⟨a2, b2, e2⟩, ⟨a3, b3, e3⟩⟩ := hst2.slices
      subst e1; subst e2; subst e3
      rw [HN1.out.1, HN1.out.2.1, HN1.out.2.2] at hst2
      rw [show stV (.slice a1 (onceS TX LL).stack.length b1) (.slice a2 (onceS TX LL).wants.length b2) (.slice a3 (onceS TX LL).done.length b3) (onceS TX LL) = .agg #[.slice a1 n1 b1, .slice a2 n2 b2, .int .i64 0, .slice a3 n3 b3] by unfold stV; rw [HN1.out.1, HN1.out.2.1, HN1.out.2.2]; rfl]
      have HWt9 := Lib.hid (HWt8.out.fresh hc2)
      have HLv9 := Lib.hid (HLv8.out.fresh hc2)
      have HS9 := Lib.hid hst2
      clear hc2 hst2
      refine hK _ _ (⟨cell_of_block HWt9.out.cell rfl, cell_of_block HWt9.out.cell rfl, cell_of_block HWt9.out.cell rfl, cell_of_block HWt9.out.cell rfl⟩) (fun hB1 => ?_)
      try simp only [Act.put, zA, zB, zC]
      refine on1 6 rfl (fun K hK => ?_)
      go_simp
      have hal := alike_is wh HS9.out HWt9.out.st
      rw [RS.alike_self] at hal
      refine (show Calls Tryz.prog 27 #[.agg #[.slice a1 n1 b1, .slice a2 n2 b2, .int .i64 0, .slice a3 n3 b3], .agg #[.slice x1 n1 y1, .slice x2 n2 y2, .int .i64 0, .slice x3 n3 y3]] wh _ from hal).mono ?_
      clear hal
      rintro e wi ⟨rfl, hc7⟩
      have HWt10 := Lib.hid (HWt9.out.fresh hc7)
      have HLv10 := Lib.hid (HLv9.out.fresh hc7)
      clear hc7
      refine hK _ _ (⟨cell_of_block HWt10.out.cell rfl, cell_of_block HWt10.out.cell rfl, cell_of_block HWt10.out.cell rfl, cell_of_block HWt10.out.cell rfl⟩) (fun hB2 => ?_)
      try simp only [Act.put, zA, zB, zC]
      refine tk 7 (v := ?_) hB2 rfl (fun w hSw => ?_) ?_
      rotate_left
      · go_simp
        try with_reducible rfl
      simp only [Act.put, zA, zB, zC]
      refine tk 8 (v := ?_) hB2 rfl (fun w hSw => ?_) ?_
      rotate_left
      · go_simp
        try with_reducible rfl
      simp only [Act.put, zA, zB, zC]
      refine tk 9 (v := ?_) hB2 rfl (fun w hSw => ?_) ?_
      rotate_left
      · go_simp
        try with_reducible rfl
      simp only [Act.put, zA, zB, zC]
      refine tk 10 (v := ?_) hB2 rfl (fun w hSw => ?_) ?_
      rotate_left
      · (obtain ⟨hSw1, hSw2, hSw3, hSw4⟩ := hSw; go_simp)
        try with_reducible rfl
      simp only [Act.put, zA, zB, zC]
      refine tk 11 (v := ?_) hB2 rfl (fun w hSw => ?_) ?_
      rotate_left
      · go_simp
        try with_reducible rfl
      simp only [Act.put, zA, zB, zC]
      refine on1 12 rfl (fun K hK => ?_)
      go_simp
      obtain ⟨wj, hwj⟩ : ∃ wj, wi.alloc (.cells #[.int .i64 (TX : Int)] 3) = wj := ⟨_, rfl⟩
      have hcj : Chg (fun _ => False) wi wj := by rw [← hwj]; exact (Chg.refl _ _).alloc _
      have hbj : wj.heap[wi.heap.size]? = some (.cells #[.int .i64 (TX : Int)] 3 (0, 0)) := by rw [← hwj]; exact block_alloc_new wi _
      rw [hwj]
      have HWt11 := Lib.hid (HWt10.out.fresh hcj)
      have HLv11 := Lib.hid (HLv10.out.fresh hcj)
      have HBj := Lib.hid hbj
      clear hwj hcj hbj
      refine hK _ _ (⟨cell_of_block HWt11.out.cell rfl, cell_of_block HWt11.out.cell rfl, cell_of_block HWt11.out.cell rfl, cell_of_block HWt11.out.cell rfl⟩) (fun hB3 => ?_)
      try simp only [Act.put, zA, zB, zC]
      refine on1 13 rfl (fun K hK => ?_)
      go_simp
      obtain ⟨bz, hbz⟩ := HWt11.out.st.done
      have hone : SlAt wj (.slice (some ⟨wi.heap.size, 0, none⟩) 1 1) ([TX].map (fun n : Nat => Value.int .i64 (n : Int))) := one_at HBj.out
      have hnm := nums_same wj (SlAt.of_own hbz : NumsAt wj _ (onceS TX LL).done) hone (by simp [onceS])
      rw [show decide ((onceS TX LL).done = [TX]) = true from decide_eq_true rfl] at hnm
      refine hnm.mono ?_
      clear hnm hone hbz
      rintro e wk ⟨rfl, hck⟩
      have HWt12 := Lib.hid (HWt11.out.fresh hck)
      have HLv12 := Lib.hid (HLv11.out.fresh hck)
      clear hck
      refine hK _ _ (⟨cell_of_block HWt12.out.cell rfl, cell_of_block HWt12.out.cell rfl, cell_of_block HWt12.out.cell rfl, cell_of_block HWt12.out.cell rfl⟩) (fun hB4 => ?_)
      try simp only [Act.put, zA, zB, zC]
      refine tk 14 (v := ?_) hB4 rfl (fun w hSw => ?_) ?_
      rotate_left
      · go_simp
        try with_reducible rfl
      simp only [Act.put, zA, zB, zC]
      refine tk 15 (v := ?_) hB4 rfl (fun w hSw => ?_) ?_
      rotate_left
      · go_simp
        try with_reducible rfl
      simp only [Act.put, zA, zB, zC]
      refine on1 16 rfl (fun K hK => ?_)
      go_simp
      refine (HWk.out wk).mono ?_
      rintro e wl ⟨rfl, hcl⟩
      have HLv13 := Lib.hid (HLv12.out.fresh hcl)
      refine hK _ _ (⟨cell_of_block (Lib.hid (HWt12.out.fresh hcl)).out.cell rfl, cell_of_block (Lib.hid (HWt12.out.fresh hcl)).out.cell rfl, cell_of_block (Lib.hid (HWt12.out.fresh hcl)).out.cell rfl, cell_of_block (Lib.hid (HWt12.out.fresh hcl)).out.cell rfl⟩) (fun hB5 => ?_)
      try simp only [Act.put, zA, zB, zC]
      refine tk 17 (v := ?_) hB5 rfl (fun w hSw => ?_) ?_
      rotate_left
      · go_simp
        try with_reducible rfl
      simp only [Act.put, zA, zB, zC]
      refine tk 18 (v := ?_) hB5 rfl (fun w hSw => ?_) ?_
      rotate_left
      · go_simp
        try with_reducible rfl
      simp only [Act.put, zA, zB, zC]
      refine wpAnyH_done (by kernel_rfl) ?_ _
      refine NoPanic.normal ?_
      first
        | go_ret
        | (go_wp2_with fail; go_ret)
      exact ⟨rfl, HLv13.out.chg⟩
  · refine (lv_stage_early w3 HLvB.out (by omega) (TX : Int) HP3.out (fun b hb => hb) (bad_e1 hK1 hK2 hck)).mono ?_
    rintro e w4 ⟨rfl, hg⟩
    have HLvC := Lib.hid hg.lv
    have HCk := Lib.hid (fun V (hV : Chg (fun _ => False) w4 V) => check_is V ((HP3.out.kept hg.chg (fun b hb hn => hn hb)).fresh hV))
    have hne : ((rchkF LL : Int) != 0) = true := by
      simp only [bne_iff_ne, ne_eq]
      omega
    clear hg
    dsimp only
    go_wp2_with (first
      | (go_at_call 10; refine (HCk.out _ (Chg.refl _ _)).mono ?_; rintro e w5 ⟨rfl, hc5⟩; have HC5 := Lib.hid hc5; clear hc5)
      | (go_at_call 17; refine (HWk.out _).mono ?_; rintro e w9 ⟨rfl, hc9⟩; have HC9 := Lib.hid hc9; clear hc9))
    go_ret
    exact ⟨rfl, HLvC.out.chg.trans' (HC5.out.trans' HC9.out)⟩

set_option maxRecDepth 100000 in
theorem lifted (os : Os) (started : os.Started) (H : Type) (enc : TypeId × Value → H) :
    ReturnsInHanded {} Tryz.checked os 6 .any (Rows.rootOnceSpec.pre6 enc Tryz.prog Tryz.f6 [] false) (Rows.rootOnceSpec.post enc Tryz.prog Tryz.f6 false true false false) := by
  refine law_handed (C := Tryz.checked) (tb := 4) own started (by kernel_rfl) Tryz.func6
    (ChangeSpec.witness6 (enc := enc) (C := Tryz.checked) false ⟨#[], #[.slice none 0 0, .int .i64 0, .slice none 0 0], []⟩ 8 (by kernel_rfl) (by kernel_rfl) (by kernel_rfl) (by kernel_rfl))
    laidOut (by rw [show Tryz.checked.prog = Tryz.prog from rfl, Tryz.params6]; intro t ht; simp at ht; rcases ht with rfl | rfl | rfl <;> exact ⟨by kernel_rfl, of_decide_eq_true (by kernel_rfl)⟩) rfl rfl Tryz.underlying4 ?_ ?_
  · intro ds hds
    rw [Tryz.params6] at hds
    match ds, hds with
    | [_, _, _], _ => rfl
  · intro W base args ds before hval0 hA0 _ hsz0
    have hval : ∀ (j : Nat) t v, Tryz.f6.params[j]? = some t → args[j]? = some v → Value.okWide Tryz.prog W .any base t v := hval0
    have hA : DataW.TrodAll enc Tryz.prog W 0 (fun _ => true) true Tryz.f6.params.toList args.toList ds before := hA0
    rw [Tryz.params6] at hA hval
    obtain ⟨v0, vs0, d0, ds0, p0, q0, hargs, rfl, rfl, h0, r0⟩ := trodAll_cons hA
    obtain ⟨v1, vs1, d1, ds1, p1, q1, rfl, rfl, rfl, h1, r1⟩ := trodAll_cons r0
    obtain ⟨v2, vs2, d2, ds2, p2, q2, rfl, rfl, rfl, h2, r2⟩ := trodAll_cons r1
    obtain ⟨rfl, rfl, rfl⟩ := trodAll_nil r2
    obtain rfl : args = #[v0, v1, v2] := by cases args; simp_all
    obtain ⟨l0, g0⟩ := open_packs (hval 0 22 v0 rfl rfl) h0
    obtain ⟨a1, rfl, rfl, rfl, w1⟩ := open_int Tryz.underlying3 (hval 1 3 v1 rfl rfl) h1
    obtain ⟨oa2, l2, cap2, rfl, -, -, g2, ok2⟩ := open_acts13 (hval 2 53 v2 rfl rfl) h2
    exact walk W v0 l0 g0 a1 (wf_inR w1) oa2 cap2 l2 g2 ok2

theorem over : Rows.rootOnceRow.holds Tryz.pinned (OpenSpec.ofChange Rows.rootOnceSpec) :=
  OpenClaim.holds_of_wide 6 Tryz.f6 rfl rfl rfl rfl rfl rfl rfl ⟨rfl, rfl, rfl, rfl, rfl⟩ rfl rfl rfl rfl rfl (by kernel_rfl) Tryz.func6 (by kernel_rfl)
    (of_decide_eq_true (by kernel_rfl)) (by unfold Func.isWrapper; first | (rw [if_pos (by decide +kernel)]; kernel_rfl) | (rw [if_neg (by decide +kernel)]; exact ⟨rfl, rfl⟩))
    (fun os started H enc _ => lifted os started H enc)

theorem proved : Rows.RootOnceSaid := over
#print axioms proved

end Go.Proofs.YtbjagmlbamjdbaaGreat.rootOnce
end
