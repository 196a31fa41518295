/-
  CoordPresumes, whole: for every message and number the law returns true and changes nothing that was there. No condition.
-/
import Derived.Test.YtogjjkbgagedpaaCoordZ
import Derived.Test.YtogjjkbgagedpaaCoordT
import Derived.Test.YtogjjkbgagedpaaLaw
import Derived.Test.YtogjjkbgagedpaaRows
namespace Go.Proofs.Ytogjjkbgagedpaa.coordPresumes
open Go.ChangeShapes Go.WideShapes Go.ChangeAt Go.RowKit Go.Maps Go.My Go.ChangeMaps coords
set_option maxRecDepth 100000

theorem laidOut : laidOutB Try.prog = true := by kernel_rfl
theorem own : ownKnob Try.prog.godebug = none := by kernel_rfl

theorem mod_kn (z : Int) : ∃ K : Nat, 1 ≤ K ∧ K ≤ 1000 ∧ wrap64 (z.tmod 1000 + 1000) = z.tmod 1000 + 1000 ∧ wrap64 (1 + (z.tmod 1000 + 1000).tmod 1000) = (K : Int) := by
  obtain ⟨R, h1, h2, h3⟩ := mod_twice z 1000 (by omega) (by omega)
  have h2 : wrap64 (z.tmod 1000 + 1000) = z.tmod 1000 + 1000 := h2
  have h3 : (z.tmod 1000 + 1000).tmod 1000 = (R : Int) := h3
  exact ⟨R + 1, by omega, by omega, h2, by rw [h3, IntWalk.wrap64_in _ (by omega)]; omega⟩

theorem open_one' (w : World) {c q : Nat} {Fc : Nat → Prop} {lim : Int} {K : Int} {x : Nat} (hC : CoIs w c Fc lim [(K, x)] q) :
    Calls Try.prog 17 #[ptrV c] w fun e w' => ∃ v, e = .returned v ∧ SlAt w' v ([K].map (Value.int .i64)) ∧ Chg (fun _ => False) w w' := by
  refine (open_any w hC (by simp)).mono ?_
  rintro e w1 ⟨v, rfl, ho, hc⟩
  have h := SlAt.of_own ho
  rw [show List.map (·.1) [(K, x)] = [K] from rfl, show asc [K] = [K] from List.mergeSort_of_pairwise (by simp)] at h
  exact ⟨v, rfl, h, hc⟩

theorem blk_new3 (w : World) (a b o : Obj) : (((w.alloc a).alloc b).alloc o).heap[w.heap.size + 1 + 1]? = some o := by
  have h := block_alloc_new ((w.alloc a).alloc b) o
  simpa only [World.size_alloc] using h

theorem good1 : coords.Good [1] := by
  refine ⟨by simp, by simp, fun k r h => ?_, by simp⟩
  match k, h with
  | 0, h => cases h; decide
  | k + 1, h => simp at h

theorem rows1 (w : World) : RowsAt (w.alloc (.cells #[.int .i64 1, .slice none 0 0] 33)) 2 (some ⟨w.heap.size, 0, none⟩) ([1].map planC) := by
  refine ⟨fun _ => ⟨_, _, rfl⟩, fun i r h => ?_, fun b off ho i r j v hi hj => ?_⟩
  · match i, h with
    | 0, h => cases h; rfl
    | i + 1, h => simp at h
  · cases ho
    match i, hi with
    | 0, hi =>
      cases hi
      match j, hj with
      | 0, hj => cases hj; exact cell_of_block (block_alloc_new _ _) rfl
      | 1, hj => cases hj; exact cell_of_block (block_alloc_new _ _) rfl
      | j + 2, hj => simp [planC] at hj
    | i + 1, hi => simp at hi

/-- Whoever asks for, or votes yes on, what is not known. -/
structure Asks (kd f t tx : Int) (y : Bool) (n : Nat) : Prop where
  up : Up kd f t tx y n
  is : (kd = 2 ∧ y = true) ∨ (kd = 6 ∧ y = false)

theorem not_asks {kd f t tx : Int} {y : Bool} {n : Nat} (h : ¬ Asks kd f t tx y n) : f < 1 ∨ (1 ≤ f ∧ 6 < f) ∨ (1 ≤ f ∧ f ≤ 6 ∧ (t == 0) = false) ∨ (1 ≤ f ∧ f ≤ 6 ∧ (t == 0) = true ∧ tx < 1) ∨ (1 ≤ f ∧ f ≤ 6 ∧ (t == 0) = true ∧ 1 ≤ tx ∧ 1099511627776 < tx) ∨
    (1 ≤ f ∧ f ≤ 6 ∧ (t == 0) = true ∧ 1 ≤ tx ∧ tx ≤ 1099511627776 ∧ ((n : Int) == 0) = false) ∨ (1 ≤ f ∧ f ≤ 6 ∧ (t == 0) = true ∧ 1 ≤ tx ∧ tx ≤ 1099511627776 ∧ ((n : Int) == 0) = true ∧ (kd == 6) = true ∧ (kd == 2) = false ∧ y = true) ∨
    (1 ≤ f ∧ f ≤ 6 ∧ (t == 0) = true ∧ 1 ≤ tx ∧ tx ≤ 1099511627776 ∧ ((n : Int) == 0) = true ∧ (kd == 6) = false ∧ (kd == 2) = true ∧ y = false) ∨ (1 ≤ f ∧ f ≤ 6 ∧ (t == 0) = true ∧ 1 ≤ tx ∧ tx ≤ 1099511627776 ∧ ((n : Int) == 0) = true ∧ (kd == 6) = false ∧ (kd == 2) = false) := by
  simp only [beq_eq_false_iff_ne, beq_iff_eq, ne_eq]
  by_cases a1 : 1 ≤ f; rotate_left; · exact Or.inl (by omega)
  by_cases a2 : f ≤ 6; rotate_left; · exact Or.inr (Or.inl ⟨a1, by omega⟩)
  by_cases a3 : t = 0; rotate_left; · exact Or.inr (Or.inr (Or.inl ⟨a1, a2, a3⟩))
  by_cases a4 : 1 ≤ tx; rotate_left; · exact Or.inr (Or.inr (Or.inr (Or.inl ⟨a1, a2, a3, by omega⟩)))
  by_cases a5 : tx ≤ 1099511627776; rotate_left; · exact Or.inr (Or.inr (Or.inr (Or.inr (Or.inl ⟨a1, a2, a3, a4, by omega⟩))))
  by_cases a6 : (n : Int) = 0; rotate_left; · exact Or.inr (Or.inr (Or.inr (Or.inr (Or.inr (Or.inl ⟨a1, a2, a3, a4, a5, a6⟩)))))
  refine Or.inr (Or.inr (Or.inr (Or.inr (Or.inr (Or.inr ?_)))))
  by_cases a7 : kd = 6
  · cases y with
    | true => exact Or.inl ⟨a1, a2, a3, a4, a5, a6, a7, by omega, rfl⟩
    | false => exact absurd ⟨⟨by omega, ⟨a1, a2⟩, a3, ⟨a4, a5⟩, (fun h => by cases h), by omega⟩, Or.inr ⟨a7, rfl⟩⟩ h
  · by_cases a8 : kd = 2
    · cases y with
      | false => exact Or.inr (Or.inl ⟨a1, a2, a3, a4, a5, a6, a7, a8, rfl⟩)
      | true => exact absurd ⟨⟨by omega, ⟨a1, a2⟩, a3, ⟨a4, a5⟩, (fun _ => a8), by omega⟩, Or.inl ⟨a8, rfl⟩⟩ h
    · exact Or.inr (Or.inr ⟨a1, a2, a3, a4, a5, a6, a7, a8⟩)

theorem take_asks (w : World) {c q : Nat} {Fc : Nat → Prop} {lim : Int} {m : List (Int × Nat)} (hC : CoIs w c Fc lim m q) (kd f t tx : Int) (y : Bool) (oa : Option Addr) (cap : Nat) (ps : List (List Value)) (hA : Asks kd f t tx y ps.length) (hm : mget m tx = none) :
    Calls Try.prog 13 #[ptrV c, .agg #[.int .i64 kd, .int .i64 f, .int .i64 t, .int .i64 tx, .bool y, .slice oa ps.length cap]] w fun e w' => ∃ gm, e = .returned (saidM gm) ∧ w'.heap[gm]? = some (.cells (msgC 4 0 f tx false).toArray 24 (0, 0)) ∧ Chg (fun _ => False) w w' := by
  obtain ⟨hu, hi⟩ := hA
  obtain rfl := hu.to'
  have hp := hu.packs
  rw [hp] at hu ⊢
  exact take_unk_back w hC kd f tx y oa cap hu (Unk.of_none hC hu.txn hm) hi

theorem take_not (w : World) {c q : Nat} {Fc : Nat → Prop} {lim : Int} {m : List (Int × Nat)} (hC : CoIs w c Fc lim m q) (kd f t tx : Int) (y : Bool) (oa : Option Addr) (cap : Nat) (ps : List (List Value)) (h : MsgOk w oa cap ps) (hA : ¬ Asks kd f t tx y ps.length) (hm : mget m tx = none) :
    Calls Try.prog 13 #[ptrV c, .agg #[.int .i64 kd, .int .i64 f, .int .i64 t, .int .i64 tx, .bool y, .slice oa ps.length cap]] w fun e w' => e = .returned (saidV 0) ∧ Chg (fun _ => False) w w' := by
  by_cases hu : Up kd f t tx y ps.length
  · obtain rfl := hu.to'
    have hp := hu.packs
    rw [hp] at hu hA ⊢
    refine take_unk_quiet w hC kd f tx y oa cap hu (Unk.of_none hC hu.txn hm) ?_
    have hk := hu.kind
    have hy := hu.yes
    cases y with
    | true => exact absurd ⟨hu, Or.inl ⟨hy rfl, rfl⟩⟩ hA
    | false =>
      rcases hk with rfl | rfl | rfl
      · exact Or.inl ⟨rfl, rfl⟩
      · exact Or.inr ⟨rfl, rfl⟩
      · exact absurd ⟨hu, Or.inr ⟨rfl, rfl⟩⟩ hA
  · exact take_bad w hC kd f t tx y oa cap ps h hu









set_option maxHeartbeats 4000000 in
theorem walk (W : World) (kd f t tx : Int) (y : Bool) (oa : Option Addr) (cap : Nat) (ps : List (List Value)) (h : MsgOk W oa cap ps) (_ : inR kd) (hif : inR f) (_ : inR t) (hit : inR tx) (kn : Int) (_ : inR kn) :
    Calls Try.prog 3 #[.agg #[.int .i64 kd, .int .i64 f, .int .i64 t, .int .i64 tx, .bool y, .slice oa ps.length cap], .int .i64 kn] W fun e w' => e = .returned (.bool true) ∧ Chg (fun _ => False) W w' := by
  obtain ⟨K, hK1, hK2, hw1, hw2⟩ := mod_kn kn
  have H := Lib.hid h
  have HK := Lib.hid (And.intro hK1 hK2)
  have HIn := Lib.hid (And.intro hif hit)
  clear h hK1 hK2 hif hit
  obtain ⟨ps', hps⟩ : ∃ ps', ps.take 3 = ps' := ⟨_, rfl⟩
  have HM := Lib.hid H.out.few
  rw [hps] at HM
  have HPs := Lib.hid hps
  clear hps
  by_cases htk : tx = K
  · skip
    obtain ⟨T, hT⟩ : ∃ T : Int, (K : Int) + 1 = T := ⟨_, rfl⟩
    have hKw : wrap64 ((K : Int) + 1) = T := by rw [← hT]; exact IntWalk.wrap64_in _ (by have := HK.out; omega)
    have HKw := Lib.hid hKw
    have htb : (tx == (K : Int)) = true := by simp [htk]
    have HIT := Lib.hid (show inR T from by clear hKw; have := HK.out; unfold inR; omega)
    have HTn := Lib.hid (show ¬ (K : Int) = T from by clear hKw; omega)
    clear hKw htk hT
    by_cases hA : Asks kd f t T y ps'.length
    · go_enter Try.func3, Try.ntmps3
      go_wp2_with fail
      obtain ⟨w0, hw0⟩ : ∃ w0, W.alloc (.cells #[.int .i64 kd, .int .i64 f, .int .i64 t, .int .i64 tx, .bool y, .slice oa ps.length cap] 24) = w0 := ⟨_, rfl⟩
      rw [hw0]
      have hb0 : Arr w0 W.heap.size 24 (msgV kd f t tx y (.slice oa ps.length cap)) := by rw [← hw0]; exact block_alloc_new _ _
      have HC0 := Lib.hid (show Chg (fun _ => False) W w0 from by rw [← hw0]; exact (Chg.refl _ _).alloc _)
      have HB0 := Lib.hid hb0
      clear hw0 hb0
      go_wp2_with (first
        | (go_at_call 10; refine (new_any _ 5 (by decide) (by decide)).mono ?_; rintro e w1 ⟨c, rfl, ⟨q, hC⟩, hc1⟩
           have HCo1 := Lib.hid hC
           have HC1 := Lib.hid hc1
           have hb1 : Arr w1 W.heap.size 24 (msgV kd f t tx y (.slice oa ps.length cap)) := hc1.at HB0.out id
           have HB1 := Lib.hid hb1
           have b0 := cell_of_block (i := 0) hb1 rfl
           have b1 := cell_of_block (i := 1) hb1 rfl
           have b2 := cell_of_block (i := 2) hb1 rfl
           have b3 := cell_of_block (i := 3) hb1 rfl
           have b4 := cell_of_block (i := 4) hb1 rfl
           have b5 := cell_of_block (i := 5) hb1 rfl
           unfold ptrV
           clear hC hc1 hb1)
        | (go_at_call 11; refine (short_any _ kd f t tx y oa cap ps (H.out.kept (HC0.out.trans' HC1.out))).mono ?_; rw [HPs.out]; rintro e w2 ⟨rfl, hc2⟩
           have HCo2 := Lib.hid (HCo1.out.fresh hc2)
           have HC2 := Lib.hid hc2
           have HB2 := Lib.hid (show Arr w2 W.heap.size 24 (msgV kd f t tx y (.slice oa ps.length cap)) from hc2.at HB1.out id)
           have HSt := Lib.hid (msg_to HB2.out rfl kd f t tx y oa ps'.length cap)
           clear hc2 b0 b1 b2 b3 b4 b5)
        | (refine wpList_store_mid rfl 24 _ _ rfl W.heap.size 0 (msgV kd f t tx y (.slice oa ps'.length cap)).toArray rfl rfl HSt.out.there HSt.out.size HSt.out.one ?_; rw [List.toList_toArray]
           obtain ⟨w3, hw3⟩ : ∃ w3, w2.setCells W.heap.size 0 (msgV kd f t tx y (.slice oa ps'.length cap)) = w3 := ⟨_, rfl⟩
           have harr := HSt.out.arr
           have hchg := HSt.out.chg
           rw [hw3] at harr hchg ⊢
           have HB3 := Lib.hid harr
           have HC3 := Lib.hid hchg
           have HCo3 := Lib.hid (HCo2.out.kept hchg (fun k hk e => by have h1 := hk.1; have h2 := lt_of_block HB0.out; omega))
           clear harr hchg hw3 HSt)
        | (go_at_call 12; refine (begin_any _ (HCo3.out.fresh ((Chg.refl (fun _ => False) w3).alloc _)) K (by have := HK.out; omega) [1] good1 _ 1 (rows1 w3) rfl).mono ?_; rintro e w4 ⟨v4, x, rfl, -, -, hC4, hc4⟩
           have HCo4 := Lib.hid (show CoIs w4 c (born w0 w1) 5 [((K : Int), x)] q from hC4)
           have hW4 : Chg (fun k => W.heap.size ≤ k) W w4 := (((((HC0.out.trans' HC1.out).trans' HC2.out).mono (fun _ _ h => h.elim) : Chg (fun k => W.heap.size ≤ k) W w2).trans' (HC3.out.mono (fun k _ e => by omega))).trans' (((Chg.refl (fun _ => False) w3).alloc (.cells #[.int .i64 1, .slice none 0 0] 33)).mono (fun _ _ h => h.elim))).trans' (hc4.mono (fun k _ e => by have h1 := HCo3.out.fq; rw [← e] at h1; have h2 := h1.1; have h3 := HC0.out.size; omega))
           have hq : q ≠ W.heap.size := fun e => by have h1 := HCo3.out.fq.1; have h2 := lt_of_block HB0.out; omega
           have hb4 : Arr w4 W.heap.size 24 (msgV kd f t tx y (.slice oa ps'.length cap)) := hc4.at (((Chg.refl (fun _ => False) w3).alloc _).at HB3.out id) (fun e => hq e.symm)
           have HW4 := Lib.hid hW4
           have HB4 := Lib.hid hb4
           have b0 : w4.cell? ⟨W.heap.size, 0, none⟩ = some (.int .i64 kd) := cell_of_block hb4 rfl
           have b1 : w4.cell? ⟨W.heap.size, 1, none⟩ = some (.int .i64 f) := cell_of_block hb4 rfl
           have b2 : w4.cell? ⟨W.heap.size, 2, none⟩ = some (.int .i64 t) := cell_of_block hb4 rfl
           have b3 : w4.cell? ⟨W.heap.size, 3, none⟩ = some (.int .i64 tx) := cell_of_block hb4 rfl
           have b4 : w4.cell? ⟨W.heap.size, 4, none⟩ = some (.bool y) := cell_of_block hb4 rfl
           have b5 : w4.cell? ⟨W.heap.size, 5, none⟩ = some (.slice oa ps'.length cap) := cell_of_block hb4 rfl
           have f3 : w4.frozen? ⟨W.heap.size, 3, none⟩ = false := free_of_block hb4
           simp only [hw2]
           clear hC4 hc4 hW4 hq hb4 hw1 hw2)
        | (go_at_call 13; fail))
      rw [HKw.out]
      obtain ⟨wf, hwf⟩ : ∃ wf, w4.setCell ⟨W.heap.size, 3, none⟩ (.int .i64 T) = wf := ⟨_, rfl⟩
      rw [hwf]
      have hcf : Chg (· = W.heap.size) w4 wf := by rw [← hwf]; exact Chg.setCell (S := (· = W.heap.size)) (Chg.refl _ _) (fun _ => rfl) _
      have hbf : Arr wf W.heap.size 24 (msgV kd f t T y (.slice oa ps'.length cap)) := by rw [← hwf]; exact HB4.out.set 3 _
      have HCof := Lib.hid (HCo4.out.kept hcf (fun k hk e => by have h1 := hk.1; have h2 := lt_of_block HB0.out; omega))
      have HWf := Lib.hid (HW4.out.trans' (hcf.mono (fun k _ e => by omega)))
      have HBf := Lib.hid hbf
      clear hcf hbf hwf HCo4 HW4 HB4 f3
      have HCo4 := HCof
      have HW4 := HWf
      have HB4 := HBf
      clear HCof HWf HBf
      have HMg := Lib.hid (show mget [((K : Int), x)] T = none from by rw [mget_cons, if_neg HTn.out]; rfl)
      obtain rfl := hA.up.to'
      have h1 := hA.up.from'.1
      have h2 := hA.up.from'.2
      have h4 := hA.up.txn.1
      have h5 := hA.up.txn.2
      have h6 : ((ps'.length : Int) == 0) = true := by have := hA.up.packs; simp [this]
      have HA := Lib.hid hA
      rcases hA.is with ⟨rfl, rfl⟩ | ⟨rfl, rfl⟩
      all_goals clear hA
      · go_wp2_with (first
          | (go_at_call 13; refine (take_asks _ HCo4.out _ f _ T _ oa cap ps' HA.out HMg.out).mono ?_; rintro e w5 ⟨gm, rfl, hgm, hc5⟩
             have hb5' := (((Chg.refl (fun _ => False) w5).alloc (.cells #[.slice (some ⟨gm, 0, none⟩) 1 1, .int .i64 0, .int .i64 0, .int .i64 0] 36)).alloc (.cells #[.slice none 0 0, .int .i64 0, .int .i64 0, .int .i64 0] 36)).at (hc5.at HB4.out id) id
             have k1 : ((w5.alloc (.cells #[.slice (some ⟨gm, 0, none⟩) 1 1, .int .i64 0, .int .i64 0, .int .i64 0] 36)).alloc (.cells #[.slice none 0 0, .int .i64 0, .int .i64 0, .int .i64 0] 36)).cell? ⟨W.heap.size, 1, none⟩ = some (.int .i64 f) := cell_of_block hb5' rfl
             have k3 : ((w5.alloc (.cells #[.slice (some ⟨gm, 0, none⟩) 1 1, .int .i64 0, .int .i64 0, .int .i64 0] 36)).alloc (.cells #[.slice none 0 0, .int .i64 0, .int .i64 0, .int .i64 0] 36)).cell? ⟨W.heap.size, 3, none⟩ = some (.int .i64 T) := cell_of_block hb5' rfl
             have HGm := Lib.hid hgm
             clear hb5' hgm
             have HC5 := Lib.hid hc5
             have hb5 := hc5.at HB4.out id
             have ha5 := (Chg.refl (fun _ => False) w5).alloc (.cells #[.slice (some ⟨gm, 0, none⟩) 1 1, .int .i64 0, .int .i64 0, .int .i64 0] 36)
             have hb6 := ha5.at hb5 id
             have e0 : (w5.alloc (.cells #[.slice (some ⟨gm, 0, none⟩) 1 1, .int .i64 0, .int .i64 0, .int .i64 0] 36)).cell? ⟨W.heap.size, 0, none⟩ = some (.int .i64 _) := cell_of_block hb6 rfl
             have e1 : (w5.alloc (.cells #[.slice (some ⟨gm, 0, none⟩) 1 1, .int .i64 0, .int .i64 0, .int .i64 0] 36)).cell? ⟨W.heap.size, 1, none⟩ = some (.int .i64 f) := cell_of_block hb6 rfl
             have e2 : (w5.alloc (.cells #[.slice (some ⟨gm, 0, none⟩) 1 1, .int .i64 0, .int .i64 0, .int .i64 0] 36)).cell? ⟨W.heap.size, 2, none⟩ = some (.int .i64 _) := cell_of_block hb6 rfl
             have e3 : (w5.alloc (.cells #[.slice (some ⟨gm, 0, none⟩) 1 1, .int .i64 0, .int .i64 0, .int .i64 0] 36)).cell? ⟨W.heap.size, 3, none⟩ = some (.int .i64 T) := cell_of_block hb6 rfl
             have e4 : (w5.alloc (.cells #[.slice (some ⟨gm, 0, none⟩) 1 1, .int .i64 0, .int .i64 0, .int .i64 0] 36)).cell? ⟨W.heap.size, 4, none⟩ = some (.bool _) := cell_of_block hb6 rfl
             have e5 : (w5.alloc (.cells #[.slice (some ⟨gm, 0, none⟩) 1 1, .int .i64 0, .int .i64 0, .int .i64 0] 36)).cell? ⟨W.heap.size, 5, none⟩ = some (.slice oa ps'.length cap) := cell_of_block hb6 rfl
             clear hc5 hb5 ha5 hb6 b0 b1 b2 b3 b4 b5
             unfold saidM)
          | (go_at_call 14; refine (same_one _ gm (w5.heap.size + 1 + 1) 4 f T (((((Chg.refl (fun _ => False) w5).alloc _).alloc _).alloc _).at HGm.out id) (blk_new3 w5 _ _ _)).mono ?_; rintro e w6 ⟨rfl, hc6⟩
             have HC6 := Lib.hid ((HC5.out.trans' ((((Chg.refl (fun _ => False) w5).alloc _).alloc _).alloc _)).trans' hc6)
             have HW6 := Lib.hid (HW4.out.trans' (HC6.out.mono (fun _ _ h => h.elim)))
             have g3 : w6.cell? ⟨W.heap.size, 3, none⟩ = some (.int .i64 T) := cell_of_block (HC6.out.at HB4.out id) rfl
             have HCo6 := Lib.hid (HCo4.out.fresh HC6.out)
             clear hc6 e0 e1 e2 e3 e4 e5)
          | (go_at_call 15; refine (state_new _ HCo6.out T HMg.out HIT.out).mono ?_; rintro e w7 ⟨rfl, rfl⟩)
          | (go_at_call 17; refine (open_one' _ HCo6.out).mono ?_; rintro e w7 ⟨v7, rfl, ho7, hc7⟩; have HC7 := Lib.hid hc7; have HO7 := Lib.hid ho7; clear ho7 hc7)
          | (go_at_call 16; refine (same_numbers _ (HO7.out.kept ((Chg.refl _ _).alloc _)) (slat_new w7 K) (by simp)).mono ?_; rw [decide_eq_true (rfl : [(K : Int)] = [(K : Int)])]; rintro e w8 ⟨rfl, hc8⟩
             have HC8 := Lib.hid ((((Chg.refl (fun _ => False) w7).alloc _).trans' hc8))
             clear hc8)
          | (go_at_call 18; refine (works_any _).mono ?_; rintro e w9 ⟨rfl, hc9⟩; have HC9 := Lib.hid hc9; clear hc9))
        go_ret
        exact ⟨rfl, ((((HW6.out.mono (fun k h1 h2 => by omega) : Chg (fun _ => False) W w6).trans' HC7.out).trans' HC8.out).trans' HC9.out)⟩
      · go_wp2_with (first
          | (go_at_call 13; refine (take_asks _ HCo4.out _ f _ T _ oa cap ps' HA.out HMg.out).mono ?_; rintro e w5 ⟨gm, rfl, hgm, hc5⟩
             have hb5' := (((Chg.refl (fun _ => False) w5).alloc (.cells #[.slice (some ⟨gm, 0, none⟩) 1 1, .int .i64 0, .int .i64 0, .int .i64 0] 36)).alloc (.cells #[.slice none 0 0, .int .i64 0, .int .i64 0, .int .i64 0] 36)).at (hc5.at HB4.out id) id
             have k1 : ((w5.alloc (.cells #[.slice (some ⟨gm, 0, none⟩) 1 1, .int .i64 0, .int .i64 0, .int .i64 0] 36)).alloc (.cells #[.slice none 0 0, .int .i64 0, .int .i64 0, .int .i64 0] 36)).cell? ⟨W.heap.size, 1, none⟩ = some (.int .i64 f) := cell_of_block hb5' rfl
             have k3 : ((w5.alloc (.cells #[.slice (some ⟨gm, 0, none⟩) 1 1, .int .i64 0, .int .i64 0, .int .i64 0] 36)).alloc (.cells #[.slice none 0 0, .int .i64 0, .int .i64 0, .int .i64 0] 36)).cell? ⟨W.heap.size, 3, none⟩ = some (.int .i64 T) := cell_of_block hb5' rfl
             have HGm := Lib.hid hgm
             clear hb5' hgm
             have HC5 := Lib.hid hc5
             have hb5 := hc5.at HB4.out id
             have ha5 := (Chg.refl (fun _ => False) w5).alloc (.cells #[.slice (some ⟨gm, 0, none⟩) 1 1, .int .i64 0, .int .i64 0, .int .i64 0] 36)
             have hb6 := ha5.at hb5 id
             have e0 : (w5.alloc (.cells #[.slice (some ⟨gm, 0, none⟩) 1 1, .int .i64 0, .int .i64 0, .int .i64 0] 36)).cell? ⟨W.heap.size, 0, none⟩ = some (.int .i64 _) := cell_of_block hb6 rfl
             have e1 : (w5.alloc (.cells #[.slice (some ⟨gm, 0, none⟩) 1 1, .int .i64 0, .int .i64 0, .int .i64 0] 36)).cell? ⟨W.heap.size, 1, none⟩ = some (.int .i64 f) := cell_of_block hb6 rfl
             have e2 : (w5.alloc (.cells #[.slice (some ⟨gm, 0, none⟩) 1 1, .int .i64 0, .int .i64 0, .int .i64 0] 36)).cell? ⟨W.heap.size, 2, none⟩ = some (.int .i64 _) := cell_of_block hb6 rfl
             have e3 : (w5.alloc (.cells #[.slice (some ⟨gm, 0, none⟩) 1 1, .int .i64 0, .int .i64 0, .int .i64 0] 36)).cell? ⟨W.heap.size, 3, none⟩ = some (.int .i64 T) := cell_of_block hb6 rfl
             have e4 : (w5.alloc (.cells #[.slice (some ⟨gm, 0, none⟩) 1 1, .int .i64 0, .int .i64 0, .int .i64 0] 36)).cell? ⟨W.heap.size, 4, none⟩ = some (.bool _) := cell_of_block hb6 rfl
             have e5 : (w5.alloc (.cells #[.slice (some ⟨gm, 0, none⟩) 1 1, .int .i64 0, .int .i64 0, .int .i64 0] 36)).cell? ⟨W.heap.size, 5, none⟩ = some (.slice oa ps'.length cap) := cell_of_block hb6 rfl
             clear hc5 hb5 ha5 hb6 b0 b1 b2 b3 b4 b5
             unfold saidM)
          | (go_at_call 14; refine (same_one _ gm (w5.heap.size + 1 + 1) 4 f T (((((Chg.refl (fun _ => False) w5).alloc _).alloc _).alloc _).at HGm.out id) (blk_new3 w5 _ _ _)).mono ?_; rintro e w6 ⟨rfl, hc6⟩
             have HC6 := Lib.hid ((HC5.out.trans' ((((Chg.refl (fun _ => False) w5).alloc _).alloc _).alloc _)).trans' hc6)
             have HW6 := Lib.hid (HW4.out.trans' (HC6.out.mono (fun _ _ h => h.elim)))
             have g3 : w6.cell? ⟨W.heap.size, 3, none⟩ = some (.int .i64 T) := cell_of_block (HC6.out.at HB4.out id) rfl
             have HCo6 := Lib.hid (HCo4.out.fresh HC6.out)
             clear hc6 e0 e1 e2 e3 e4 e5)
          | (go_at_call 15; refine (state_new _ HCo6.out T HMg.out HIT.out).mono ?_; rintro e w7 ⟨rfl, rfl⟩)
          | (go_at_call 17; refine (open_one' _ HCo6.out).mono ?_; rintro e w7 ⟨v7, rfl, ho7, hc7⟩; have HC7 := Lib.hid hc7; have HO7 := Lib.hid ho7; clear ho7 hc7)
          | (go_at_call 16; refine (same_numbers _ (HO7.out.kept ((Chg.refl _ _).alloc _)) (slat_new w7 K) (by simp)).mono ?_; rw [decide_eq_true (rfl : [(K : Int)] = [(K : Int)])]; rintro e w8 ⟨rfl, hc8⟩
             have HC8 := Lib.hid ((((Chg.refl (fun _ => False) w7).alloc _).trans' hc8))
             clear hc8)
          | (go_at_call 18; refine (works_any _).mono ?_; rintro e w9 ⟨rfl, hc9⟩; have HC9 := Lib.hid hc9; clear hc9))
        go_ret
        exact ⟨rfl, ((((HW6.out.mono (fun k h1 h2 => by omega) : Chg (fun _ => False) W w6).trans' HC7.out).trans' HC8.out).trans' HC9.out)⟩
    · have HA := Lib.hid hA
      clear hA
      go_enter Try.func3, Try.ntmps3
      go_wp2_with fail
      obtain ⟨w0, hw0⟩ : ∃ w0, W.alloc (.cells #[.int .i64 kd, .int .i64 f, .int .i64 t, .int .i64 tx, .bool y, .slice oa ps.length cap] 24) = w0 := ⟨_, rfl⟩
      rw [hw0]
      have hb0 : Arr w0 W.heap.size 24 (msgV kd f t tx y (.slice oa ps.length cap)) := by rw [← hw0]; exact block_alloc_new _ _
      have HC0 := Lib.hid (show Chg (fun _ => False) W w0 from by rw [← hw0]; exact (Chg.refl _ _).alloc _)
      have HB0 := Lib.hid hb0
      clear hw0 hb0
      go_wp2_with (first
        | (go_at_call 10; refine (new_any _ 5 (by decide) (by decide)).mono ?_; rintro e w1 ⟨c, rfl, ⟨q, hC⟩, hc1⟩
           have HCo1 := Lib.hid hC
           have HC1 := Lib.hid hc1
           have hb1 : Arr w1 W.heap.size 24 (msgV kd f t tx y (.slice oa ps.length cap)) := hc1.at HB0.out id
           have HB1 := Lib.hid hb1
           have b0 := cell_of_block (i := 0) hb1 rfl
           have b1 := cell_of_block (i := 1) hb1 rfl
           have b2 := cell_of_block (i := 2) hb1 rfl
           have b3 := cell_of_block (i := 3) hb1 rfl
           have b4 := cell_of_block (i := 4) hb1 rfl
           have b5 := cell_of_block (i := 5) hb1 rfl
           unfold ptrV
           clear hC hc1 hb1)
        | (go_at_call 11; refine (short_any _ kd f t tx y oa cap ps (H.out.kept (HC0.out.trans' HC1.out))).mono ?_; rw [HPs.out]; rintro e w2 ⟨rfl, hc2⟩
           have HCo2 := Lib.hid (HCo1.out.fresh hc2)
           have HC2 := Lib.hid hc2
           have HB2 := Lib.hid (show Arr w2 W.heap.size 24 (msgV kd f t tx y (.slice oa ps.length cap)) from hc2.at HB1.out id)
           have HSt := Lib.hid (msg_to HB2.out rfl kd f t tx y oa ps'.length cap)
           clear hc2 b0 b1 b2 b3 b4 b5)
        | (refine wpList_store_mid rfl 24 _ _ rfl W.heap.size 0 (msgV kd f t tx y (.slice oa ps'.length cap)).toArray rfl rfl HSt.out.there HSt.out.size HSt.out.one ?_; rw [List.toList_toArray]
           obtain ⟨w3, hw3⟩ : ∃ w3, w2.setCells W.heap.size 0 (msgV kd f t tx y (.slice oa ps'.length cap)) = w3 := ⟨_, rfl⟩
           have harr := HSt.out.arr
           have hchg := HSt.out.chg
           rw [hw3] at harr hchg ⊢
           have HB3 := Lib.hid harr
           have HC3 := Lib.hid hchg
           have HCo3 := Lib.hid (HCo2.out.kept hchg (fun k hk e => by have h1 := hk.1; have h2 := lt_of_block HB0.out; omega))
           clear harr hchg hw3 HSt)
        | (go_at_call 12; refine (begin_any _ (HCo3.out.fresh ((Chg.refl (fun _ => False) w3).alloc _)) K (by have := HK.out; omega) [1] good1 _ 1 (rows1 w3) rfl).mono ?_; rintro e w4 ⟨v4, x, rfl, -, -, hC4, hc4⟩
           have HCo4 := Lib.hid (show CoIs w4 c (born w0 w1) 5 [((K : Int), x)] q from hC4)
           have hW4 : Chg (fun k => W.heap.size ≤ k) W w4 := (((((HC0.out.trans' HC1.out).trans' HC2.out).mono (fun _ _ h => h.elim) : Chg (fun k => W.heap.size ≤ k) W w2).trans' (HC3.out.mono (fun k _ e => by omega))).trans' (((Chg.refl (fun _ => False) w3).alloc (.cells #[.int .i64 1, .slice none 0 0] 33)).mono (fun _ _ h => h.elim))).trans' (hc4.mono (fun k _ e => by have h1 := HCo3.out.fq; rw [← e] at h1; have h2 := h1.1; have h3 := HC0.out.size; omega))
           have hq : q ≠ W.heap.size := fun e => by have h1 := HCo3.out.fq.1; have h2 := lt_of_block HB0.out; omega
           have hb4 : Arr w4 W.heap.size 24 (msgV kd f t tx y (.slice oa ps'.length cap)) := hc4.at (((Chg.refl (fun _ => False) w3).alloc _).at HB3.out id) (fun e => hq e.symm)
           have HW4 := Lib.hid hW4
           have HB4 := Lib.hid hb4
           have b0 : w4.cell? ⟨W.heap.size, 0, none⟩ = some (.int .i64 kd) := cell_of_block hb4 rfl
           have b1 : w4.cell? ⟨W.heap.size, 1, none⟩ = some (.int .i64 f) := cell_of_block hb4 rfl
           have b2 : w4.cell? ⟨W.heap.size, 2, none⟩ = some (.int .i64 t) := cell_of_block hb4 rfl
           have b3 : w4.cell? ⟨W.heap.size, 3, none⟩ = some (.int .i64 tx) := cell_of_block hb4 rfl
           have b4 : w4.cell? ⟨W.heap.size, 4, none⟩ = some (.bool y) := cell_of_block hb4 rfl
           have b5 : w4.cell? ⟨W.heap.size, 5, none⟩ = some (.slice oa ps'.length cap) := cell_of_block hb4 rfl
           have f3 : w4.frozen? ⟨W.heap.size, 3, none⟩ = false := free_of_block hb4
           simp only [hw2]
           clear hC4 hc4 hW4 hq hb4 hw1 hw2)
        | (go_at_call 13; fail))
      rw [HKw.out]
      obtain ⟨wf, hwf⟩ : ∃ wf, w4.setCell ⟨W.heap.size, 3, none⟩ (.int .i64 T) = wf := ⟨_, rfl⟩
      rw [hwf]
      have hcf : Chg (· = W.heap.size) w4 wf := by rw [← hwf]; exact Chg.setCell (S := (· = W.heap.size)) (Chg.refl _ _) (fun _ => rfl) _
      have hbf : Arr wf W.heap.size 24 (msgV kd f t T y (.slice oa ps'.length cap)) := by rw [← hwf]; exact HB4.out.set 3 _
      have HCof := Lib.hid (HCo4.out.kept hcf (fun k hk e => by have h1 := hk.1; have h2 := lt_of_block HB0.out; omega))
      have HWf := Lib.hid (HW4.out.trans' (hcf.mono (fun k _ e => by omega)))
      have HBf := Lib.hid hbf
      clear hcf hbf hwf HCo4 HW4 HB4 f3
      have HCo4 := HCof
      have HW4 := HWf
      have HB4 := HBf
      clear HCof HWf HBf
      have HMg := Lib.hid (show mget [((K : Int), x)] T = none from by rw [mget_cons, if_neg HTn.out]; rfl)
      rcases not_asks HA.out with h1 | ⟨h1, h2⟩ | ⟨h1, h2, h3⟩ | ⟨h1, h2, h3, h4⟩ | ⟨h1, h2, h3, h4, h5⟩ | ⟨h1, h2, h3, h4, h5, h6⟩ | ⟨h1, h2, h3, h4, h5, h6, h7, h8, rfl⟩ | ⟨h1, h2, h3, h4, h5, h6, h7, h8, rfl⟩ | ⟨h1, h2, h3, h4, h5, h6, h7, h8⟩
      all_goals go_wp2_with (first
        | (go_at_call 13; refine (take_not _ HCo4.out kd f t T _ oa cap ps' (HM.out.keptW HW4.out) HA.out HMg.out).mono ?_; rintro e w5 ⟨rfl, hc5⟩
           have HC5 := Lib.hid hc5
           have hb5 := hc5.at HB4.out id
           have ha5 := (Chg.refl (fun _ => False) w5).alloc (.cells #[.slice none 0 0, .int .i64 0, .int .i64 0, .int .i64 0] 36)
           have hb6 := ha5.at hb5 id
           have e0 : (w5.alloc (.cells #[.slice none 0 0, .int .i64 0, .int .i64 0, .int .i64 0] 36)).cell? ⟨W.heap.size, 0, none⟩ = some (.int .i64 _) := cell_of_block hb6 rfl
           have e1 : (w5.alloc (.cells #[.slice none 0 0, .int .i64 0, .int .i64 0, .int .i64 0] 36)).cell? ⟨W.heap.size, 1, none⟩ = some (.int .i64 f) := cell_of_block hb6 rfl
           have e2 : (w5.alloc (.cells #[.slice none 0 0, .int .i64 0, .int .i64 0, .int .i64 0] 36)).cell? ⟨W.heap.size, 2, none⟩ = some (.int .i64 _) := cell_of_block hb6 rfl
           have e3 : (w5.alloc (.cells #[.slice none 0 0, .int .i64 0, .int .i64 0, .int .i64 0] 36)).cell? ⟨W.heap.size, 3, none⟩ = some (.int .i64 T) := cell_of_block hb6 rfl
           have e4 : (w5.alloc (.cells #[.slice none 0 0, .int .i64 0, .int .i64 0, .int .i64 0] 36)).cell? ⟨W.heap.size, 4, none⟩ = some (.bool _) := cell_of_block hb6 rfl
           have e5 : (w5.alloc (.cells #[.slice none 0 0, .int .i64 0, .int .i64 0, .int .i64 0] 36)).cell? ⟨W.heap.size, 5, none⟩ = some (.slice oa ps'.length cap) := cell_of_block hb6 rfl
           clear hc5 hb5 ha5 hb6 b0 b1 b2 b3 b4 b5
           unfold saidV)
        | (go_at_call 14; refine (same_nil _).mono ?_; rintro e w6 ⟨rfl, hc6⟩
           have HC6 := Lib.hid ((HC5.out.trans' (((Chg.refl (fun _ => False) w5).alloc _).alloc _)).trans' hc6)
           have HW6 := Lib.hid (HW4.out.trans' (HC6.out.mono (fun _ _ h => h.elim)))
           have g3 : w6.cell? ⟨W.heap.size, 3, none⟩ = some (.int .i64 T) := cell_of_block (HC6.out.at HB4.out id) rfl
           have HCo6 := Lib.hid (HCo4.out.fresh HC6.out)
           clear hc6 e0 e1 e2 e3 e4 e5)
        | (go_at_call 15; refine (state_new _ HCo6.out T HMg.out HIT.out).mono ?_; rintro e w7 ⟨rfl, rfl⟩)
        | (go_at_call 17; refine (open_one' _ HCo6.out).mono ?_; rintro e w7 ⟨v7, rfl, ho7, hc7⟩; have HC7 := Lib.hid hc7; have HO7 := Lib.hid ho7; clear ho7 hc7)
        | (go_at_call 16; refine (same_numbers _ (HO7.out.kept ((Chg.refl _ _).alloc _)) (slat_new w7 K) (by simp)).mono ?_; rw [decide_eq_true (rfl : [(K : Int)] = [(K : Int)])]; rintro e w8 ⟨rfl, hc8⟩
           have HC8 := Lib.hid ((((Chg.refl (fun _ => False) w7).alloc _).trans' hc8))
           clear hc8)
        | (go_at_call 18; refine (works_any _).mono ?_; rintro e w9 ⟨rfl, hc9⟩; have HC9 := Lib.hid hc9; clear hc9))
      all_goals go_ret
      all_goals exact ⟨rfl, ((((HW6.out.mono (fun k h1 h2 => by omega) : Chg (fun _ => False) W w6).trans' HC7.out).trans' HC8.out).trans' HC9.out)⟩
  · have htb : (tx == (K : Int)) = false := by simp [htk]
    by_cases hA : Asks kd f t tx y ps'.length
    · have HMg0 := Lib.hid htk
      have HIT := Lib.hid HIn.out.2
      go_enter Try.func3, Try.ntmps3
      go_wp2_with fail
      obtain ⟨w0, hw0⟩ : ∃ w0, W.alloc (.cells #[.int .i64 kd, .int .i64 f, .int .i64 t, .int .i64 tx, .bool y, .slice oa ps.length cap] 24) = w0 := ⟨_, rfl⟩
      rw [hw0]
      have hb0 : Arr w0 W.heap.size 24 (msgV kd f t tx y (.slice oa ps.length cap)) := by rw [← hw0]; exact block_alloc_new _ _
      have HC0 := Lib.hid (show Chg (fun _ => False) W w0 from by rw [← hw0]; exact (Chg.refl _ _).alloc _)
      have HB0 := Lib.hid hb0
      clear hw0 hb0
      go_wp2_with (first
        | (go_at_call 10; refine (new_any _ 5 (by decide) (by decide)).mono ?_; rintro e w1 ⟨c, rfl, ⟨q, hC⟩, hc1⟩
           have HCo1 := Lib.hid hC
           have HC1 := Lib.hid hc1
           have hb1 : Arr w1 W.heap.size 24 (msgV kd f t tx y (.slice oa ps.length cap)) := hc1.at HB0.out id
           have HB1 := Lib.hid hb1
           have b0 := cell_of_block (i := 0) hb1 rfl
           have b1 := cell_of_block (i := 1) hb1 rfl
           have b2 := cell_of_block (i := 2) hb1 rfl
           have b3 := cell_of_block (i := 3) hb1 rfl
           have b4 := cell_of_block (i := 4) hb1 rfl
           have b5 := cell_of_block (i := 5) hb1 rfl
           unfold ptrV
           clear hC hc1 hb1)
        | (go_at_call 11; refine (short_any _ kd f t tx y oa cap ps (H.out.kept (HC0.out.trans' HC1.out))).mono ?_; rw [HPs.out]; rintro e w2 ⟨rfl, hc2⟩
           have HCo2 := Lib.hid (HCo1.out.fresh hc2)
           have HC2 := Lib.hid hc2
           have HB2 := Lib.hid (show Arr w2 W.heap.size 24 (msgV kd f t tx y (.slice oa ps.length cap)) from hc2.at HB1.out id)
           have HSt := Lib.hid (msg_to HB2.out rfl kd f t tx y oa ps'.length cap)
           clear hc2 b0 b1 b2 b3 b4 b5)
        | (refine wpList_store_mid rfl 24 _ _ rfl W.heap.size 0 (msgV kd f t tx y (.slice oa ps'.length cap)).toArray rfl rfl HSt.out.there HSt.out.size HSt.out.one ?_; rw [List.toList_toArray]
           obtain ⟨w3, hw3⟩ : ∃ w3, w2.setCells W.heap.size 0 (msgV kd f t tx y (.slice oa ps'.length cap)) = w3 := ⟨_, rfl⟩
           have harr := HSt.out.arr
           have hchg := HSt.out.chg
           rw [hw3] at harr hchg ⊢
           have HB3 := Lib.hid harr
           have HC3 := Lib.hid hchg
           have HCo3 := Lib.hid (HCo2.out.kept hchg (fun k hk e => by have h1 := hk.1; have h2 := lt_of_block HB0.out; omega))
           clear harr hchg hw3 HSt)
        | (go_at_call 12; refine (begin_any _ (HCo3.out.fresh ((Chg.refl (fun _ => False) w3).alloc _)) K (by have := HK.out; omega) [1] good1 _ 1 (rows1 w3) rfl).mono ?_; rintro e w4 ⟨v4, x, rfl, -, -, hC4, hc4⟩
           have HCo4 := Lib.hid (show CoIs w4 c (born w0 w1) 5 [((K : Int), x)] q from hC4)
           have hW4 : Chg (fun k => W.heap.size ≤ k) W w4 := (((((HC0.out.trans' HC1.out).trans' HC2.out).mono (fun _ _ h => h.elim) : Chg (fun k => W.heap.size ≤ k) W w2).trans' (HC3.out.mono (fun k _ e => by omega))).trans' (((Chg.refl (fun _ => False) w3).alloc (.cells #[.int .i64 1, .slice none 0 0] 33)).mono (fun _ _ h => h.elim))).trans' (hc4.mono (fun k _ e => by have h1 := HCo3.out.fq; rw [← e] at h1; have h2 := h1.1; have h3 := HC0.out.size; omega))
           have hq : q ≠ W.heap.size := fun e => by have h1 := HCo3.out.fq.1; have h2 := lt_of_block HB0.out; omega
           have hb4 : Arr w4 W.heap.size 24 (msgV kd f t tx y (.slice oa ps'.length cap)) := hc4.at (((Chg.refl (fun _ => False) w3).alloc _).at HB3.out id) (fun e => hq e.symm)
           have HW4 := Lib.hid hW4
           have HB4 := Lib.hid hb4
           have b0 : w4.cell? ⟨W.heap.size, 0, none⟩ = some (.int .i64 kd) := cell_of_block hb4 rfl
           have b1 : w4.cell? ⟨W.heap.size, 1, none⟩ = some (.int .i64 f) := cell_of_block hb4 rfl
           have b2 : w4.cell? ⟨W.heap.size, 2, none⟩ = some (.int .i64 t) := cell_of_block hb4 rfl
           have b3 : w4.cell? ⟨W.heap.size, 3, none⟩ = some (.int .i64 tx) := cell_of_block hb4 rfl
           have b4 : w4.cell? ⟨W.heap.size, 4, none⟩ = some (.bool y) := cell_of_block hb4 rfl
           have b5 : w4.cell? ⟨W.heap.size, 5, none⟩ = some (.slice oa ps'.length cap) := cell_of_block hb4 rfl
           have f3 : w4.frozen? ⟨W.heap.size, 3, none⟩ = false := free_of_block hb4
           simp only [hw2]
           clear hC4 hc4 hW4 hq hb4 hw1 hw2)
        | (go_at_call 13; fail))
      have HMg := Lib.hid (show mget [((K : Int), x)] tx = none from by rw [mget_cons, if_neg (fun e => HMg0.out e.symm)]; rfl)
      obtain rfl := hA.up.to'
      have h1 := hA.up.from'.1
      have h2 := hA.up.from'.2
      have h4 := hA.up.txn.1
      have h5 := hA.up.txn.2
      have h6 : ((ps'.length : Int) == 0) = true := by have := hA.up.packs; simp [this]
      have HA := Lib.hid hA
      rcases hA.is with ⟨rfl, rfl⟩ | ⟨rfl, rfl⟩
      all_goals clear hA
      · go_wp2_with (first
          | (go_at_call 13; refine (take_asks _ HCo4.out _ f _ tx _ oa cap ps' HA.out HMg.out).mono ?_; rintro e w5 ⟨gm, rfl, hgm, hc5⟩
             have hb5' := (((Chg.refl (fun _ => False) w5).alloc (.cells #[.slice (some ⟨gm, 0, none⟩) 1 1, .int .i64 0, .int .i64 0, .int .i64 0] 36)).alloc (.cells #[.slice none 0 0, .int .i64 0, .int .i64 0, .int .i64 0] 36)).at (hc5.at HB4.out id) id
             have k1 : ((w5.alloc (.cells #[.slice (some ⟨gm, 0, none⟩) 1 1, .int .i64 0, .int .i64 0, .int .i64 0] 36)).alloc (.cells #[.slice none 0 0, .int .i64 0, .int .i64 0, .int .i64 0] 36)).cell? ⟨W.heap.size, 1, none⟩ = some (.int .i64 f) := cell_of_block hb5' rfl
             have k3 : ((w5.alloc (.cells #[.slice (some ⟨gm, 0, none⟩) 1 1, .int .i64 0, .int .i64 0, .int .i64 0] 36)).alloc (.cells #[.slice none 0 0, .int .i64 0, .int .i64 0, .int .i64 0] 36)).cell? ⟨W.heap.size, 3, none⟩ = some (.int .i64 tx) := cell_of_block hb5' rfl
             have HGm := Lib.hid hgm
             clear hb5' hgm
             have HC5 := Lib.hid hc5
             have hb5 := hc5.at HB4.out id
             have ha5 := (Chg.refl (fun _ => False) w5).alloc (.cells #[.slice (some ⟨gm, 0, none⟩) 1 1, .int .i64 0, .int .i64 0, .int .i64 0] 36)
             have hb6 := ha5.at hb5 id
             have e0 : (w5.alloc (.cells #[.slice (some ⟨gm, 0, none⟩) 1 1, .int .i64 0, .int .i64 0, .int .i64 0] 36)).cell? ⟨W.heap.size, 0, none⟩ = some (.int .i64 _) := cell_of_block hb6 rfl
             have e1 : (w5.alloc (.cells #[.slice (some ⟨gm, 0, none⟩) 1 1, .int .i64 0, .int .i64 0, .int .i64 0] 36)).cell? ⟨W.heap.size, 1, none⟩ = some (.int .i64 f) := cell_of_block hb6 rfl
             have e2 : (w5.alloc (.cells #[.slice (some ⟨gm, 0, none⟩) 1 1, .int .i64 0, .int .i64 0, .int .i64 0] 36)).cell? ⟨W.heap.size, 2, none⟩ = some (.int .i64 _) := cell_of_block hb6 rfl
             have e3 : (w5.alloc (.cells #[.slice (some ⟨gm, 0, none⟩) 1 1, .int .i64 0, .int .i64 0, .int .i64 0] 36)).cell? ⟨W.heap.size, 3, none⟩ = some (.int .i64 tx) := cell_of_block hb6 rfl
             have e4 : (w5.alloc (.cells #[.slice (some ⟨gm, 0, none⟩) 1 1, .int .i64 0, .int .i64 0, .int .i64 0] 36)).cell? ⟨W.heap.size, 4, none⟩ = some (.bool _) := cell_of_block hb6 rfl
             have e5 : (w5.alloc (.cells #[.slice (some ⟨gm, 0, none⟩) 1 1, .int .i64 0, .int .i64 0, .int .i64 0] 36)).cell? ⟨W.heap.size, 5, none⟩ = some (.slice oa ps'.length cap) := cell_of_block hb6 rfl
             clear hc5 hb5 ha5 hb6 b0 b1 b2 b3 b4 b5
             unfold saidM)
          | (go_at_call 14; refine (same_one _ gm (w5.heap.size + 1 + 1) 4 f tx (((((Chg.refl (fun _ => False) w5).alloc _).alloc _).alloc _).at HGm.out id) (blk_new3 w5 _ _ _)).mono ?_; rintro e w6 ⟨rfl, hc6⟩
             have HC6 := Lib.hid ((HC5.out.trans' ((((Chg.refl (fun _ => False) w5).alloc _).alloc _).alloc _)).trans' hc6)
             have HW6 := Lib.hid (HW4.out.trans' (HC6.out.mono (fun _ _ h => h.elim)))
             have g3 : w6.cell? ⟨W.heap.size, 3, none⟩ = some (.int .i64 tx) := cell_of_block (HC6.out.at HB4.out id) rfl
             have HCo6 := Lib.hid (HCo4.out.fresh HC6.out)
             clear hc6 e0 e1 e2 e3 e4 e5)
          | (go_at_call 15; refine (state_new _ HCo6.out tx HMg.out HIT.out).mono ?_; rintro e w7 ⟨rfl, rfl⟩)
          | (go_at_call 17; refine (open_one' _ HCo6.out).mono ?_; rintro e w7 ⟨v7, rfl, ho7, hc7⟩; have HC7 := Lib.hid hc7; have HO7 := Lib.hid ho7; clear ho7 hc7)
          | (go_at_call 16; refine (same_numbers _ (HO7.out.kept ((Chg.refl _ _).alloc _)) (slat_new w7 K) (by simp)).mono ?_; rw [decide_eq_true (rfl : [(K : Int)] = [(K : Int)])]; rintro e w8 ⟨rfl, hc8⟩
             have HC8 := Lib.hid ((((Chg.refl (fun _ => False) w7).alloc _).trans' hc8))
             clear hc8)
          | (go_at_call 18; refine (works_any _).mono ?_; rintro e w9 ⟨rfl, hc9⟩; have HC9 := Lib.hid hc9; clear hc9))
        go_ret
        exact ⟨rfl, ((((HW6.out.mono (fun k h1 h2 => by omega) : Chg (fun _ => False) W w6).trans' HC7.out).trans' HC8.out).trans' HC9.out)⟩
      · go_wp2_with (first
          | (go_at_call 13; refine (take_asks _ HCo4.out _ f _ tx _ oa cap ps' HA.out HMg.out).mono ?_; rintro e w5 ⟨gm, rfl, hgm, hc5⟩
             have hb5' := (((Chg.refl (fun _ => False) w5).alloc (.cells #[.slice (some ⟨gm, 0, none⟩) 1 1, .int .i64 0, .int .i64 0, .int .i64 0] 36)).alloc (.cells #[.slice none 0 0, .int .i64 0, .int .i64 0, .int .i64 0] 36)).at (hc5.at HB4.out id) id
             have k1 : ((w5.alloc (.cells #[.slice (some ⟨gm, 0, none⟩) 1 1, .int .i64 0, .int .i64 0, .int .i64 0] 36)).alloc (.cells #[.slice none 0 0, .int .i64 0, .int .i64 0, .int .i64 0] 36)).cell? ⟨W.heap.size, 1, none⟩ = some (.int .i64 f) := cell_of_block hb5' rfl
             have k3 : ((w5.alloc (.cells #[.slice (some ⟨gm, 0, none⟩) 1 1, .int .i64 0, .int .i64 0, .int .i64 0] 36)).alloc (.cells #[.slice none 0 0, .int .i64 0, .int .i64 0, .int .i64 0] 36)).cell? ⟨W.heap.size, 3, none⟩ = some (.int .i64 tx) := cell_of_block hb5' rfl
             have HGm := Lib.hid hgm
             clear hb5' hgm
             have HC5 := Lib.hid hc5
             have hb5 := hc5.at HB4.out id
             have ha5 := (Chg.refl (fun _ => False) w5).alloc (.cells #[.slice (some ⟨gm, 0, none⟩) 1 1, .int .i64 0, .int .i64 0, .int .i64 0] 36)
             have hb6 := ha5.at hb5 id
             have e0 : (w5.alloc (.cells #[.slice (some ⟨gm, 0, none⟩) 1 1, .int .i64 0, .int .i64 0, .int .i64 0] 36)).cell? ⟨W.heap.size, 0, none⟩ = some (.int .i64 _) := cell_of_block hb6 rfl
             have e1 : (w5.alloc (.cells #[.slice (some ⟨gm, 0, none⟩) 1 1, .int .i64 0, .int .i64 0, .int .i64 0] 36)).cell? ⟨W.heap.size, 1, none⟩ = some (.int .i64 f) := cell_of_block hb6 rfl
             have e2 : (w5.alloc (.cells #[.slice (some ⟨gm, 0, none⟩) 1 1, .int .i64 0, .int .i64 0, .int .i64 0] 36)).cell? ⟨W.heap.size, 2, none⟩ = some (.int .i64 _) := cell_of_block hb6 rfl
             have e3 : (w5.alloc (.cells #[.slice (some ⟨gm, 0, none⟩) 1 1, .int .i64 0, .int .i64 0, .int .i64 0] 36)).cell? ⟨W.heap.size, 3, none⟩ = some (.int .i64 tx) := cell_of_block hb6 rfl
             have e4 : (w5.alloc (.cells #[.slice (some ⟨gm, 0, none⟩) 1 1, .int .i64 0, .int .i64 0, .int .i64 0] 36)).cell? ⟨W.heap.size, 4, none⟩ = some (.bool _) := cell_of_block hb6 rfl
             have e5 : (w5.alloc (.cells #[.slice (some ⟨gm, 0, none⟩) 1 1, .int .i64 0, .int .i64 0, .int .i64 0] 36)).cell? ⟨W.heap.size, 5, none⟩ = some (.slice oa ps'.length cap) := cell_of_block hb6 rfl
             clear hc5 hb5 ha5 hb6 b0 b1 b2 b3 b4 b5
             unfold saidM)
          | (go_at_call 14; refine (same_one _ gm (w5.heap.size + 1 + 1) 4 f tx (((((Chg.refl (fun _ => False) w5).alloc _).alloc _).alloc _).at HGm.out id) (blk_new3 w5 _ _ _)).mono ?_; rintro e w6 ⟨rfl, hc6⟩
             have HC6 := Lib.hid ((HC5.out.trans' ((((Chg.refl (fun _ => False) w5).alloc _).alloc _).alloc _)).trans' hc6)
             have HW6 := Lib.hid (HW4.out.trans' (HC6.out.mono (fun _ _ h => h.elim)))
             have g3 : w6.cell? ⟨W.heap.size, 3, none⟩ = some (.int .i64 tx) := cell_of_block (HC6.out.at HB4.out id) rfl
             have HCo6 := Lib.hid (HCo4.out.fresh HC6.out)
             clear hc6 e0 e1 e2 e3 e4 e5)
          | (go_at_call 15; refine (state_new _ HCo6.out tx HMg.out HIT.out).mono ?_; rintro e w7 ⟨rfl, rfl⟩)
          | (go_at_call 17; refine (open_one' _ HCo6.out).mono ?_; rintro e w7 ⟨v7, rfl, ho7, hc7⟩; have HC7 := Lib.hid hc7; have HO7 := Lib.hid ho7; clear ho7 hc7)
          | (go_at_call 16; refine (same_numbers _ (HO7.out.kept ((Chg.refl _ _).alloc _)) (slat_new w7 K) (by simp)).mono ?_; rw [decide_eq_true (rfl : [(K : Int)] = [(K : Int)])]; rintro e w8 ⟨rfl, hc8⟩
             have HC8 := Lib.hid ((((Chg.refl (fun _ => False) w7).alloc _).trans' hc8))
             clear hc8)
          | (go_at_call 18; refine (works_any _).mono ?_; rintro e w9 ⟨rfl, hc9⟩; have HC9 := Lib.hid hc9; clear hc9))
        go_ret
        exact ⟨rfl, ((((HW6.out.mono (fun k h1 h2 => by omega) : Chg (fun _ => False) W w6).trans' HC7.out).trans' HC8.out).trans' HC9.out)⟩
    · have HA := Lib.hid hA
      clear hA
      have HMg0 := Lib.hid htk
      go_enter Try.func3, Try.ntmps3
      go_wp2_with fail
      obtain ⟨w0, hw0⟩ : ∃ w0, W.alloc (.cells #[.int .i64 kd, .int .i64 f, .int .i64 t, .int .i64 tx, .bool y, .slice oa ps.length cap] 24) = w0 := ⟨_, rfl⟩
      rw [hw0]
      have hb0 : Arr w0 W.heap.size 24 (msgV kd f t tx y (.slice oa ps.length cap)) := by rw [← hw0]; exact block_alloc_new _ _
      have HC0 := Lib.hid (show Chg (fun _ => False) W w0 from by rw [← hw0]; exact (Chg.refl _ _).alloc _)
      have HB0 := Lib.hid hb0
      clear hw0 hb0
      go_wp2_with (first
        | (go_at_call 10; refine (new_any _ 5 (by decide) (by decide)).mono ?_; rintro e w1 ⟨c, rfl, ⟨q, hC⟩, hc1⟩
           have HCo1 := Lib.hid hC
           have HC1 := Lib.hid hc1
           have hb1 : Arr w1 W.heap.size 24 (msgV kd f t tx y (.slice oa ps.length cap)) := hc1.at HB0.out id
           have HB1 := Lib.hid hb1
           have b0 := cell_of_block (i := 0) hb1 rfl
           have b1 := cell_of_block (i := 1) hb1 rfl
           have b2 := cell_of_block (i := 2) hb1 rfl
           have b3 := cell_of_block (i := 3) hb1 rfl
           have b4 := cell_of_block (i := 4) hb1 rfl
           have b5 := cell_of_block (i := 5) hb1 rfl
           unfold ptrV
           clear hC hc1 hb1)
        | (go_at_call 11; refine (short_any _ kd f t tx y oa cap ps (H.out.kept (HC0.out.trans' HC1.out))).mono ?_; rw [HPs.out]; rintro e w2 ⟨rfl, hc2⟩
           have HCo2 := Lib.hid (HCo1.out.fresh hc2)
           have HC2 := Lib.hid hc2
           have HB2 := Lib.hid (show Arr w2 W.heap.size 24 (msgV kd f t tx y (.slice oa ps.length cap)) from hc2.at HB1.out id)
           have HSt := Lib.hid (msg_to HB2.out rfl kd f t tx y oa ps'.length cap)
           clear hc2 b0 b1 b2 b3 b4 b5)
        | (refine wpList_store_mid rfl 24 _ _ rfl W.heap.size 0 (msgV kd f t tx y (.slice oa ps'.length cap)).toArray rfl rfl HSt.out.there HSt.out.size HSt.out.one ?_; rw [List.toList_toArray]
           obtain ⟨w3, hw3⟩ : ∃ w3, w2.setCells W.heap.size 0 (msgV kd f t tx y (.slice oa ps'.length cap)) = w3 := ⟨_, rfl⟩
           have harr := HSt.out.arr
           have hchg := HSt.out.chg
           rw [hw3] at harr hchg ⊢
           have HB3 := Lib.hid harr
           have HC3 := Lib.hid hchg
           have HCo3 := Lib.hid (HCo2.out.kept hchg (fun k hk e => by have h1 := hk.1; have h2 := lt_of_block HB0.out; omega))
           clear harr hchg hw3 HSt)
        | (go_at_call 12; refine (begin_any _ (HCo3.out.fresh ((Chg.refl (fun _ => False) w3).alloc _)) K (by have := HK.out; omega) [1] good1 _ 1 (rows1 w3) rfl).mono ?_; rintro e w4 ⟨v4, x, rfl, -, -, hC4, hc4⟩
           have HCo4 := Lib.hid (show CoIs w4 c (born w0 w1) 5 [((K : Int), x)] q from hC4)
           have hW4 : Chg (fun k => W.heap.size ≤ k) W w4 := (((((HC0.out.trans' HC1.out).trans' HC2.out).mono (fun _ _ h => h.elim) : Chg (fun k => W.heap.size ≤ k) W w2).trans' (HC3.out.mono (fun k _ e => by omega))).trans' (((Chg.refl (fun _ => False) w3).alloc (.cells #[.int .i64 1, .slice none 0 0] 33)).mono (fun _ _ h => h.elim))).trans' (hc4.mono (fun k _ e => by have h1 := HCo3.out.fq; rw [← e] at h1; have h2 := h1.1; have h3 := HC0.out.size; omega))
           have hq : q ≠ W.heap.size := fun e => by have h1 := HCo3.out.fq.1; have h2 := lt_of_block HB0.out; omega
           have hb4 : Arr w4 W.heap.size 24 (msgV kd f t tx y (.slice oa ps'.length cap)) := hc4.at (((Chg.refl (fun _ => False) w3).alloc _).at HB3.out id) (fun e => hq e.symm)
           have HW4 := Lib.hid hW4
           have HB4 := Lib.hid hb4
           have b0 : w4.cell? ⟨W.heap.size, 0, none⟩ = some (.int .i64 kd) := cell_of_block hb4 rfl
           have b1 : w4.cell? ⟨W.heap.size, 1, none⟩ = some (.int .i64 f) := cell_of_block hb4 rfl
           have b2 : w4.cell? ⟨W.heap.size, 2, none⟩ = some (.int .i64 t) := cell_of_block hb4 rfl
           have b3 : w4.cell? ⟨W.heap.size, 3, none⟩ = some (.int .i64 tx) := cell_of_block hb4 rfl
           have b4 : w4.cell? ⟨W.heap.size, 4, none⟩ = some (.bool y) := cell_of_block hb4 rfl
           have b5 : w4.cell? ⟨W.heap.size, 5, none⟩ = some (.slice oa ps'.length cap) := cell_of_block hb4 rfl
           have f3 : w4.frozen? ⟨W.heap.size, 3, none⟩ = false := free_of_block hb4
           simp only [hw2]
           clear hC4 hc4 hW4 hq hb4 hw1 hw2)
        | (go_at_call 13; fail))
      have HMg := Lib.hid (show mget [((K : Int), x)] tx = none from by rw [mget_cons, if_neg (fun e => HMg0.out e.symm)]; rfl)
      have HIT := Lib.hid HIn.out.2
      rcases not_asks HA.out with h1 | ⟨h1, h2⟩ | ⟨h1, h2, h3⟩ | ⟨h1, h2, h3, h4⟩ | ⟨h1, h2, h3, h4, h5⟩ | ⟨h1, h2, h3, h4, h5, h6⟩ | ⟨h1, h2, h3, h4, h5, h6, h7, h8, rfl⟩ | ⟨h1, h2, h3, h4, h5, h6, h7, h8, rfl⟩ | ⟨h1, h2, h3, h4, h5, h6, h7, h8⟩
      all_goals go_wp2_with (first
        | (go_at_call 13; refine (take_not _ HCo4.out kd f t tx _ oa cap ps' (HM.out.keptW HW4.out) HA.out HMg.out).mono ?_; rintro e w5 ⟨rfl, hc5⟩
           have HC5 := Lib.hid hc5
           have hb5 := hc5.at HB4.out id
           have ha5 := (Chg.refl (fun _ => False) w5).alloc (.cells #[.slice none 0 0, .int .i64 0, .int .i64 0, .int .i64 0] 36)
           have hb6 := ha5.at hb5 id
           have e0 : (w5.alloc (.cells #[.slice none 0 0, .int .i64 0, .int .i64 0, .int .i64 0] 36)).cell? ⟨W.heap.size, 0, none⟩ = some (.int .i64 _) := cell_of_block hb6 rfl
           have e1 : (w5.alloc (.cells #[.slice none 0 0, .int .i64 0, .int .i64 0, .int .i64 0] 36)).cell? ⟨W.heap.size, 1, none⟩ = some (.int .i64 f) := cell_of_block hb6 rfl
           have e2 : (w5.alloc (.cells #[.slice none 0 0, .int .i64 0, .int .i64 0, .int .i64 0] 36)).cell? ⟨W.heap.size, 2, none⟩ = some (.int .i64 _) := cell_of_block hb6 rfl
           have e3 : (w5.alloc (.cells #[.slice none 0 0, .int .i64 0, .int .i64 0, .int .i64 0] 36)).cell? ⟨W.heap.size, 3, none⟩ = some (.int .i64 tx) := cell_of_block hb6 rfl
           have e4 : (w5.alloc (.cells #[.slice none 0 0, .int .i64 0, .int .i64 0, .int .i64 0] 36)).cell? ⟨W.heap.size, 4, none⟩ = some (.bool _) := cell_of_block hb6 rfl
           have e5 : (w5.alloc (.cells #[.slice none 0 0, .int .i64 0, .int .i64 0, .int .i64 0] 36)).cell? ⟨W.heap.size, 5, none⟩ = some (.slice oa ps'.length cap) := cell_of_block hb6 rfl
           clear hc5 hb5 ha5 hb6 b0 b1 b2 b3 b4 b5
           unfold saidV)
        | (go_at_call 14; refine (same_nil _).mono ?_; rintro e w6 ⟨rfl, hc6⟩
           have HC6 := Lib.hid ((HC5.out.trans' (((Chg.refl (fun _ => False) w5).alloc _).alloc _)).trans' hc6)
           have HW6 := Lib.hid (HW4.out.trans' (HC6.out.mono (fun _ _ h => h.elim)))
           have g3 : w6.cell? ⟨W.heap.size, 3, none⟩ = some (.int .i64 tx) := cell_of_block (HC6.out.at HB4.out id) rfl
           have HCo6 := Lib.hid (HCo4.out.fresh HC6.out)
           clear hc6 e0 e1 e2 e3 e4 e5)
        | (go_at_call 15; refine (state_new _ HCo6.out tx HMg.out HIT.out).mono ?_; rintro e w7 ⟨rfl, rfl⟩)
        | (go_at_call 17; refine (open_one' _ HCo6.out).mono ?_; rintro e w7 ⟨v7, rfl, ho7, hc7⟩; have HC7 := Lib.hid hc7; have HO7 := Lib.hid ho7; clear ho7 hc7)
        | (go_at_call 16; refine (same_numbers _ (HO7.out.kept ((Chg.refl _ _).alloc _)) (slat_new w7 K) (by simp)).mono ?_; rw [decide_eq_true (rfl : [(K : Int)] = [(K : Int)])]; rintro e w8 ⟨rfl, hc8⟩
           have HC8 := Lib.hid ((((Chg.refl (fun _ => False) w7).alloc _).trans' hc8))
           clear hc8)
        | (go_at_call 18; refine (works_any _).mono ?_; rintro e w9 ⟨rfl, hc9⟩; have HC9 := Lib.hid hc9; clear hc9))
      all_goals go_ret
      all_goals exact ⟨rfl, ((((HW6.out.mono (fun k h1 h2 => by omega) : Chg (fun _ => False) W w6).trans' HC7.out).trans' HC8.out).trans' HC9.out)⟩

set_option maxRecDepth 100000 in
theorem lifted (os : Os) (started : os.Started) (H : Type) (enc : TypeId × Value → H) :
    ReturnsInHanded {} Try.checked os 3 .any (Rows.coordPresumesSpec.pre6 enc Try.prog Try.f3 [] false) (Rows.coordPresumesSpec.post enc Try.prog Try.f3 false true false false) := by
  refine law_handed (C := Try.checked) (tb := 4) own started (by kernel_rfl) Try.func3
    (ChangeSpec.witness6 (enc := enc) (C := Try.checked) false ⟨#[], #[.agg #[.int .i64 0, .int .i64 0, .int .i64 0, .int .i64 0, .bool false, .slice none 0 0], .int .i64 0], []⟩ 8 (by kernel_rfl) (by kernel_rfl) (by kernel_rfl) (by kernel_rfl))
    laidOut (by rw [show Try.checked.prog = Try.prog from rfl, Try.params3]; intro t ht; simp at ht; rcases ht with rfl | rfl <;> exact ⟨by kernel_rfl, of_decide_eq_true (by kernel_rfl)⟩) rfl rfl Try.underlying4 ?_ ?_
  · intro ds hds
    rw [Try.params3] at hds
    match ds, hds with
    | [_, _], _ => rfl
  · intro W base args ds before hval0 hA0 _ hsz0
    have hval : ∀ (j : Nat) t v, Try.f3.params[j]? = some t → args[j]? = some v → Value.okWide Try.prog W .any base t v := hval0
    have hA : DataW.TrodAll enc Try.prog W 0 (fun _ => true) true Try.f3.params.toList args.toList ds before := hA0
    rw [Try.params3] at hA hval
    obtain ⟨v0, vs0, d0, ds0, p0, q0, hargs, rfl, rfl, h0, r0⟩ := trodAll_cons hA
    obtain ⟨v1, vs1, d1, ds1, p1, q1, rfl, rfl, rfl, h1, r1⟩ := trodAll_cons r0
    obtain ⟨rfl, rfl, rfl⟩ := trodAll_nil r1
    obtain rfl : args = #[v0, v1] := by cases args; simp_all
    obtain ⟨kd0, f0, t0, tx0, y0, oa0, cap0, ps0, rfl, m0, ikd0, if0, it0, itx0⟩ := open_msg (hval 0 24 v0 rfl rfl) h0
    obtain ⟨a1, rfl, rfl, rfl, w1⟩ := open_int Try.underlying3 (hval 1 3 v1 rfl rfl) h1
    exact walk W kd0 f0 t0 tx0 y0 oa0 cap0 ps0 m0 ikd0 if0 it0 itx0 a1 (wf_inR w1)

theorem over : Rows.coordPresumesRow.holds Try.pinned (OpenSpec.ofChange Rows.coordPresumesSpec) :=
  OpenClaim.holds_of_wide 3 Try.f3 rfl rfl rfl rfl rfl rfl rfl ⟨rfl, rfl, rfl, rfl, rfl⟩ rfl rfl rfl rfl rfl (by kernel_rfl) Try.func3 (by kernel_rfl)
    (of_decide_eq_true (by kernel_rfl)) (by unfold Func.isWrapper; first | (rw [if_pos (by decide +kernel)]; kernel_rfl) | (rw [if_neg (by decide +kernel)]; exact ⟨rfl, rfl⟩))
    (fun os started H enc _ => lifted os started H enc)

theorem proved : Rows.CoordPresumesSaid := over
#print axioms proved


end Go.Proofs.Ytogjjkbgagedpaa.coordPresumes
