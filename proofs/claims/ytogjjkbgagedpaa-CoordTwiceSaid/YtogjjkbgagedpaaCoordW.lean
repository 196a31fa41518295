/-
  coord's laws: wire.Check and Take of any message.
-/
import Derived.Test.YtogjjkbgagedpaaCoordV
namespace Go.Proofs.Ytogjjkbgagedpaa.coords
open Go.RowKit Go.Maps Go.My Go.ChangeMaps
set_option maxRecDepth 100000

variable {w w' : World} {c q x qa : Nat} {F F' Fc : Nat → Prop} {lim : Int} {m : List (Int × Nat)} {E : EV} {pv : Value}

def Down (kd : Int) : Prop := kd = 1 ∨ kd = 3 ∨ kd = 4
def GoesP (kd f t : Int) : Prop := (Down kd ∧ (1 ≤ t ∧ t ≤ 6) ∧ f = 0) ∨ (¬ Down kd ∧ (1 ≤ f ∧ f ≤ 6) ∧ t = 0)

instance (kd : Int) : Decidable (Down kd) := by unfold Down; infer_instance
instance (kd f t : Int) : Decidable (GoesP kd f t) := by unfold GoesP; infer_instance

set_option maxHeartbeats 400000 in
theorem goes_any (w : World) (kd f t : Int) : Calls Try.prog 57 #[.agg #[.int .i64 f, .int .i64 t], .int .i64 kd] w fun e w' => e = .returned (.bool (decide (GoesP kd f t))) ∧ Chg (fun _ => False) w w' := by
  by_cases hd : Down kd
  · have hb : (kd == 1) = true ∨ ((kd == 1) = false ∧ (kd == 3) = true) ∨ ((kd == 1) = false ∧ (kd == 3) = false ∧ (kd == 4) = true) := by unfold Down at hd; simp; omega
    have hr : decide (GoesP kd f t) = (decide (1 ≤ t ∧ t ≤ 6) && (f == 0)) := by
      rw [show (f == 0) = decide (f = 0) from by by_cases h : f = 0 <;> simp [h]]
      unfold GoesP
      simp [hd]
    rw [hr]
    obtain ⟨b, hbb⟩ : ∃ b, decide (1 ≤ t ∧ t ≤ 6) = b := ⟨_, rfl⟩
    rw [hbb]
    have HBb := Lib.hid hbb
    clear hr hd hbb
    rcases hb with h1 | ⟨h1, h3⟩ | ⟨h1, h3, h4⟩ <;> cases b
    all_goals go_enter Try.func57, Try.ntmps57
    all_goals go_wp2_with (go_at_call 76; refine (root_any _ _).mono ?_; rw [HBb.out]; rintro e w1 ⟨rfl, rfl⟩)
    all_goals go_ret
    all_goals exact ⟨rfl, (Chg.refl _ _).alloc _⟩
  · have h1 : (kd == 1) = false := by unfold Down at hd; simp; omega
    have h3 : (kd == 3) = false := by unfold Down at hd; simp; omega
    have h4 : (kd == 4) = false := by unfold Down at hd; simp; omega
    have hr : decide (GoesP kd f t) = (decide (1 ≤ f ∧ f ≤ 6) && (t == 0)) := by
      rw [show (t == 0) = decide (t = 0) from by by_cases h : t = 0 <;> simp [h]]
      unfold GoesP
      simp [hd]
    rw [hr]
    obtain ⟨b, hbb⟩ : ∃ b, decide (1 ≤ f ∧ f ≤ 6) = b := ⟨_, rfl⟩
    rw [hbb]
    have HBb := Lib.hid hbb
    clear hr hd hbb
    cases b
    all_goals go_enter Try.func57, Try.ntmps57
    all_goals go_wp2_with (go_at_call 76; refine (root_any _ _).mono ?_; rw [HBb.out]; rintro e w1 ⟨rfl, rfl⟩)
    all_goals go_ret
    all_goals exact ⟨rfl, (Chg.refl _ _).alloc _⟩

/-- A message that a root may send, and the coordinator takes. -/
structure Up (kd f t tx : Int) (y : Bool) (n : Nat) : Prop where
  kind : kd = 2 ∨ kd = 5 ∨ kd = 6
  from' : 1 ≤ f ∧ f ≤ 6
  to' : t = 0
  txn : 1 ≤ tx ∧ tx ≤ 1099511627776
  yes : y = true → kd = 2
  packs : n = 0

structure MsgOk (w : World) (oa : Option Addr) (cap : Nat) (ps : List (List Value)) : Prop where
  rows : RowsAt w 4 oa ps
  each : ∀ r ∈ ps, PackOk w r
  hcap : ps.length ≤ cap
  hcapm : cap ≤ maxLen

theorem MsgOk.kept {oa : Option Addr} {cap : Nat} {ps : List (List Value)} (h : MsgOk w oa cap ps) (hc : Chg (fun _ => False) w w') : MsgOk w' oa cap ps :=
  ⟨h.rows.kept hc (fun _ _ h => h), fun r hr => (h.each r hr).kept hc, h.hcap, h.hcapm⟩


set_option maxHeartbeats 1000000 in
theorem wire_bad (w : World) (kd f t tx : Int) (y : Bool) (oa : Option Addr) (cap : Nat) (ps : List (List Value)) (h : MsgOk w oa cap ps) (hv : ¬ Up kd f t tx y ps.length) :
    Calls Try.prog 35 #[.agg #[.int .i64 kd, .int .i64 f, .int .i64 t, .int .i64 tx, .bool y, .slice oa ps.length cap]] w fun e w' => (∃ n, e = .returned (.int .i64 n) ∧ (n = 0 → ¬ t = 0)) ∧ Chg (fun _ => False) w w' := by
  have H := Lib.hid h
  have HV := Lib.hid hv
  clear h hv
  by_cases k1 : kd < 1
  · go_enter Try.func35, Try.ntmps35
    go_wp2_with fail
    go_ret
    exact ⟨⟨_, rfl, fun h => absurd h (by decide)⟩, (Chg.refl _ _).alloc _⟩
  by_cases k6 : 6 < kd
  · go_enter Try.func35, Try.ntmps35
    go_wp2_with fail
    go_ret
    exact ⟨⟨_, rfl, fun h => absurd h (by decide)⟩, (Chg.refl _ _).alloc _⟩
  have HK := Lib.hid (And.intro k1 k6)
  by_cases hg : GoesP kd f t
  · have HG := Lib.hid hg
    clear hg
    by_cases t1 : tx < 1
    · go_enter Try.func35, Try.ntmps35
      go_wp2_with (go_at_call 57; refine (goes_any _ kd f t).mono ?_; rw [decide_eq_true HG.out]; rintro e w1 ⟨rfl, hc1⟩
                   have hA := hc1.at (block_alloc_new w _) id
                   have q0 := cell_of_block (i := 0) hA rfl
                   have q3 := cell_of_block (i := 3) hA rfl
                   have q4 := cell_of_block (i := 4) hA rfl
                   have q5 := cell_of_block (i := 5) hA rfl
                   have HC1 := Lib.hid hc1
                   clear hA hc1)
      go_ret
      exact ⟨⟨_, rfl, fun h => absurd h (by decide)⟩, ((Chg.refl _ _).alloc _).trans' HC1.out⟩
    by_cases t2 : 1099511627776 < tx
    · go_enter Try.func35, Try.ntmps35
      go_wp2_with (go_at_call 57; refine (goes_any _ kd f t).mono ?_; rw [decide_eq_true HG.out]; rintro e w1 ⟨rfl, hc1⟩
                   have hA := hc1.at (block_alloc_new w _) id
                   have q0 := cell_of_block (i := 0) hA rfl
                   have q3 := cell_of_block (i := 3) hA rfl
                   have q4 := cell_of_block (i := 4) hA rfl
                   have q5 := cell_of_block (i := 5) hA rfl
                   have HC1 := Lib.hid hc1
                   clear hA hc1)
      go_ret
      exact ⟨⟨_, rfl, fun h => absurd h (by decide)⟩, ((Chg.refl _ _).alloc _).trans' HC1.out⟩
    have HT := Lib.hid (And.intro t1 t2)
    by_cases hy : y = true ∧ ¬ kd = 2
    · obtain ⟨rfl, hk2⟩ := hy
      have hk2b : (kd == 2) = false := by simp [hk2]
      go_enter Try.func35, Try.ntmps35
      go_wp2_with (go_at_call 57; refine (goes_any _ kd f t).mono ?_; rw [decide_eq_true HG.out]; rintro e w1 ⟨rfl, hc1⟩
                   have hA := hc1.at (block_alloc_new w _) id
                   have q0 := cell_of_block (i := 0) hA rfl
                   have q3 := cell_of_block (i := 3) hA rfl
                   have q4 := cell_of_block (i := 4) hA rfl
                   have q5 := cell_of_block (i := 5) hA rfl
                   have HC1 := Lib.hid hc1
                   clear hA hc1)
      go_ret
      exact ⟨⟨_, rfl, fun h => absurd h (by decide)⟩, ((Chg.refl _ _).alloc _).trans' HC1.out⟩
    by_cases hp : 0 < ps.length ∧ ¬ kd = 1
    · obtain ⟨hp, hk1⟩ := hp
      have hpi : (0 : Int) < (ps.length : Int) := by omega
      have hk1b : (kd == 1) = false := by simp [hk1]
      have hy' : y = false ∨ (y = true ∧ (kd == 2) = true) := by
        cases y with
        | false => exact Or.inl rfl
        | true => exact Or.inr ⟨rfl, by simpa using hy⟩
      clear hp hk1 hy
      rcases hy' with rfl | ⟨rfl, hk2⟩
      all_goals go_enter Try.func35, Try.ntmps35
      all_goals go_wp2_with (go_at_call 57; refine (goes_any _ kd f t).mono ?_; rw [decide_eq_true HG.out]; rintro e w1 ⟨rfl, hc1⟩
                             have hA := hc1.at (block_alloc_new w _) id
                             have q0 := cell_of_block (i := 0) hA rfl
                             have q3 := cell_of_block (i := 3) hA rfl
                             have q4 := cell_of_block (i := 4) hA rfl
                             have q5 := cell_of_block (i := 5) hA rfl
                             have HC1 := Lib.hid hc1
                             clear hA hc1)
      all_goals go_ret
      all_goals exact ⟨⟨_, rfl, fun h => absurd h (by decide)⟩, ((Chg.refl _ _).alloc _).trans' HC1.out⟩
    · have hdn : Down kd := by
        by_cases hd : Down kd
        · exact hd
        · exfalso
          apply HV.out
          have hk1 : ¬ kd = 1 := fun e => hd (Or.inl e)
          have hkk := HK.out
          have htt := HT.out
          rcases HG.out with ⟨h, -⟩ | ⟨-, hf, ht⟩
          · exact absurd h hd
          · refine ⟨by unfold Down at hd; omega, hf, ht, by omega, fun hy' => ?_, ?_⟩
            · by_cases h2 : kd = 2
              · exact h2
              · exact absurd ⟨hy', h2⟩ hy
            · by_cases h0 : 0 < ps.length
              · exact absurd ⟨h0, hk1⟩ hp
              · omega
      have ht0 : ¬ t = 0 := by
        rcases HG.out with ⟨-, h, -⟩ | ⟨h, -⟩
        · omega
        · exact absurd hdn h
      have hyf : y = false := by
        cases y with
        | false => rfl
        | true => exact absurd ⟨rfl, by unfold Down at hdn; omega⟩ hy
      subst hyf
      have hcase : (kd == 1) = true ∨ ¬ (0 : Int) < (ps.length : Int) := by
        by_cases hk1 : kd = 1
        · exact Or.inl (by simp [hk1])
        · exact Or.inr (fun h => hp ⟨by omega, hk1⟩)
      have HT0 := Lib.hid ht0
      clear hdn ht0 hy hp
      rcases hcase with hkb | hpn
      all_goals go_enter Try.func35, Try.ntmps35
      all_goals go_wp2_with (first
        | (go_at_call 57; refine (goes_any _ kd f t).mono ?_; rw [decide_eq_true HG.out]; rintro e w1 ⟨rfl, hc1⟩
           have hA := hc1.at (block_alloc_new w _) id
           have q0 := cell_of_block (i := 0) hA rfl
           have q3 := cell_of_block (i := 3) hA rfl
           have q4 := cell_of_block (i := 4) hA rfl
           have q5 := cell_of_block (i := 5) hA rfl
           have HC1 := Lib.hid (((Chg.refl (fun _ => False) w).alloc _).trans' hc1)
           clear hA hc1)
        | (go_at_call 55; refine (check_any _ oa cap ps (H.out.kept HC1.out).rows (H.out.kept HC1.out).each H.out.hcap H.out.hcapm).mono ?_; rintro e w2 ⟨⟨n2, rfl⟩, hc2⟩
           have HC2 := Lib.hid (HC1.out.trans' hc2)
           clear hc2))
      all_goals go_ret
      all_goals first
        | exact ⟨⟨_, rfl, fun _ => HT0.out⟩, HC2.out⟩
        | exact ⟨⟨_, rfl, fun _ => HT0.out⟩, HC1.out⟩
  · have HG := Lib.hid hg
    clear hg
    go_enter Try.func35, Try.ntmps35
    go_wp2_with (go_at_call 57; refine (goes_any _ kd f t).mono ?_; rw [decide_eq_false HG.out]; rintro e w1 ⟨rfl, hc1⟩
                 have hA := hc1.at (block_alloc_new w _) id
                 have q0 := cell_of_block (i := 0) hA rfl
                 have q3 := cell_of_block (i := 3) hA rfl
                 have q4 := cell_of_block (i := 4) hA rfl
                 have q5 := cell_of_block (i := 5) hA rfl
                 have HC1 := Lib.hid hc1
                 clear hA hc1)
    go_ret
    exact ⟨⟨_, rfl, fun h => absurd h (by decide)⟩, ((Chg.refl _ _).alloc _).trans' HC1.out⟩

end Go.Proofs.Ytogjjkbgagedpaa.coords
