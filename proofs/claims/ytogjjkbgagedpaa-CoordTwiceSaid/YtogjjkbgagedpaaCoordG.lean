/-
  coord's laws: 'works'.
-/
import Derived.Test.YtogjjkbgagedpaaCoordF
namespace Go.Proofs.Ytogjjkbgagedpaa.coords
open Go.RowKit Go.Maps Go.My Go.ChangeMaps
set_option maxRecDepth 100000

variable {w w' : World} {c q x qa : Nat} {F F' Fc : Nat → Prop} {lim : Int} {m : List (Int × Nat)} {E : EV} {pv : Value}

theorem good12 : Good [1, 2] := by
  refine ⟨by simp, by simp, fun k r h => ?_, by simp⟩
  match k, h with
  | 0, h => cases h; decide
  | 1, h => cases h; decide
  | k + 2, h => simp at h

def E0 : EV := ⟨1, 0, [1, 2], []⟩
theorem yes1 : lacksOf (E0.yes 1) E0.ps.length = [2] := by decide
theorem yes2 : lacksOf ((E0.voted 1).yes 2) (E0.voted 1).ps.length = [] := by decide
theorem st1 : (E0.voted 1).state = 1 := by decide
theorem mem2 : 2 ∈ (E0.voted 1).ps := by decide
theorem st2 : ((E0.voted 1).voted 2).state = 2 := by decide
theorem ps2 : ((E0.voted 1).voted 2).ps = [1, 2] := by decide

theorem rows12 (w : World) : RowsAt (w.alloc (.cells #[.int .i64 1, .slice none 0 0, .int .i64 2, .slice none 0 0] 33)) 2 (some ⟨w.heap.size, 0, none⟩) ([1, 2].map planC) := by
  have hb := block_alloc_new w (.cells #[.int .i64 1, .slice none 0 0, .int .i64 2, .slice none 0 0] 33)
  refine ⟨fun _ => ⟨_, _, rfl⟩, fun i r h => ?_, fun b off ho i r j v hi hj => ?_⟩
  · match i, h with
    | 0, h => cases h; rfl
    | 1, h => cases h; rfl
    | i + 2, h => simp at h
  · cases ho
    match i, hi with
    | 0, hi =>
      cases hi
      match j, hj with
      | 0, hj => cases hj; exact cell_of_block hb rfl
      | 1, hj => cases hj; exact cell_of_block hb rfl
      | j + 2, hj => simp [planC] at hj
    | 1, hi =>
      cases hi
      match j, hj with
      | 0, hj => cases hj; exact cell_of_block hb rfl
      | 1, hj => cases hj; exact cell_of_block hb rfl
      | j + 2, hj => simp [planC] at hj
    | i + 2, hi => simp at hi

set_option maxHeartbeats 1000000 in
theorem works_any (w : World) : Calls Try.prog 18 #[] w fun e w' => e = .returned (.bool true) ∧ Chg (fun _ => False) w w' := by
  go_enter Try.func18, Try.ntmps18
  go_wp2_with (first
    | (go_at_call 10; refine (new_any _ 3 (by omega) (by omega)).mono ?_; rintro e w1 ⟨c, rfl, ⟨q, hC⟩, hc1⟩; have HCo1 := Lib.hid hC; have HC1 := Lib.hid hc1; have HRw := Lib.hid (rows12 w1); have HQ := Lib.hid (show w.heap.size ≤ q from hC.fq.1); unfold ptrV; clear hC hc1)
    | (go_at_call 12; refine (begin_any _ (HCo1.out.fresh ((Chg.refl (fun _ => False) w1).alloc _)) 7 (by decide) [1, 2] good12 _ 2 HRw.out rfl).mono ?_; rintro e w2 ⟨v, x, rfl, ⟨oav, cv, rfl⟩, ⟨Fe, pv, qa, hE, hF⟩, hC, hc2⟩
       have HE2 := Lib.hid (show EntIs w2 x Fe E0 pv qa from hE)
       have HF := Lib.hid hF
       have HCo2 := Lib.hid hC
       have HC2 := Lib.hid hc2
       have hap : ∀ k, Fe k → ¬ born w w1 k := fun k hk hb => by have h1 := hF k hk; have h2 := hb.2; have h3 : w1.heap.size ≤ (w1.alloc (.cells #[.int .i64 1, .slice none 0 0, .int .i64 2, .slice none 0 0] 33)).heap.size := ((Chg.refl (fun _ => False) w1).alloc _).size; omega
       have HAp := Lib.hid hap
       clear hE hF hC hc2 hap)
    | (go_at_call 13; refine (take_vote _ HCo2.out HE2.out 1 7 rfl rfl (by decide) (by decide) HAp.out).mono ?_; rw [yes1, if_neg (by decide)]; rintro e w3 ⟨rfl, hE, hC, hc3⟩
       have HE3 := Lib.hid hE
       have HCo3 := Lib.hid hC
       have HC3 := Lib.hid hc3
       unfold saidV
       have hba := block_alloc_new w3 (.cells #[.slice none 0 0, .int .i64 0, .int .i64 0, .int .i64 0] 36)
       have HBa := Lib.hid hba
       have ha := (Chg.refl (fun _ => False) w3).alloc (.cells #[.slice none 0 0, .int .i64 0, .int .i64 0, .int .i64 0] 36)
       have HHa := Lib.hid ha
       have HNa := Lib.hid (show ¬ Fe w3.heap.size from fun hF => Nat.lt_irrefl _ (HE3.out.lt _ hF))
       clear hE hC hc3 HE2 HCo2 hba ha)
    | (go_at_call 13; refine (take_vote _ (HCo3.out.fresh HHa.out) (HE3.out.fresh HHa.out) 2 7 rfl st1 mem2 (by decide) HAp.out).mono ?_; rw [yes2, if_pos rfl]; rintro e w4 ⟨rfl, hE, hC, hc4⟩
       have HE4 := Lib.hid hE
       have HCo4 := Lib.hid hC
       have HC4 := Lib.hid hc4
       unfold saidV
       have hba := hc4.at HBa.out (fun hF => HNa.out hF)
       have HBa4 := Lib.hid hba
       have hbb := block_alloc_new w4 (.cells #[.slice none 0 0, .int .i64 7, .int .i64 0, .int .i64 0] 36)
       have HBb := Lib.hid hbb
       have hb := (Chg.refl (fun _ => False) w4).alloc (.cells #[.slice none 0 0, .int .i64 7, .int .i64 0, .int .i64 0] 36)
       have HHb := Lib.hid hb
       clear hE hC hc4 HE3 HCo3 hba hbb hb)
    | (go_at_call 25; refine (sure_any _ (HCo4.out.fresh HHb.out) (HE4.out.fresh HHb.out) 7 rfl st2 (by decide) HAp.out).mono ?_; rw [ps2]; rintro e w5 ⟨v, rfl, ho, ⟨F5, qa5, hE⟩, hC, hc5⟩
       obtain ⟨gm, cm, hvm, -, -, -, hcm, -⟩ := ho.cell (k := 1) (by decide)
       have hvm : v = .slice (some ⟨gm, 0, none⟩) 2 cm := hvm
       subst hvm
       have m6 : w5.cell? ⟨gm, 6, none⟩ = some (.int .i64 3) := hcm 0 _ rfl
       have hA := hc5.at (HHb.out.at HBa4.out id) (fun hF => HNa.out hF)
       have hB := hc5.at HBb.out (fun hF => Nat.lt_irrefl _ (HE4.out.lt _ hF))
       have a0 := cell_of_block (i := 0) hA rfl
       have a1 := cell_of_block (i := 1) hA rfl
       have a2 := cell_of_block (i := 2) hA rfl
       have a3 := cell_of_block (i := 3) hA rfl
       have b1 := cell_of_block (i := 1) hB rfl
       have HE5 := Lib.hid hE
       have HCo5 := Lib.hid hC
       have HC5 := Lib.hid hc5
       clear hE hC hc5 ho hcm hA hB)
    | (go_at_call 14; refine (same_nil _).mono ?_; rintro e w6 ⟨rfl, hc6⟩
       have n6 := hc6.cell m6 id
       have n1 := hc6.cell b1 id
       have HC6 := Lib.hid hc6
       clear hc6)
    | (go_at_call 15; refine (state_any _ (HCo5.out.fresh HC6.out) (HE5.out.fresh HC6.out) 7 rfl (by decide)).mono ?_; rintro e w7 ⟨rfl, rfl⟩))
  go_ret
  have s1 := HC1.out.size
  have s2 := HC2.out.size
  have s3 := HC3.out.size
  have s4 := HC4.out.size
  have hq : ∀ k, k = q → w.heap.size ≤ k := fun k e => by
    have := HQ.out
    omega
  have hFe : ∀ k, Fe k → w.heap.size ≤ k := fun k hk => by
    have := HF.out k hk
    have h3 : w1.heap.size ≤ (w1.alloc (.cells #[.int .i64 1, .slice none 0 0, .int .i64 2, .slice none 0 0] 33)).heap.size := ((Chg.refl (fun _ => False) w1).alloc _).size
    omega
  refine ⟨rfl, ?_⟩
  have c2 : Chg (fun _ => False) w w2 := (HC1.out.trans' ((Chg.refl _ _).alloc _)).new HC2.out hq
  have c3 := c2.new HC3.out hFe
  have c4 := (c3.trans' HHa.out).new HC4.out hFe
  have c5 := (c4.trans' HHb.out).new HC5.out hFe
  exact c5.trans' HC6.out

end Go.Proofs.Ytogjjkbgagedpaa.coords
