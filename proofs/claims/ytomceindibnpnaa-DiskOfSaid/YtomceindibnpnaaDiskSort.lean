/-
  disk: the library's sort at the list of what waits.
-/
import Derived.Test.YtomceindibnpnaaDiskLay
import Derived.Shelf.SlSortCmp.NoneTotal
namespace Go.Proofs.Ytomceindibnpnaa.disks
open Go.RowKit Go.Maps Go.My Go.ChangeMaps Go.Shelf Go.Lib Go.Sort
set_option maxRecDepth 100000

/-- A Wait's two cells. -/
def encW (x : Nat × Nat) : List Value := [.int .i64 ((x.1 % 4096 : Nat) : Int), .int .i64 (x.2 : Int)]

def cfW (x y : Nat × Nat) : Int := ((x.1 % 4096 : Nat) : Int) - ((y.1 % 4096 : Nat) : Int)

theorem ltW (x y : Nat × Nat) : ltOf cfW x y = decide (x.1 % 4096 < y.1 % 4096) := by
  unfold ltOf cfW
  by_cases h : x.1 % 4096 < y.1 % 4096
  · simp only [h, decide_true, decide_eq_true_eq]; omega
  · simp only [h, decide_false, decide_eq_false_iff_not]; omega

theorem swoW : SWO (ltOf cfW) where
  irrefl x := by rw [ltW]; simp
  trans x y z h1 h2 := by rw [ltW] at *; simp at *; omega
  ntrans x y z h1 h2 := by rw [ltW] at *; simp at *; omega

set_option maxHeartbeats 1000000 in
theorem closure_any (x y : Nat × Nat) (W : World) : Calls Try.prog 65 #[.agg (encW x).toArray, .agg (encW y).toArray] W fun e w' => e = .returned (.int .i64 (cfW x y)) ∧ ∃ q os', w' = Go.Sort.grow (W.drewN q) os' := by
  unfold encW cfW
  obtain ⟨a, ha⟩ : ∃ a : Int, ((x.1 % 4096 : Nat) : Int) = a := ⟨_, rfl⟩
  obtain ⟨b, hb⟩ : ∃ b : Int, ((y.1 % 4096 : Nat) : Int) = b := ⟨_, rfl⟩
  have ha1 : 0 ≤ a ∧ a < 4096 := by omega
  have hb1 : 0 ≤ b ∧ b < 4096 := by omega
  rw [ha, hb]
  clear ha hb
  have hw : wrap64 (a - b) = a - b := IntWalk.wrap64_in _ (by omega)
  go_enter Try.func65, Try.ntmps65
  go_wp2
  go_ret
  refine ⟨?_, 0, _, by rw [alloc_eq_grow, alloc_eq_grow, grow_grow]; rfl⟩
  simp [hw]

theorem cmpW (blk off size : Nat) (w : World) : CmpLays Try.prog 65 #[] encW 2 cfW blk off size w := fun _ _ _ _ x y => closure_any x y _

theorem size_wait : ∀ w, (Go.sizeOf 114).run Try.prog w = .ok 2 w := Try.sizeOf114
theorem agg_wait : ∀ w, (isAgg 114).run Try.prog w = .ok true w := Try.isAgg114

theorem sort_any (w : World) {base : Nat} {v : Value} {ws : List (Nat × Nat)} (h : OwnRecs w base 114 2 v (ws.map encW)) (hn : ws.length ≤ 4096) :
    Calls Try.prog 64 #[v, .func (.func 65) #[] #[]] w fun e w' => e = .returned (.tuple #[]) ∧
      ∃ ws' : List (Nat × Nat), ws'.Perm ws ∧ ws'.Pairwise (fun a b => a.1 % 4096 ≤ b.1 % 4096) ∧ OwnRecs w' base 114 2 v (ws'.map encW) ∧ Chg (fun j => some j = v.ownBlock) w w' := by
  obtain ⟨oa, cap, rfl, -⟩ := h.slice
  rw [List.length_map] at *
  rcases ws with _ | ⟨x0, ws0⟩
  · refine (AnyF.slices_SortFunc_none (P := Try.prog) (ρ := sortW_ren) { sortW with } oa cap (.func (.func 65) #[] #[]) w).mono ?_
    rintro e w' ⟨rfl, rfl⟩
    exact ⟨rfl, [], List.Perm.refl _, List.Pairwise.nil, h, Chg.refl _ _⟩
  · obtain ⟨ws, hws⟩ : ∃ ws, ws = x0 :: ws0 := ⟨_, rfl⟩
    rw [← hws] at h hn ⊢
    have hpos : 0 < (ws.map encW).length := by rw [hws]; simp
    obtain ⟨g, cap', e1, -, -, hg, -, -⟩ := h.cell hpos
    simp only [Value.slice.injEq] at e1
    obtain ⟨rfl, -, -⟩ := e1
    have eg : ∀ args w, (callFunc 65 args).run Try.prog w = .ok (.enter 65 args) w := enters_of Try.func65 (by kernel_rfl) rfl
    have hcon := AnyQ.slices_SortFunc (P := Try.prog) (ρ := sortW_ren) sortW 2 agg_wait size_wait encW (fun _ => rfl) (fun x v hv => by simp [encW] at hv; rcases hv with rfl | rfl <;> rfl) cfW swoW 65 #[] g 0 cap ws.toArray w eg (cmpW g 0 _ w)
      (recs_holds encW 2 (fun _ => rfl) h) hg (by rw [List.size_toArray]; omega)
    rw [List.size_toArray] at hcon
    refine hcon.mono ?_
    rintro e w' ⟨rfl, d', n, os, hp, hs, rfl⟩
    obtain ⟨h1, -, h2⟩ := hp
    have h1' : d'.size = ws.length := by simpa using h1
    have e2 : (d'.extract 0 ws.length).toList = d'.toList := by rw [← h1']; simp
    have e3 : (ws.toArray.extract 0 ws.length).toList = ws := by simp
    rw [e2, e3] at h2
    have hl : d'.toList.length = ws.length := h2.length_eq
    refine ⟨rfl, d'.toList, h2, ?_, ?_, (chg_sorted encW 2 w g n d' os).mono (fun j _ e => by rw [e]; rfl)⟩
    · rw [List.pairwise_iff_getElem]
      intro i j hi hj hij
      have := hs i j (Nat.zero_le _) hij (by rw [← h1']; simpa using hj)
      rw [ltW, getElem!_pos d' j (by simpa using hj), getElem!_pos d' i (by simpa using hi)] at this
      simpa using this
    · have := recs_sorted encW 2 (fun _ => rfl) (d' := d'.toList) h hl n os
      rw [hl] at this
      simpa using this

end Go.Proofs.Ytomceindibnpnaa.disks
