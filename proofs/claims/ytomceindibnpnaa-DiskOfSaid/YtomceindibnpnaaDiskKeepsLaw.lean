/-
  DiskKeeps: the plain law: what a crash leaves in each block.
-/
import Derived.Test.YtomceindibnpnaaDiskBegun
namespace Go.Proofs.Ytomceindibnpnaa.disks
open Go.RowKit Go.Maps Go.My Go.ChangeMaps
set_option maxRecDepth 100000

/-- How many blocks ahead of i have something that waits. -/
def placeOf (X : DV) (i : Nat) : Nat := ((List.range i).filter (fun j => !(X.L j).isEmpty)).length

theorem placeOf_le (X : DV) (i : Nat) : placeOf X i ≤ i := by
  have := List.length_filter_le (fun j => !(X.L j).isEmpty) (List.range i)
  simpa [placeOf] using this

theorem placeOf_succ (X : DV) (i : Nat) : placeOf X (i + 1) = placeOf X i + if X.L i = [] then 0 else 1 := by
  unfold placeOf
  rw [List.range_succ, List.filter_append, List.length_append]
  by_cases h : X.L i = []
  · simp [h]
  · simp [h]

theorem ws_at {X : DV} {i : Nat} (h : X.L i ≠ []) (hi : i < X.B.length) : (waitsOf X)[placeOf X i]? = some (i, (X.L i).length) := by
  have e : List.range X.B.length = List.range i ++ (i :: List.range' (i + 1) (X.B.length - (i + 1))) := by
    have h1 : List.range X.B.length = List.range i ++ List.range' i (X.B.length - i) := by
      rw [List.range_eq_range', List.range_eq_range']
      have := List.range'_append_1 (s := 0) (m := i) (n := X.B.length - i)
      rw [Nat.zero_add] at this
      rw [this]
      congr 1; omega
    rw [h1, show X.B.length - i = (X.B.length - (i + 1)) + 1 by omega, List.range'_succ]
  unfold waitsOf
  rw [e, List.filter_append, List.filter_cons, if_pos (by simpa using h), List.map_append, List.map_cons]
  rw [List.getElem?_append_right (by simp [placeOf]), List.length_map]
  simp [placeOf]

theorem ws_unique {X : DV} {j k t N M : Nat} (h1 : (waitsOf X)[j]? = some (t, N)) (h2 : (waitsOf X)[k]? = some (t, M)) : j = k := by
  have h := waits_pairwise X
  rw [List.pairwise_iff_getElem] at h
  obtain ⟨hj, e1⟩ := List.getElem?_eq_some_iff.1 h1
  obtain ⟨hk, e2⟩ := List.getElem?_eq_some_iff.1 h2
  rcases Nat.lt_trichotomy j k with hl | hl | hl
  · have := h j k hj hk hl
    rw [e1, e2] at this; simp at this
  · exact hl
  · have := h k j hk hj hl
    rw [e1, e2] at this; simp at this

theorem crashN_B_none (X : DV) (keep : List Int) (k t : Nat) (h : ∀ (j : Nat) (p : Nat × Nat), j < k → (waitsOf X)[j]? = some p → p.1 ≠ t) : (X.crashN keep k).B[t]? = X.B[t]? := by
  induction k with
  | zero => rfl
  | succ k ih =>
    have ih := ih (fun j p hj hp => h j p (by omega) hp)
    rw [DV.crashN]
    split
    · rename_i p hp
      simp only
      split
      · rw [List.getElem?_set_ne (h k p (by omega) hp)]; exact ih
      · exact ih
    · exact ih

theorem crashN_at (X : DV) (keep : List Int) {j t N : Nat} (hj : (waitsOf X)[j]? = some (t, N)) (k : Nat) (hk : j < k) :
    (X.crashN keep k).B[t]? = (if 0 < keepAt keep j N then some (((X.L t)[keepAt keep j N - 1]?).getD []) else X.B[t]?) ∧ (X.crashN keep k).L t = [] := by
  induction k with
  | zero => omega
  | succ k ih =>
    by_cases hjk : j = k
    · subst hjk
      have hno := crashN_B_none X keep j t (fun i p hi hp e => by
        obtain ⟨p1, p2⟩ := p
        simp only at e
        subst e
        have := ws_unique hp hj
        omega)
      have htl := (waitsOf_at hj).1
      rw [crashN_succ X keep hj]
      simp only [if_true, and_true]
      split
      · rw [List.getElem?_set_self (by rw [crashN_len]; exact htl)]
      · exact hno
    · obtain ⟨h1, h2⟩ := ih (by omega)
      rw [DV.crashN]
      split
      · rename_i p hp
        have hpt : p.1 ≠ t := fun e => by
          obtain ⟨p1, p2⟩ := p
          simp only at e
          subst e
          exact hjk (ws_unique hj hp)
        have hL : (if t = p.1 then [] else (X.crashN keep k).L t) = [] := by rw [if_neg (fun e => hpt e.symm)]; exact h2
        refine ⟨?_, hL⟩
        rw [← h1]
        by_cases hc : 0 < keepAt keep k p.2
        · simp only [if_pos hc]
          rw [List.getElem?_set_ne hpt]
        · simp only [if_neg hc]
      · exact ⟨h1, h2⟩

/-- What a crash leaves: in a block with nothing that waits, what was durable; else the last of the writes that are kept. -/
theorem crash_keeps (X : DV) (keep : List Int) {i : Nat} (hi : i < X.B.length) :
    (X.crash keep).L i = [] ∧ (X.L i = [] → (X.crash keep).B[i]? = X.B[i]?) ∧
      (X.L i ≠ [] → (X.crash keep).B[i]? = if 0 < keepAt keep (placeOf X i) (X.L i).length then some (((X.L i)[keepAt keep (placeOf X i) (X.L i).length - 1]?).getD []) else X.B[i]?) := by
  by_cases h : X.L i = []
  · have hno : ∀ (j : Nat) (p : Nat × Nat), j < (waitsOf X).length → (waitsOf X)[j]? = some p → p.1 ≠ i := fun j p _ hp e => by
      obtain ⟨p1, p2⟩ := p
      simp only at e
      subst e
      have := waitsOf_at hp
      rw [h] at this
      simp at this
      omega
    refine ⟨?_, fun _ => crashN_B_none X keep _ i hno, fun hn => absurd h hn⟩
    show (X.crashN keep (waitsOf X).length).L i = []
    rw [crashN_L X keep _ i hno, h]
  · have hw := ws_at h hi
    have hlt : placeOf X i < (waitsOf X).length := (List.getElem?_eq_some_iff.1 hw).1
    obtain ⟨h1, h2⟩ := crashN_at X keep hw (waitsOf X).length hlt
    exact ⟨h2, fun hn => absurd hn h, fun _ => h1⟩

end Go.Proofs.Ytomceindibnpnaa.disks
