/-
  GENERAL: arguments that are slices of records, opened cell by cell.
-/
import Derived.Test.YtogjjkbgagedpaaLaw
import Derived.Deep.Slices
namespace Go.My
open Go.ChangeShapes Go.WideShapes Go.RowKit Go.Deep

/-- A slice (its address) of records of n cells each. -/
structure RowsAt (w : World) (n : Nat) (oa : Option Addr) (l : List (List Value)) : Prop where
  spot : l ≠ [] → ∃ b off, oa = some ⟨b, off, none⟩
  row : ∀ (i : Nat) (r : List Value), l[i]? = some r → r.length = n
  cell : ∀ (b off : Nat), oa = some ⟨b, off, none⟩ → ∀ (i : Nat) (r : List Value) (j : Nat) (v : Value), l[i]? = some r → r[j]? = some v → w.cell? ⟨b, off + i * n + j, none⟩ = some v

theorem RowsAt.lt {w : World} {n : Nat} {oa : Option Addr} {l : List (List Value)} (h : RowsAt w n oa l) (hn : 0 < n) {b off : Nat} (ho : oa = some ⟨b, off, none⟩) (hl : l ≠ []) : b < w.heap.size := by
  cases l with
  | nil => exact absurd rfl hl
  | cons r l =>
    have h1 := h.row 0 r rfl
    cases r with
    | nil => simp at h1; omega
    | cons v r => exact World.block_lt_of_cell? _ _ (h.cell b off ho 0 _ 0 v rfl rfl)

theorem RowsAt.kept {w w' : World} {n : Nat} {oa : Option Addr} {l : List (List Value)} (h : RowsAt w n oa l) {S : Nat → Prop} (hc : Chg S w w') (hs : ∀ k, k < w.heap.size → ¬ S k) : RowsAt w' n oa l :=
  ⟨h.spot, h.row, fun b off ho i r j v hi hj => by
    have h1 := h.cell b off ho i r j v hi hj
    exact hc.cell h1 (hs _ (World.block_lt_of_cell? _ _ h1))⟩

section
variable {H : Type} {enc : TypeId × Value → H} {P : Program}

theorem open_rows {W : World} {base : Nat} {sp : Nat → Bool} {held : Bool} {t e n : Nat} {v : Value} {d : DataW H} {ps : List MemPlace} {r : Reach} {b0 : Nat} (ht : P.underlying t = some (.slice e)) (hc : P.cellsOf e = n) (hn : 0 < n)
    (hv : Value.okWide P W r b0 t v) (h : DataW.Trod enc P W base sp held t v d ps) :
    ∃ (oa : Option Addr) (l : List (List Value)) (cap : Nat), v = .slice oa l.length cap ∧ l.length ≤ cap ∧ cap ≤ maxLen ∧ RowsAt W n oa l ∧ (∀ x ∈ l, ∃ fuel y, DataW.trod enc P W base sp held fuel e x = some y) := by
  obtain ⟨a0, len0, cap0, rfl⟩ := okWide_slice ht hv
  obtain ⟨fuel, hf⟩ := h
  rcases open_slice ht hf with ⟨h1, _⟩ | ⟨a, len, cap, m, k, D, Pl, h1, hb, hl, hm, hmm, _, hx⟩
  · simp only [Value.cells, List.cons.injEq, Value.slice.injEq, and_true] at h1
    obtain ⟨rfl, rfl, rfl⟩ := h1
    exact ⟨none, [], 0, rfl, Nat.le_refl _, by unfold maxLen; omega, ⟨fun h => absurd rfl h, by simp, by simp⟩, by simp⟩
  · simp only [Value.cells, List.cons.injEq, Value.slice.injEq, and_true] at h1
    obtain ⟨rfl, rfl, rfl⟩ := h1
    have hle : len0 ≤ m := by rw [hmm]; split <;> omega
    obtain ⟨R, hR⟩ := choose_lt (α := List Value) (n := len0) (p := fun i cs' => W.cells? base (a.add (i * n)) n = some cs' ∧ DataW.trod enc P W base sp held k e cs' = some (D i, Pl i)) (fun i hi => by
      obtain ⟨cs', h1, h2⟩ := hx i (by omega)
      rw [hc] at h1
      exact ⟨cs', h1, h2⟩)
    refine ⟨some a, (List.range len0).map R, cap0, by simp, by simpa using hl, hm, ⟨?_, ?_, ?_⟩, ?_⟩
    · intro hne
      have h0 : 0 < len0 := by
        rcases Nat.eq_zero_or_pos len0 with h | h
        · subst h; simp at hne
        · exact h
      obtain ⟨h1, _⟩ := hR 0 h0
      obtain ⟨_, h2, h3⟩ := World.cells?_some h1
      have h4 := h3 0 hn
      have h5 : a.add (0 * n) = a := by simp [Addr.add]
      rw [h5] at h4
      have h6 : a.add 0 = a := by simp [Addr.add]
      rw [h6, List.getElem?_eq_getElem (by omega)] at h4
      obtain ⟨bl, of, spt⟩ := a
      cases spt with
      | none => exact ⟨bl, of, rfl⟩
      | some s =>
        unfold World.cell? at h4
        cases hh : W.heap[bl]? with
        | none => simp [hh] at h4
        | some o => cases o <;> simp [hh] at h4
    · intro i r hr
      simp only [List.getElem?_map, Option.map_eq_some_iff] at hr
      obtain ⟨i', hi', rfl⟩ := hr
      obtain ⟨hlt, rfl⟩ := List.getElem?_eq_some_iff.1 hi'
      simp only [List.length_range] at hlt
      simp only [List.getElem_range]
      obtain ⟨h1, _⟩ := hR i hlt
      exact (World.cells?_some h1).2.1
    · intro b off hab i r j v hi hj
      cases hab
      simp only [List.getElem?_map, Option.map_eq_some_iff] at hi
      obtain ⟨i', hi', rfl⟩ := hi
      obtain ⟨hlt, rfl⟩ := List.getElem?_eq_some_iff.1 hi'
      simp only [List.length_range] at hlt
      simp only [List.getElem_range] at hj
      obtain ⟨h1, _⟩ := hR i hlt
      obtain ⟨_, h2, h3⟩ := World.cells?_some h1
      have hjn : j < n := by have := (List.getElem?_eq_some_iff.1 hj).1; omega
      have h4 := h3 j hjn
      rw [hj] at h4
      rw [← h4]
      congr 1
      unfold Addr.add
      by_cases e1 : i * n = 0 <;> by_cases e2 : j = 0 <;> simp [e1, e2]
    · intro x hx'
      simp only [List.mem_map, List.mem_range] at hx'
      obtain ⟨i, hi, rfl⟩ := hx'
      exact ⟨_, _, (hR i hi).2⟩

/-- A record of integers only. -/
theorem ints_of_struct {W : World} {base : Nat} {sp : Nat → Bool} {held : Bool} {e n fuel : Nat} {q : IntKind} {fs : Array Field} {cs : List Value} {y : DataW H × List MemPlace} (he : P.underlying e = some (.struct fs)) (hc : P.cellsOf e = n) (hn : fs.size = n)
    (hf : ∀ (i : Nat) (f : Field), fs[i]? = some f → f.offset = i ∧ P.underlying f.type = some (.int q) ∧ P.cellsOf f.type = 1) (h : DataW.trod enc P W base sp held fuel e cs = some y) :
    ∃ zs : List Int, cs = zs.map (.int q) ∧ zs.length = n ∧ ∀ z ∈ zs, (Lit.int q z).wf = true := by
  obtain ⟨xs, k, _, _, hlen, hxs, hx⟩ := DataW.trod_struct he h
  rw [hc] at hlen
  have one : ∀ i, i < n → ∃ z, cs[i]? = some (.int q z) ∧ (Lit.int q z).wf = true := by
    intro i hi
    have hfi : fs[i]? = some (fs[i]'(by omega)) := Array.getElem?_eq_getElem (by omega)
    obtain ⟨h1, h2, h3⟩ := hf i _ hfi
    have h4 := hx i _ hfi
    have hix : i < xs.length := by rw [hxs]; omega
    rw [List.getElem?_eq_getElem hix] at h4
    obtain ⟨z, h5, _, h6⟩ := DataW.trod_int h2 h4
    refine ⟨z, ?_, h6⟩
    rw [h1, h3] at h5
    have : ((cs.drop i).take 1)[0]? = some (.int q z) := by rw [h5]; rfl
    rwa [List.getElem?_take_of_lt (by omega), List.getElem?_drop, Nat.add_zero] at this
  obtain ⟨Z, hZ⟩ := choose_lt (α := Int) one
  refine ⟨(List.range n).map Z, ?_, by simp, ?_⟩
  · apply List.ext_getElem?
    intro i
    by_cases hi : i < n
    · rw [(hZ i hi).1]; simp [hi]
    · rw [List.getElem?_eq_none (l := cs) (by omega), List.getElem?_eq_none (by simp; omega)]
  · intro z hz
    simp only [List.mem_map, List.mem_range] at hz
    obtain ⟨i, hi, rfl⟩ := hz
    exact (hZ i hi).2

end
end Go.My
