/-
  GENERAL: a slice of the call's own whose elements are records of n cells: read, written, appended to.
-/
import Derived.Test.YtogjjkbgagedpaaBase
namespace Go.My
open Go.RowKit

theorem flat_length {α : Type} (n : Nat) : ∀ (l : List (List α)), (∀ r ∈ l, r.length = n) → l.flatten.length = l.length * n
  | [], _ => by simp
  | r :: l, h => by
    have h1 := flat_length n l (fun r hr => h r (by simp [hr]))
    have h2 := h r (by simp)
    simp only [List.flatten_cons, List.length_append, h1, h2, List.length_cons, Nat.succ_mul]; omega

theorem flat_get {α : Type} (n : Nat) : ∀ (l : List (List α)), (∀ r ∈ l, r.length = n) → ∀ (k j : Nat), j < n → l.flatten[k * n + j]? = (l[k]?).bind (fun r => r[j]?)
  | [], _, k, j, _ => by simp
  | r :: l, h, k, j, hj => by
    have h2 := h r (by simp)
    cases k with
    | zero => simp only [Nat.zero_mul, Nat.zero_add, List.flatten_cons, List.getElem?_cons_zero, Option.bind_some]; rw [List.getElem?_append_left (by omega)]
    | succ k =>
      have h1 := flat_get n l (fun r hr => h r (by simp [hr])) k j hj
      simp only [List.flatten_cons, List.getElem?_cons_succ]
      rw [List.getElem?_append_right (by rw [h2, Nat.succ_mul]; omega), h2, show (k + 1) * n + j - n = k * n + j by rw [Nat.succ_mul]; omega, h1]

theorem flat_set {α : Type} (n : Nat) (v : α) : ∀ (l : List (List α)), (∀ r ∈ l, r.length = n) → ∀ (k j : Nat), j < n → l.flatten.set (k * n + j) v = (l.modify k (fun r => r.set j v)).flatten
  | [], _, k, j, _ => by simp
  | r :: l, h, k, j, hj => by
    have h2 := h r (by simp)
    cases k with
    | zero => simp only [Nat.zero_mul, Nat.zero_add, List.flatten_cons, List.modify_zero_cons]; rw [List.set_append_left _ _ (by omega)]
    | succ k =>
      have h1 := flat_set n v l (fun r hr => h r (by simp [hr])) k j hj
      simp only [List.flatten_cons, List.modify_succ_cons]
      rw [List.set_append_right _ _ (by rw [h2, Nat.succ_mul]; omega), h2, show (k + 1) * n + j - n = k * n + j by rw [Nat.succ_mul]; omega, h1]

theorem own_slice {w : World} {base : Nat} {e : TypeId} {size : Nat} {v : Value} {n : Nat} {xs : List Value} (h : w.ownsRow base e size v n xs) : ∃ oa cap, v = .slice oa n cap := by
  rcases h.2 with ⟨rfl, h0⟩ | ⟨g, cap, cur, rfl, _⟩
  · exact ⟨none, 0, by rw [h0]⟩
  · exact ⟨_, cap, rfl⟩

/-- The slice v is the call's own (its block from base on), and its elements are the records l of n cells. -/
structure OwnRecs (w : World) (base : Nat) (e : TypeId) (n : Nat) (v : Value) (l : List (List Value)) : Prop where
  row : w.ownsRow base e n v l.length l.flatten
  each : ∀ r ∈ l, r.length = n

variable {w w' : World} {base : Nat} {e : TypeId} {n : Nat} {v : Value} {l : List (List Value)}

theorem OwnRecs.nil (w : World) (base : Nat) (e : TypeId) (n : Nat) : OwnRecs w base e n (.slice none 0 0) [] := ⟨World.ownsRow_nil _ _ _ _, by simp⟩

theorem OwnRecs.kept (h : OwnRecs w base e n v l) {S : Nat → Prop} (hc : Chg S w w') (hn : ∀ k, v.ownBlock = some k → ¬ S k) : OwnRecs w' base e n v l := by
  refine ⟨?_, h.each⟩
  obtain ⟨h1, h2⟩ := h.row
  refine ⟨h1, ?_⟩
  rcases h2 with h2 | ⟨g, cap, cur, rfl, hb, hg, r⟩
  · exact Or.inl h2
  · exact Or.inr ⟨g, cap, cur, rfl, hb, hc.at hg (hn g rfl), r⟩

theorem OwnRecs.lt (h : OwnRecs w base e n v l) {k : Nat} (hk : v.ownBlock = some k) : base ≤ k ∧ k < w.heap.size := h.row.lt k hk

/-- What the slice's value is, and each of its cells. -/
theorem OwnRecs.cell (h : OwnRecs w base e n v l) {k : Nat} (hk : k < l.length) :
    ∃ g cap, v = .slice (some ⟨g, 0, none⟩) l.length cap ∧ l.length ≤ cap ∧ base ≤ g ∧ g < w.heap.size ∧ (∀ j x, (l[k]'hk)[j]? = some x → w.cell? ⟨g, k * n + j, none⟩ = some x) ∧ (∀ j, w.frozen? ⟨g, j, none⟩ = false) := by
  rcases h.row.2 with ⟨_, h0⟩ | ⟨g, cap, cur, rfl, hb, hg, hc, _, _, ht⟩
  · omega
  · refine ⟨g, cap, rfl, hc, hb, lt_of_block hg, fun j x hx => ?_, fun j => free_of_block hg⟩
    have hr := h.each _ (List.getElem_mem hk)
    have hj : j < n := by have := (List.getElem?_eq_some_iff.1 hx).1; omega
    refine cell_of_block hg ?_
    have h1 := flat_get n l h.each k j hj
    rw [List.getElem?_eq_getElem hk, Option.bind_some, hx, ← ht, List.getElem?_take] at h1
    split at h1
    · simpa using h1
    · cases h1

theorem OwnRecs.cell' {oa : Option Addr} {m cap : Nat} (h : OwnRecs w base e n (.slice oa m cap) l) {k : Nat} (hk : k < l.length) :
    ∃ g, oa = some ⟨g, 0, none⟩ ∧ base ≤ g ∧ g < w.heap.size ∧ (∀ j x, (l[k]'hk)[j]? = some x → w.cell? ⟨g, k * n + j, none⟩ = some x) ∧ (∀ j, w.frozen? ⟨g, j, none⟩ = false) := by
  obtain ⟨g, cap', h1, _, h2, h3, h4, h5⟩ := h.cell hk
  cases h1
  exact ⟨g, rfl, h2, h3, h4, h5⟩

theorem OwnRecs.slice (h : OwnRecs w base e n v l) : ∃ oa cap, v = .slice oa l.length cap ∧ l.length ≤ cap ∧ cap ≤ maxLen := by
  rcases h.row.2 with ⟨rfl, h0⟩ | ⟨g, cap, cur, rfl, hb, hg, hc, hm, _⟩
  · exact ⟨none, 0, by rw [h0], by omega, by unfold maxLen; omega⟩
  · exact ⟨_, cap, rfl, hc, hm⟩

/-- One cell written. -/
theorem OwnRecs.set {g cap : Nat} (h : OwnRecs w base e n (.slice (some ⟨g, 0, none⟩) l.length cap) l) {k j : Nat} (hj : j < n) (x : Value) :
    OwnRecs (w.setCell ⟨g, k * n + j, none⟩ x) base e n (.slice (some ⟨g, 0, none⟩) l.length cap) (l.modify k (fun r => r.set j x)) := by
  have h1 := (h.row.stored (k * n + j) x).1
  rw [flat_set n x l h.each k j hj] at h1
  refine ⟨by rw [List.length_modify]; exact h1, fun r hr => ?_⟩
  obtain ⟨i, hi, rfl⟩ := List.getElem_of_mem hr
  rw [List.getElem_modify]
  split
  · rw [List.length_set]; exact h.each _ (List.getElem_mem _)
  · exact h.each _ (List.getElem_mem _)

theorem OwnRecs.append {m : List (List Value)} (h : w'.ownsRow base e n v (l.length + m.length) (l.flatten ++ m.flatten)) (h1 : ∀ r ∈ l, r.length = n) (h2 : ∀ r ∈ m, r.length = n) : OwnRecs w' base e n v (l ++ m) :=
  ⟨by simpa using h, fun r hr => by rcases List.mem_append.1 hr with hr | hr; exact h1 r hr; exact h2 r hr⟩

theorem cells_new (w : World) (cs : List Value) (t : TypeId) : ∀ (j : Nat) (u : Value), cs[j]? = some u → (w.alloc (.cells cs.toArray t)).cell? ((⟨w.heap.size, 0, none⟩ : Addr).add j) = some u := by
  intro j u hu
  have : (⟨w.heap.size, 0, none⟩ : Addr).add j = ⟨w.heap.size, j, none⟩ := by unfold Addr.add; split <;> simp_all
  rw [this]
  exact cell_of_block (block_alloc_new _ _) (by simpa using hu)

end Go.My
