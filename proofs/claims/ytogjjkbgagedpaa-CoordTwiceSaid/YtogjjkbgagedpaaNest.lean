/-
  GENERAL: slices within records, opened from a reading of cells.
-/
import Derived.Test.YtogjjkbgagedpaaArgs
import Derived.Laws.OwnMore
import Derived.Deep.WholeRow
import Derived.Deep.MidRow
namespace Go.My
open Go.ChangeShapes Go.WideShapes Go.RowKit Go.Deep

section
variable {H : Type} {enc : TypeId × Value → H} {P : Program}

theorem open_rows_trod {W : World} {base : Nat} {sp : Nat → Bool} {held : Bool} {t e n fuel : Nat} {cs : List Value} {y : DataW H × List MemPlace} (ht : P.underlying t = some (.slice e)) (hc : P.cellsOf e = n) (hn : 0 < n)
    (hf : DataW.trod enc P W base sp held fuel t cs = some y) :
    ∃ (oa : Option Addr) (l : List (List Value)) (cap : Nat), cs = [.slice oa l.length cap] ∧ l.length ≤ cap ∧ cap ≤ maxLen ∧ RowsAt W n oa l ∧ (∀ x ∈ l, ∃ fuel y, DataW.trod enc P W base sp held fuel e x = some y) := by
  rcases open_slice ht hf with ⟨h1, _⟩ | ⟨a, len0, cap0, m, k, D, Pl, h1, hb, hl, hm, hmm, _, hx⟩
  · exact ⟨none, [], 0, h1, Nat.le_refl _, by unfold maxLen; omega, ⟨fun h => absurd rfl h, by simp, by simp⟩, by simp⟩
  · subst h1
    have hle : len0 ≤ m := by rw [hmm]; split <;> omega
    obtain ⟨R, hR⟩ := choose_lt (α := List Value) (n := len0) (p := fun i cs' => W.cells? base (a.add (i * n)) n = some cs' ∧ DataW.trod enc P W base sp held k e cs' = some (D i, Pl i)) (fun i hi => by
      obtain ⟨cs', h1, h2⟩ := hx i (by omega)
      rw [hc] at h1
      exact ⟨cs', h1, h2⟩)
    refine ⟨some a, (List.range len0).map R, cap0, by simp, by simpa using hl, hm, ⟨?_, ?_, ?_⟩, ?_⟩
    · intro hne
      have h0 : 0 < len0 := by
        rcases Nat.eq_zero_or_pos len0 with h | h
        · subst h; simp at hne
        · exact h
      obtain ⟨h1, _⟩ := hR 0 h0
      obtain ⟨_, h2, h3⟩ := World.cells?_some h1
      have h4 := h3 0 hn
      have h5 : a.add (0 * n) = a := by simp [Addr.add]
      rw [h5] at h4
      have h6 : a.add 0 = a := by simp [Addr.add]
      rw [h6, List.getElem?_eq_getElem (by omega)] at h4
      obtain ⟨bl, of, spt⟩ := a
      cases spt with
      | none => exact ⟨bl, of, rfl⟩
      | some s =>
        unfold World.cell? at h4
        cases hh : W.heap[bl]? with
        | none => simp [hh] at h4
        | some o => cases o <;> simp [hh] at h4
    · intro i r hr
      simp only [List.getElem?_map, Option.map_eq_some_iff] at hr
      obtain ⟨i', hi', rfl⟩ := hr
      obtain ⟨hlt, rfl⟩ := List.getElem?_eq_some_iff.1 hi'
      simp only [List.length_range] at hlt
      simp only [List.getElem_range]
      obtain ⟨h1, _⟩ := hR i hlt
      exact (World.cells?_some h1).2.1
    · intro b off hab i r j v hi hj
      cases hab
      simp only [List.getElem?_map, Option.map_eq_some_iff] at hi
      obtain ⟨i', hi', rfl⟩ := hi
      obtain ⟨hlt, rfl⟩ := List.getElem?_eq_some_iff.1 hi'
      simp only [List.length_range] at hlt
      simp only [List.getElem_range] at hj
      obtain ⟨h1, _⟩ := hR i hlt
      obtain ⟨_, h2, h3⟩ := World.cells?_some h1
      have hjn : j < n := by have := (List.getElem?_eq_some_iff.1 hj).1; omega
      have h4 := h3 j hjn
      rw [hj] at h4
      rw [← h4]
      congr 1
      unfold Addr.add
      by_cases e1 : i * n = 0 <;> by_cases e2 : j = 0 <;> simp [e1, e2]
    · intro x hx'
      simp only [List.mem_map, List.mem_range] at hx'
      obtain ⟨i, hi, rfl⟩ := hx'
      exact ⟨_, _, (hR i hi).2⟩

/-- Rows of one cell each are a slice that is read. -/
theorem RowsAt.flat {w : World} {oa : Option Addr} {l : List (List Value)} (h : RowsAt w 1 oa l) (cap : Nat) : SlAt w (.slice oa l.length cap) l.flatten := by
  have hl : l.flatten.length = l.length := by
    have : ∀ (l : List (List Value)), (∀ r ∈ l, r.length = 1) → l.flatten.length = l.length := by
      intro l
      induction l with
      | nil => simp
      | cons r l ih => intro h; have h1 := h r (by simp); have h2 := ih (fun r hr => h r (by simp [hr])); simp only [List.flatten_cons, List.length_append, List.length_cons]; omega
    exact this l (fun r hr => by obtain ⟨i, hi, rfl⟩ := List.getElem_of_mem hr; exact h.row i _ (List.getElem?_eq_getElem hi))
  refine ⟨oa, cap, by rw [hl], ?_, ?_⟩
  · intro hne
    exact h.spot (by rintro rfl; exact hne rfl)
  · intro b off ho i x hx
    have hi : i < l.length := by rw [← hl]; exact (List.getElem?_eq_some_iff.1 hx).1
    have h1 := h.row i _ (List.getElem?_eq_getElem hi)
    match hr : l[i], h1 with
    | [u], _ =>
      have h2 := h.cell b off ho i l[i] 0 u (List.getElem?_eq_getElem hi) (by rw [hr]; rfl)
      have h3 : l.flatten[i]? = some u := by
        have : ∀ (l : List (List Value)) (i : Nat), (∀ r ∈ l, r.length = 1) → l[i]? = some [u] → l.flatten[i]? = some u := by
          intro l
          induction l with
          | nil => intro i _ h; simp at h
          | cons r l ih =>
            intro i hh hx
            have hr1 := hh r (by simp)
            cases i with
            | zero => simp only [List.getElem?_cons_zero, Option.some.injEq] at hx; subst hx; rfl
            | succ i =>
              simp only [List.getElem?_cons_succ] at hx
              have := ih i (fun r hr => hh r (by simp [hr])) hx
              simp only [List.flatten_cons]
              rw [List.getElem?_append_right (by omega), hr1, Nat.add_sub_cancel]
              exact this
        exact this l i (fun r hr => by obtain ⟨j, hj, rfl⟩ := List.getElem_of_mem hr; exact h.row j _ (List.getElem?_eq_getElem hj)) (by rw [List.getElem?_eq_getElem hi, hr])
      rw [h3] at hx
      cases hx
      simpa using h2

theorem trod_ints {W : World} {base : Nat} {sp : Nat → Bool} {held : Bool} {t : Nat} {q : IntKind} {l : List (List Value)} (ht : P.underlying t = some (.int q)) (h : ∀ x ∈ l, ∃ fuel y, DataW.trod enc P W base sp held fuel t x = some y) :
    ∃ zs : List Int, l = zs.map (fun z => [.int q z]) ∧ ∀ z ∈ zs, (Lit.int q z).wf = true := by
  induction l with
  | nil => exact ⟨[], rfl, by simp⟩
  | cons x l ih =>
    obtain ⟨zs, rfl, hz⟩ := ih (fun y hy => h y (by simp [hy]))
    obtain ⟨fuel, y, hy⟩ := h x (by simp)
    obtain ⟨z, rfl, _, hw⟩ := DataW.trod_int ht hy
    exact ⟨z :: zs, rfl, fun u hu => by rcases List.mem_cons.1 hu with rfl | hu; exact hw; exact hz u hu⟩

theorem flat_one {α β : Type} (f : α → β) : ∀ (l : List α), (l.map (fun z => [f z])).flatten = l.map f
  | [] => rfl
  | a :: l => by simp [flat_one f l]

/-- A record of single cells: each of its cells is read as the field's type. -/
theorem trod_fields {W : World} {base : Nat} {sp : Nat → Bool} {held : Bool} {e n fuel : Nat} {fs : Array Field} {cs : List Value} {y : DataW H × List MemPlace} (he : P.underlying e = some (.struct fs)) (hc : P.cellsOf e = n) (hn : fs.size = n)
    (hf : ∀ (i : Nat) (f : Field), fs[i]? = some f → f.offset = i ∧ P.cellsOf f.type = 1) (h : DataW.trod enc P W base sp held fuel e cs = some y) :
    cs.length = n ∧ ∃ k, ∀ (i : Nat) (f : Field) (u : Value), fs[i]? = some f → cs[i]? = some u → ∃ x, DataW.trod enc P W base sp held k f.type [u] = some x := by
  obtain ⟨xs, k, _, _, hlen, hxs, hx⟩ := DataW.trod_struct he h
  rw [hc] at hlen
  refine ⟨hlen, k, fun i f u hfi hu => ?_⟩
  obtain ⟨h1, h2⟩ := hf i f hfi
  have h4 := hx i f hfi
  have hi : i < xs.length := by have := (Array.getElem?_eq_some_iff.1 hfi).1; omega
  have hic : i < cs.length := by have := (Array.getElem?_eq_some_iff.1 hfi).1; omega
  rw [List.getElem?_eq_getElem hi] at h4
  refine ⟨xs[i], ?_⟩
  rw [← h4, h1, h2]
  congr 1
  rw [List.getElem?_eq_getElem hic] at hu
  cases hu
  rw [List.drop_eq_getElem_cons hic]
  rfl

end

theorem own_cell {w : World} {base : Nat} {e : TypeId} {g n cap : Nat} {xs : List Value} (h : w.ownsRow base e 1 (.slice (some ⟨g, 0, none⟩) n cap) n xs) {k : Nat} (hk : k < n) :
    ∃ hx : k < xs.length, w.cell? ⟨g, k, none⟩ = some (xs[k]'hx) ∧ w.frozen? ⟨g, k, none⟩ = false ∧ base ≤ g ∧ g < w.heap.size := by
  have h1 := h.1
  rcases h.2 with ⟨h', _⟩ | ⟨g', cap', cur, h', hb, hg, hnc, hcm, hcs, htake⟩
  · simp at h'
  · simp only [Value.slice.injEq, Option.some.injEq, Addr.mk.injEq, and_true, true_and] at h'
    obtain ⟨rfl, rfl⟩ := h'
    refine ⟨by omega, ?_, free_of_block hg, hb, lt_of_block hg⟩
    refine cell_of_block hg ?_
    have h2 : (cur.toList.take (n * 1))[k]? = some (xs[k]'(by omega)) := by rw [htake]; exact List.getElem?_eq_getElem _
    rw [List.getElem?_take_of_lt (by omega)] at h2
    simpa using h2

theorem fill_step {α : Type} (k m : Nat) (v z : α) (hm : 0 < m) : (List.replicate k v ++ List.replicate m z).set k v = List.replicate (k + 1) v ++ List.replicate (m - 1) z := by
  obtain ⟨m, rfl⟩ : ∃ m', m = m' + 1 := ⟨m - 1, by omega⟩
  rw [List.set_append_right _ _ (by simp), List.length_replicate, Nat.sub_self, List.replicate_succ, List.set_cons_zero, Nat.add_sub_cancel, List.replicate_succ' (n := k)]
  simp

/-- A whole array into the block that was made last. -/
theorem wpList_store_new {P : Program} {ops : Array Oper} {rest : List Oper} {op : Oper} {a : Act} {w : World} {Q : Exit → Act → World → Prop} {c : Array Value} (hgd : op.guard = none) (ty : TypeId) (x y : Operand) (ho : op.op = .store ty x y)
    (c' : Array Value) (hx : a.eval x = .pointer (some ⟨w.heap.size, 0, none⟩)) (hy : a.eval y = .agg c') (hi : (P.info? ty).map (·.size) = some c'.size) (hs : c.size = c'.size) (h1 : c'.all (·.oneCell') = true)
    (h : wpList P ops Q rest (a.put op.dst undef) (w.alloc (.cells c' ty))) : wpList P ops Q (op :: rest) a (w.alloc (.cells c ty)) := by
  refine wpList_plain hgd fun _ hK => ?_
  unfold Oper.wp execOp
  simp only [ho, hx, hy, Sem.run_bind, Sem.run_pure, run_storeAt_new w ty c c' hi hs h1, Result.andThen_ok]
  exact hK _ _ h

end Go.My
