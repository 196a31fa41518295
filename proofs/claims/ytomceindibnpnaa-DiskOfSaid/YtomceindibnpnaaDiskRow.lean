/-
  disk: a whole block of the durable ones is set; the waiting ones are cleared.
-/
import Derived.Test.YtomceindibnpnaaDiskWr
import Derived.Test.YtomceindibnpnaaRange
namespace Go.Proofs.Ytomceindibnpnaa.disks
open Go.RowKit Go.Maps Go.My Go.ChangeMaps
set_option maxRecDepth 100000

variable {w w' : World} {d q : Nat} {F F' : Nat → Prop} {X X' : DV} {bv : Value} {m : List (Int × (Value × List Blk))}

theorem chg_setCells (g : Nat) : ∀ (vs : List Value) (o : Nat) (w : World), Chg (· = g) w (w.setCells g o vs)
  | [], _, w => Chg.refl _ w
  | v :: r, o, w => (Chg.setCell (S := (· = g)) (Chg.refl _ w) (fun _ => rfl) v).trans' (chg_setCells g r (o + 1) _)

theorem modify_list {α : Type} (l : List (List α)) (n : Nat) (h : ∀ r ∈ l, r.length = n) (k j : Nat) (v : α) (vs : List α) (hj : j < n) :
    (l.modify k (fun r => r.set j v)).modify k (fun r => r.take (j + 1) ++ vs ++ r.drop (j + 1 + vs.length)) = l.modify k (fun r => r.take j ++ (v :: vs) ++ r.drop (j + (v :: vs).length)) := by
  apply List.ext_getElem?
  intro i
  simp only [List.getElem?_modify]
  by_cases hk : k = i
  · subst hk
    cases hl : l[k]? with
    | none => simp
    | some r =>
      have hr := h r (List.mem_of_getElem? hl)
      simp only [if_true, Option.map_eq_map, Option.map_some, Option.some.injEq]
      have h1 : (r.set j v).take (j + 1) = r.take j ++ [v] := by
        rw [List.take_set, List.take_add_one, List.getElem?_eq_getElem (by omega), Option.toList_some, List.set_append_right _ _ (by rw [List.length_take]; omega)]
        have : (r.take j).length = j := by rw [List.length_take]; omega
        rw [this, Nat.sub_self]; rfl
      rw [h1, List.drop_set_of_lt (by omega)]
      simp [Nat.add_assoc, Nat.add_comm 1]
  · simp [hk]

theorem set_rows {base : Nat} {e : TypeId} {n : Nat} {g cap k : Nat} : ∀ (vs : List Value) (j : Nat) (w : World) (l : List (List Value)), j + vs.length ≤ n → OwnRecs w base e n (.slice (some ⟨g, 0, none⟩) l.length cap) l →
    OwnRecs (w.setCells g (k * n + j) vs) base e n (.slice (some ⟨g, 0, none⟩) l.length cap) (l.modify k (fun r => r.take j ++ vs ++ r.drop (j + vs.length)))
  | [], j, w, l, _, h => by
    have : l.modify k (fun r => r.take j ++ [] ++ r.drop (j + ([] : List Value).length)) = l := by
      apply List.ext_getElem?
      intro i
      simp only [List.getElem?_modify]
      split <;> simp
    rw [this]
    exact h
  | v :: vs, j, w, l, hj, h => by
    simp only [List.length_cons] at hj
    have h1 := h.set (k := k) (j := j) (by omega) v
    have h2 := set_rows (k := k) (n := n) (g := g) (cap := cap) (base := base) (e := e) vs (j + 1) (w.setCell ⟨g, k * n + j, none⟩ v) (l.modify k (fun r => r.set j v)) (by omega) (by simpa using h1)
    rw [modify_list l n h.each k j v vs (by omega)] at h2
    simp only [List.length_modify] at h2
    exact h2

theorem set_row {base : Nat} {e : TypeId} {n : Nat} {g cap k : Nat} (vs : List Value) (w : World) (l : List (List Value)) (hv : vs.length = n) (h : OwnRecs w base e n (.slice (some ⟨g, 0, none⟩) l.length cap) l) :
    OwnRecs (w.setCells g (k * n) vs) base e n (.slice (some ⟨g, 0, none⟩) l.length cap) (l.set k vs) := by
  have h1 := set_rows (k := k) vs 0 w l (by omega) h
  have : l.modify k (fun r => r.take 0 ++ vs ++ r.drop (0 + vs.length)) = l.set k vs := by
    apply List.ext_getElem?
    intro i
    simp only [List.getElem?_modify, List.getElem?_set]
    by_cases hk : k = i
    · subst hk
      simp only [if_true]
      cases hl : l[k]? with
      | none =>
        have := List.getElem?_eq_none_iff.1 hl
        simp; omega
      | some r =>
        have hr := h.each r (List.mem_of_getElem? hl)
        have := (List.getElem?_eq_some_iff.1 hl).1
        simp [this, List.drop_eq_nil_of_le (show r.length ≤ vs.length by omega)]
    · simp [hk]
  rw [this] at h1
  simpa using h1

theorem rows_there {g n cap : Nat} {l : List Blk} (h : OwnRecs w 0 112 64 (.slice (some ⟨g, 0, none⟩) n cap) (l.map cellsB)) {k : Nat} (hk : k < l.length) : w.there g (k * 64) 64 := by
  obtain ⟨g', cap', e1, _, hr, hf⟩ := rows_range h hk
  simp only [Value.slice.injEq, Option.some.injEq, Addr.mk.injEq] at e1
  obtain ⟨⟨rfl, -⟩, -⟩ := e1
  have hl : (cellsB l[k]).length = 64 := h.each _ (List.mem_map_of_mem (List.getElem_mem _))
  intro j hj
  refine ⟨?_, hf _⟩
  rw [hr j ((cellsB l[k])[j]'(by omega)) (List.getElem?_eq_getElem _)]
  rfl

/-- A block of the durable ones is set. -/
theorem DiskIs.setB {g cap : Nat} (h : DiskIs w d F X (.slice (some ⟨g, 0, none⟩) X.B.length cap) q m) (k : Nat) (b : Blk) (hb : b.length = 64) :
    DiskIs (w.setCells g (k * 64) (cellsB b)) d F { X with B := X.B.set k b } (.slice (some ⟨g, 0, none⟩) X.B.length cap) q m ∧ Chg (· = g) w (w.setCells g (k * 64) (cellsB b)) := by
  have hc := chg_setCells g (cellsB b) (k * 64) w
  have hr : OwnRecs w 0 112 64 (.slice (some ⟨g, 0, none⟩) (X.B.map cellsB).length cap) (X.B.map cellsB) := by simpa using h.rows
  have h1 := set_row (k := k) (cellsB b) w (X.B.map cellsB) (by rw [cellsB_length, hb]) hr
  rw [← List.map_set, List.length_map] at h1
  have hgd : d ≠ g := fun e => row_ne_d h h.rows (by rw [e]; rfl)
  have hgq : q ≠ g := fun e => row_ne_q h h.rows (by rw [e]; rfl)
  refine ⟨⟨hc.at h.head hgd, h1, ?_, h.wmap.kept hc hgq, fun p hp => ⟨(h.lists p hp).1.kept hc (fun j hj e => h.off p hp (by rw [hj, e]; rfl)), (h.lists p hp).2.1, (h.lists p hp).2.2.1, by simpa using (h.lists p hp).2.2.2⟩,
    h.waits, h.off, h.apart, h.fd, h.fq, h.fb, h.fm, fun j hj => Nat.lt_of_lt_of_le (h.lt j hj) hc.size, by simpa using h.size⟩, hc⟩
  intro e
  exact h.any (by simpa using congrArg List.length e)

/-- Nothing waits any more. -/
theorem DiskIs.cleared (h : DiskIs w d F X bv q m) (clock : Nat) : DiskIs (setBlock w q (.map #[] clock)) d F { X with L := fun _ => [] } bv q [] ∧ Chg (· = q) w (setBlock w q (.map #[] clock)) := by
  have hc : Chg (· = q) w (setBlock w q (.map #[] clock)) := Chg.setBlock (S := (· = q)) (Chg.refl _ _) (fun _ => rfl) _
  obtain ⟨es, c0, hb, -⟩ := h.wmap
  refine ⟨⟨hc.at h.head h.d_ne_q, h.rows.kept hc (fun j hj e => row_ne_q h h.rows (e ▸ hj)), h.any, MapIs.made _ _ (MapKept.heap_set (o' := .map #[] clock) hb).1, by simp, by simp [mget], by simp, by simp, h.fd, h.fq, h.fb, by simp,
    fun j hj => Nat.lt_of_lt_of_le (h.lt j hj) hc.size, h.size⟩, hc⟩

end Go.Proofs.Ytomceindibnpnaa.disks
