/-
  GENERAL LEMMAS OF MY OWN: 'for k, v := range m' over a map that the loop leaves as it is, for 'MapIs'.
-/
import Derived.Test.YtogjjkbgagedpaaMaps
import Derived.Maps.RangeWalk
namespace Go.My
open Go.RowKit Go.Maps Go.MapKept Go.ChangeMaps

section
variable {P : Program} {kt : TypeId} {K V : Type}

/-- A range over the map in block b, its iterator in block r: 'done' are the keys that came up, 'cnt' how many are left. -/
def RngIs (E : KeyEnc P kt K) (ev : V → Value) (w : World) (b r : Nat) (m : List (K × V)) (done : List K) (cnt : Nat) : Prop :=
  ∃ es clock since seen c0, w.heap[b]? = some (.map es clock) ∧ es.toList.map pairOf = m.map (fun p => (E.enc p.1, ev p.2)) ∧ (∀ p ∈ m, E.ok p.1) ∧ Stamped es clock ∧
    w.heap[r]? = some (.mapIter (some b) since seen c0) ∧ (∀ x ∈ es.toList, x.born < since) ∧ since ≤ c0 ∧ since ≤ clock ∧ (leftOf es seen).size = cnt ∧
    (∀ (j : Nat) x p, es.toList[j]? = some x → m[j]? = some p → (seen.contains x.born = true ↔ p.1 ∈ done))

variable {E : KeyEnc P kt K} {ev : V → Value} {w : World} {b r cnt : Nat} {m : List (K × V)} {done : List K}

theorem RngIs.map (h : RngIs E ev w b r m done cnt) : MapIs E ev w b m := by
  obtain ⟨es, clock, since, seen, c0, h1, h2, h3, h4, _⟩ := h
  exact ⟨es, clock, h1, h2, h3, h4⟩

theorem RngIs.kept (h : RngIs E ev w b r m done cnt) {S : Nat → Prop} {w' : World} (hc : Chg S w w') (hn : ¬ S b) (hr : ¬ S r) : RngIs E ev w' b r m done cnt := by
  obtain ⟨es, clock, since, seen, c0, h1, h2, h3, h4, h5, h6⟩ := h
  exact ⟨es, clock, since, seen, c0, hc.at h1 hn, h2, h3, h4, hc.at h5 hr, h6⟩

theorem RngIs.left_eq (h : RngIs E ev w b r m done cnt) : w.rangeLeft b r = cnt := by
  obtain ⟨es, clock, since, seen, c0, h1, h2, h3, h4, h5, h6, h7, h8, h9, h10⟩ := h
  unfold World.rangeLeft
  rw [h1, h5]
  exact h9

theorem RngIs.ltr (h : RngIs E ev w b r m done cnt) : r < w.heap.size := by
  obtain ⟨es, clock, since, seen, c0, h1, h2, h3, h4, h5, _⟩ := h
  exact lt_of_block h5

theorem MapIs.range (h : MapIs E ev w b m) {t e : TypeId} (ht : P.underlying t = some (.map kt e)) :
    ∃ w' cnt, (Instr.range t (.map (some b))).run P w = .ok (.pointer (some ⟨w.heap.size, 0, none⟩)) w' ∧ RngIs E ev w' b w.heap.size m [] cnt ∧ Chg (fun _ => False) w w' ∧ w'.heap.size = w.heap.size + 1 := by
  obtain ⟨es, clock, h1, h2, h3, h4⟩ := h
  have hc := (Chg.refl (fun _ => False) w).alloc (.mapIter (some b) clock #[] clock)
  refine ⟨_, _, run_range_map w t kt e b es clock ht h1, ⟨es, clock, clock, #[], clock, hc.at h1 id, h2, h3, h4, (MapKept.heap_alloc w _).1, h4.1, Nat.le_refl _, Nat.le_refl _, rfl, ?_⟩, hc, World.size_alloc _ _⟩
  intro j x p _ _
  simp

theorem RngIs.next (h : RngIs E ev w b r m done cnt) (ty : TypeId) :
    ((∀ p ∈ m, p.1 ∈ done) ∧ (Instr.next (.pointer (some ⟨r, 0, none⟩)) false ty).run P w = .ok (.tuple #[.bool false]) w) ∨
    ∃ k v w' cnt', (k, v) ∈ m ∧ k ∉ done ∧ (Instr.next (.pointer (some ⟨r, 0, none⟩)) false ty).run P w = .ok (.tuple #[.bool true, E.enc k, ev v]) w' ∧ RngIs E ev w' b r m (k :: done) cnt' ∧ cnt' < cnt ∧
      Chg (· = r) w w' ∧ w'.heap.size = w.heap.size ∧ (Instr.entry (.pointer (some ⟨r, 0, none⟩))).run P w' = .ok (.tuple #[E.enc k, ev v]) w' := by
  obtain ⟨es, clock, since, seen, c0, hb, hp, hok, hst, hr, hold, hsc, hsk, rfl, hd⟩ := h
  have hne : b ≠ r := fun e => by rw [e, hr] at hb; cases hb
  rcases run_next_at (P := P) w ty r b since c0 seen es clock hr hb hold hsc with ⟨h0, hrun⟩ | ⟨e, he, w1, hal, hrun⟩
  · refine Or.inl ⟨fun p hpm => ?_, hrun⟩
    obtain ⟨j, hj⟩ := List.getElem?_of_mem hpm
    have hl : es.toList.length = m.length := by simpa using congrArg List.length hp
    have hjl : j < es.toList.length := by
      rw [hl]
      exact (List.getElem?_eq_some_iff.1 hj).1
    exact (hd j _ p (List.getElem?_eq_getElem hjl) hj).1 (all_seen es seen h0 _ (List.getElem_mem hjl))
  · obtain ⟨hem, hes⟩ := mem_left he
    obtain ⟨j, hj⟩ := List.getElem?_of_mem hem
    obtain ⟨p, hpj, hk, hv⟩ := pair_at hp hj
    have hc1 : Chg (· = r) w w1 := by rcases hal with rfl | rfl; exact Chg.refl _ _; exact (Chg.refl _ _).drew
    have hr1 : w1.heap[r]? = some (.mapIter (some b) since seen c0) := by rcases hal with rfl | rfl <;> exact hr
    have hset := heap_set (o' := .mapIter (some b) since (seen.push e.born) clock) hr1
    have hc2 : Chg (· = r) w (setBlock w1 r (.mapIter (some b) since (seen.push e.born) clock)) := hc1.trans' (Chg.setBlock (S := (· = r)) (Chg.refl _ _) (fun _ => rfl) _)
    have hb' := hc2.at hb hne
    have hkn : (es.toList.map (·.key)).Nodup := hst.2.2
    refine Or.inr ⟨p.1, p.2, _, _, List.mem_of_getElem? hpj, fun hin => ?_, by rw [← hk, ← hv]; exact hrun,
      ⟨es, clock, since, seen.push e.born, clock, hb', hp, hok, hst, hset.1, hold, hsk, hsk, rfl, ?_⟩, left_shrinks es seen e he, hc2, ?_, ?_⟩
    · have := (hd j e p hj hpj).2 hin
      rw [hes] at this
      cases this
    · intro i x p' hi hpi
      rw [contains_push, Bool.or_eq_true, hd i x p' hi hpi, List.mem_cons]
      have hb2 := (MapKept.stamped_iff es clock).1 hst
      constructor
      · rintro (h | h)
        · exact Or.inr h
        · have hx := born_inj hb2.2.1 (List.mem_of_getElem? hi) hem (by simpa using h)
          subst hx
          obtain ⟨p2, hp2, hk2, -⟩ := pair_at hp hi
          rw [hp2] at hpi
          cases hpi
          exact Or.inl (E.inj _ _ (hk2.symm.trans hk))
      · rintro (h | h)
        · right
          obtain ⟨p2, hp2, hk2, -⟩ := pair_at hp hi
          rw [hp2] at hpi
          cases hpi
          have hkk : x.key = e.key := by rw [hk2, hk, h]
          have := entry_eq_of_key hb2.2.2 (List.mem_of_getElem? hi) hem hkk
          rw [this]; simp
        · exact Or.inl h
    · show (setBlock w1 r _).heap.size = _
      rcases hal with rfl | rfl <;> simp [setBlock]
    · rw [← hk, ← hv]
      exact run_entry_at _ r b since seen es clock e hset.1 hb' hem ((stamped_iff es clock).1 hst).2.1

variable {ops : Array Oper} {rest : List Oper} {o : Oper} {a : Go.Act} {Q : Exit → Go.Act → World → Prop}

theorem wpList_rangeM (h : MapIs E ev w b m) (hg : o.guard = none) (x : Operand) (t e : TypeId) (hop : o.op = Op.range t x) (ht : P.underlying t = some (.map kt e)) (hx : a.eval x = .map (some b))
    (hK : ∀ w' cnt, RngIs E ev w' b w.heap.size m [] cnt → Chg (fun _ => False) w w' → w'.heap.size = w.heap.size + 1 → wpList P ops Q rest (a.put o.dst (.pointer (some ⟨w.heap.size, 0, none⟩))) w') : wpList P ops Q (o :: rest) a w := by
  refine wpList_plain hg fun K' hK' => ?_
  obtain ⟨w', cnt, hrun, r1, r2, r3⟩ := h.range ht
  unfold Oper.wp
  simp [execOp, hop, hx, hrun, Result.andThen]
  exact hK' _ _ (hK w' cnt r1 r2 r3)

theorem wpList_nextM (h : RngIs E ev w b r m done cnt) (hg : o.guard = none) (x : Operand) (hop : o.op = Op.next x false) (hx : a.eval x = .pointer (some ⟨r, 0, none⟩))
    (hDone : (∀ p ∈ m, p.1 ∈ done) → wpList P ops Q rest (a.put o.dst (.tuple #[.bool false])) w)
    (hMore : ∀ k v w' cnt', (k, v) ∈ m → k ∉ done → RngIs E ev w' b r m (k :: done) cnt' → cnt' < cnt → Chg (· = r) w w' → w'.heap.size = w.heap.size →
      (Instr.entry (.pointer (some ⟨r, 0, none⟩))).run P w' = .ok (.tuple #[E.enc k, ev v]) w' → wpList P ops Q rest (a.put o.dst (.tuple #[.bool true, E.enc k, ev v])) w') : wpList P ops Q (o :: rest) a w := by
  refine wpList_plain hg fun K' hK' => ?_
  unfold Oper.wp
  rcases h.next o.type with ⟨h0, hrun⟩ | ⟨k, v, w', cnt', h1, h2, hrun, h3, h4, h5, h6, h7⟩
  · simp [execOp, hop, hx, hrun, Result.andThen]
    exact hK' _ _ (hDone h0)
  · simp [execOp, hop, hx, hrun, Result.andThen]
    exact hK' _ _ (hMore k v w' cnt' h1 h2 h3 h4 h5 h6 h7)

end
end Go.My
