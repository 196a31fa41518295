/-
  GENERAL LEMMAS OF MY OWN: an own slice of records, behind the library's sort.
-/
import Derived.Test.YtomceindibnpnaaRecs
import Derived.Shelf.GgSortFunc.InsertionK
namespace Go.My
open Go.RowKit Go.Maps Go.ChangeMaps Go.Proofs Go.Sort

variable {α : Type} [Inhabited α]

theorem flatK_list (enc : α → List Value) (k : Nat) (hk : ∀ x, (enc x).length = k) (d : List α) : (flatK enc k d.toArray).toList = (d.map enc).flatten := by
  have hl : (d.map enc).flatten.length = d.length * k := by
    rw [flat_length k _ (fun r hr => by obtain ⟨x, _, rfl⟩ := List.mem_map.1 hr; exact hk x), List.length_map]
  apply List.ext_getElem?
  intro t
  by_cases h : t < d.length * k
  · have hk0 : 0 < k := by
      rcases Nat.eq_zero_or_pos k with h0 | h0
      · subst h0; omega
      · exact h0
    have h1 : t / k < d.length := Nat.div_lt_of_lt_mul (by rw [Nat.mul_comm]; exact h)
    have h2 : t % k < k := Nat.mod_lt _ hk0
    have h3 := flat_get k (d.map enc) (fun r hr => by obtain ⟨x, _, rfl⟩ := List.mem_map.1 hr; exact hk x) (t / k) (t % k) h2
    rw [Nat.mul_comm, Nat.div_add_mod] at h3
    rw [h3]
    have h4 : t % k < (enc d[t / k]).length := by rw [hk]; exact h2
    simp [flatK, h, h1, h4]
  · have e1 : (flatK enc k d.toArray).toList.length ≤ t := by simp; omega
    have e2 : (d.map enc).flatten.length ≤ t := by rw [hl]; omega
    rw [List.getElem?_eq_none e1, List.getElem?_eq_none e2]

theorem take_putCells (F : Array Value) (cur : Array Value) (h : F.size ≤ cur.size) : (putCells id 0 F cur).toList.take F.size = F.toList := by
  apply List.ext_getElem?
  intro j
  by_cases hj : j < F.size
  · rw [List.getElem?_take_of_lt hj, Array.getElem?_toList]
    simp [putCells, hj, show j < cur.size by omega]
  · rw [List.getElem?_take_eq_none (by omega), List.getElem?_eq_none (by simp; omega)]

theorem chg_sorted (enc : α → List Value) (k : Nat) (w : World) (g n : Nat) (d : Array α) (os : Array Obj) : Chg (· = g) w (sortWorldK enc k w g 0 n d os) := by
  refine ⟨rfl, rfl, rfl, ?_, fun i hi hne => ?_⟩
  · simp [sortWorldK, putRowK, putRow, mapBlock, Sort.ahead]
  · unfold sortWorldK
    rw [heap_grow_old _ _ (by simpa [putRowK, putRow, mapBlock, Sort.ahead] using hi)]
    have : g ≠ i := fun e => hne (by rw [e])
    simp [putRowK, putRow, mapBlock, Sort.ahead, Array.getElem?_modify, this]

theorem heap_sortedK (enc : α → List Value) (k : Nat) {w : World} {g n : Nat} {os : Array Obj} {cur : Array Value} {e : TypeId} {fr : Nat × Nat} (d : Array α) (hb : w.heap[g]? = some (.cells cur e fr)) :
    (sortWorldK enc k w g 0 n d os).heap[g]? = some (.cells (putCells id 0 (flatK enc k d) cur) e fr) := by
  have hg : g < w.heap.size := (Array.getElem?_eq_some_iff.1 hb).1
  unfold sortWorldK
  rw [heap_grow_old _ _ (by simpa [putRowK, putRow, mapBlock, Sort.ahead] using hg)]
  simp [putRowK, putRow, mapBlock, Sort.ahead, Array.getElem?_modify, hb, onCells]

theorem recs_sorted (enc : α → List Value) (k : Nat) (hk : ∀ x, (enc x).length = k) {w : World} {base : Nat} {e : TypeId} {g cap : Nat} {d d' : List α} (h : OwnRecs w base e k (.slice (some ⟨g, 0, none⟩) d.length cap) (d.map enc))
    (hl : d'.length = d.length) (n : Nat) (os : Array Obj) : OwnRecs (sortWorldK enc k w g 0 n d'.toArray os) base e k (.slice (some ⟨g, 0, none⟩) d'.length cap) (d'.map enc) := by
  have hf : (d'.map enc).flatten.length = d'.length * k := by
    rw [flat_length k _ (fun r hr => by obtain ⟨x, _, rfl⟩ := List.mem_map.1 hr; exact hk x), List.length_map]
  refine ⟨⟨by rw [hf, List.length_map], ?_⟩, fun r hr => by obtain ⟨x, _, rfl⟩ := List.mem_map.1 hr; exact hk x⟩
  rcases h.row.2 with ⟨h1, -⟩ | ⟨g', cap', cur, h1, h2, h3, h4, h5, h6, h7⟩
  · cases h1
  · simp only [Value.slice.injEq, Option.some.injEq, Addr.mk.injEq, List.length_map] at h1 h4
    obtain ⟨⟨rfl, -⟩, -, rfl⟩ := h1
    have hs : (flatK enc k d'.toArray).size = d'.length * k := by simp
    refine Or.inr ⟨g, cap, putCells id 0 (flatK enc k d'.toArray) cur, by simp, h2, heap_sortedK enc k d'.toArray h3, by rw [List.length_map, hl]; exact h4, h5, by simpa [putCells] using h6, ?_⟩
    have hc : (flatK enc k d'.toArray).size ≤ cur.size := by rw [hs, h6, hl]; exact Nat.mul_le_mul_right k h4
    have := take_putCells (flatK enc k d'.toArray) cur hc
    rw [hs, flatK_list enc k hk] at this
    rw [List.length_map]; exact this

theorem recs_holds (enc : α → List Value) (k : Nat) (hk : ∀ x, (enc x).length = k) {w : World} {base : Nat} {e : TypeId} {g cap : Nat} {d : List α} (h : OwnRecs w base e k (.slice (some ⟨g, 0, none⟩) d.length cap) (d.map enc)) : HoldsK enc k w g 0 d.toArray := by
  intro j hj
  have hj' : j < d.length * k := by simpa using hj
  have hk0 : 0 < k := by
    rcases Nat.eq_zero_or_pos k with h0 | h0
    · subst h0; omega
    · exact h0
  have h1 : j / k < d.length := Nat.div_lt_of_lt_mul (by rw [Nat.mul_comm]; exact hj')
  have h2 : j % k < k := Nat.mod_lt _ hk0
  obtain ⟨g', cap', e1, _, _, _, hc, hf⟩ := h.cell (k := j / k) (by simpa using h1)
  simp only [Value.slice.injEq, Option.some.injEq, Addr.mk.injEq] at e1
  obtain ⟨⟨rfl, -⟩, -⟩ := e1
  have h4 : j % k < (enc d[j / k]).length := by rw [hk]; exact h2
  have h3 := hc (j % k) ((enc d[j / k])[j % k]) (by simp [h4])
  rw [Nat.mul_comm, Nat.div_add_mod] at h3
  rw [Nat.zero_add]
  refine ⟨?_, hf j⟩
  rw [h3, get_flatK enc k _ j (by simpa using hj')]
  simp [h1, h4]

end Go.My
