/-
  disk: Write.
-/
import Derived.Test.YtomceindibnpnaaDiskRead
import Derived.Great.BuildSlice
namespace Go.Proofs.Ytomceindibnpnaa.disks
open Go.RowKit Go.Maps Go.My
set_option maxRecDepth 100000

variable {w w' : World} {d q : Nat} {F F' : Nat → Prop} {X X' : DV} {bv : Value} {m : List (Int × (Value × List Blk))}

theorem foldl_set (c : List Value) : ∀ (k : Nat) (pre : List Value) (post : List Value), pre.length = k → c.length ≤ post.length →
    (c.zipIdx k).foldl (fun (cs : Array Value) (x : Value × Nat) => cs.setIfInBounds (0 + x.2) x.1) (pre ++ post).toArray = (pre ++ c ++ post.drop c.length).toArray := by
  induction c with
  | nil => intro k pre post _ _; simp
  | cons u c ih =>
    intro k pre post hk hl
    cases post with
    | nil => simp at hl
    | cons z post =>
      have h1 : ((pre ++ z :: post).toArray).setIfInBounds (0 + k) u = ((pre ++ [u]) ++ post).toArray := by
        rw [List.setIfInBounds_toArray, Nat.zero_add, List.set_append_right _ _ (by omega), hk, Nat.sub_self, List.set_cons_zero]
        simp
      simp only [List.zipIdx_cons, List.foldl_cons]
      rw [h1, ih (k + 1) (pre ++ [u]) post (by simp [hk]) (by simpa using hl)]
      simp

theorem run_build_block (w : World) (b : Blk) (hb : b.length = 64) :
    (Instr.buildSlice 91 1 #[(0, .agg (cellsB b).toArray)]).run Try.prog w = .ok (.slice (some ⟨w.heap.size, 0, none⟩) 1 1) (w.alloc (.cells (cellsB b).toArray 112)) := by
  obtain ⟨i0, h1, h2, h3, h4⟩ := info_parts info_block
  have hl : (cellsB b).length = 64 := by rw [cellsB_length, hb]
  refine run_buildSlice w 91 112 1 _ _ i0 _ Try.underlying91 h1 h2 (by rw [h3]; omega) (by rw [h3]; omega) ?_
  rw [h3]
  have hz : ∀ f : Nat → Value, ((Array.range (1 * 64)).map f) = ([] ++ (List.range 64).map f).toArray := fun f => by apply Array.toList_inj.1; simp
  rw [hz]
  simp only [Instr.fill, Value.cells, List.size_toArray, hl, Nat.zero_mul]
  rw [if_neg (by simp)]
  congr 1
  rw [← Array.foldl_toList, Array.toList_zipIdx, List.toList_toArray, foldl_set (cellsB b) 0 [] _ rfl (by simp [hl])]
  rw [List.drop_eq_nil_of_le (by simp [hl])]
  simp

theorem mem_mput {K V : Type} [DecidableEq K] {m : List (K × V)} {k : K} {v : V} {p : K × V} (h : p ∈ mput m k v) : p = (k, v) ∨ (p ∈ m ∧ p.1 ≠ k) := by
  unfold mput at h
  split at h
  · obtain ⟨r, hr, rfl⟩ := List.mem_map.1 h
    split
    · exact Or.inl rfl
    · exact Or.inr ⟨hr, by assumption⟩
  · rename_i hn
    rcases List.mem_append.1 h with h | h
    · refine Or.inr ⟨h, fun e => hn ?_⟩
      unfold mget
      rw [Option.isSome_map, List.find?_isSome]
      exact ⟨p, h, by simpa using e⟩
    · exact Or.inl (by simpa using h)

theorem own_some {w : World} {base : Nat} {e : TypeId} {n : Nat} {v : Value} {l : List (List Value)} (h : OwnRecs w base e n v l) (hl : l ≠ []) : ∃ g, v.ownBlock = some g ∧ g < w.heap.size := by
  obtain ⟨g, cap, rfl, _, _, h2, _⟩ := h.cell (k := 0) (List.length_pos_iff.2 hl)
  exact ⟨g, rfl, h2⟩

def grow (F : Nat → Prop) (w w' : World) : Nat → Prop := fun j => F j ∨ (w.heap.size ≤ j ∧ j < w'.heap.size)

def DV.put (X : DV) (k : Nat) (b : Blk) : DV := { X with L := fun j => if j = k then X.L j ++ [b] else X.L j }

theorem DiskIs.looked' (h : DiskIs w d F X bv q m) (i : Nat) : ∃ v, lookRes false (.slice none 0 0) Prod.fst (mget m (i : Int)) = v ∧ OwnRecs w 0 112 64 v ((X.L i).map cellsB) ∧
    (v.ownBlock = none ∨ ((i : Int), (v, X.L i)) ∈ m) := by
  rw [h.waits i]
  cases hm : mget m (i : Int) with
  | none => exact ⟨_, rfl, OwnRecs.nil _ _ _ _, Or.inl rfl⟩
  | some p =>
    have hp : ((i : Int), p) ∈ m := by
      unfold mget at hm
      simp only [Option.map_eq_some_iff] at hm
      obtain ⟨r, h1, rfl⟩ := hm
      have h2 := List.find?_some h1
      simp only [decide_eq_true_eq] at h2
      rw [← h2]
      exact List.mem_of_find?_eq_some h1
    exact ⟨_, rfl, (h.lists _ hp).1, Or.inr hp⟩

/-- A write's end: the list of block k has one more, in the same block of the heap or in a new one; the map has it. -/
theorem DiskIs.putL (h : DiskIs w d F X bv q m) {k : Nat} (hk : k < X.B.length) {u v' : Value} (hu : u.ownBlock = none ∨ ((k : Int), (u, X.L k)) ∈ m) {b : Blk} {w2 w3 : World}
    (hg : Chg (fun j => some j = u.ownBlock) w w2) (ho : OwnRecs w2 0 112 64 v' ((X.L k ++ [b]).map cellsB)) (hv : v'.ownBlock = u.ownBlock ∨ ∃ g, w.heap.size ≤ g ∧ v'.ownBlock = some g)
    (hm : MapIs iKey Prod.fst w3 q (mput m (k : Int) (v', X.L k ++ [b]))) (hc : Chg (· = q) w2 w3) : DiskIs w3 d (grow F w w3) (X.put k b) bv q (mput m (k : Int) (v', X.L k ++ [b])) := by
  obtain ⟨g', hg', hlt'⟩ := own_some ho (by simp)
  have huB : ∀ g, bv.ownBlock = some g → u.ownBlock ≠ some g := by
    intro g hb e
    rcases hu with hu | hu
    · rw [hu] at e; cases e
    · exact h.off _ hu (e.trans hb.symm)
  have hud : u.ownBlock ≠ some d := by
    intro e
    rcases hu with hu | hu
    · rw [hu] at e; cases e
    · exact row_ne_d h (h.lists _ hu).1 e
  have huq : u.ownBlock ≠ some q := by
    intro e
    rcases hu with hu | hu
    · rw [hu] at e; cases e
    · exact row_ne_q h (h.lists _ hu).1 e
  have hup : ∀ p ∈ m, p.1 ≠ (k : Int) → ∀ g, p.2.1.ownBlock = some g → u.ownBlock ≠ some g := by
    intro p hp hne g hb e
    rcases hu with hu | hu
    · rw [hu] at e; cases e
    · exact h.apart _ hp _ hu hne (hb.trans e.symm)
  have huF : ∀ g, u.ownBlock = some g → F g := by
    intro g e
    rcases hu with hu | hu
    · rw [hu] at e; cases e
    · exact h.fm _ hu g e
  have hsz : w.heap.size ≤ w3.heap.size := Nat.le_trans hg.size hc.size
  have hg3 : g' < w3.heap.size := Nat.lt_of_lt_of_le hlt' hc.size
  have hF' : grow F w w3 g' := by
    rcases hv with hv | ⟨g, h1, h2⟩
    · exact Or.inl (huF g' (hv.symm.trans hg'))
    · rw [hg'] at h2; cases h2; exact Or.inr ⟨h1, hg3⟩
  have hgq : g' ≠ q := by
    rintro rfl
    obtain ⟨cur, h1⟩ := own_obj ho hg'
    obtain ⟨es, clock, h2, _⟩ := h.wmap
    rw [hg.at h2 (fun e => huq e.symm)] at h1
    cases h1
  have hnew : ∀ g, F g → u.ownBlock ≠ some g → g' ≠ g := by
    rintro g hFg hne rfl
    rcases hv with hv | ⟨g, h1, h2⟩
    · exact hne (hv.symm.trans hg')
    · rw [hg'] at h2; cases h2
      have := h.lt _ hFg; omega
  refine ⟨hc.at (hg.at h.head (fun e => hud e.symm)) (fun e => h.d_ne_q e), (h.rows.kept hg (fun j hj e => huB j hj e.symm)).kept hc (fun j hj e => row_ne_q h h.rows (e ▸ hj)), h.any, hm, ?_, ?_, ?_, ?_, Or.inl h.fd, Or.inl h.fq, fun g hb => Or.inl (h.fb g hb), ?_, ?_, h.size⟩
  · intro p hp
    rcases mem_mput hp with rfl | ⟨hp, hne⟩
    · exact ⟨ho.kept hc (fun j hj e => by rw [hg'] at hj; cases hj; exact hgq e), by simp, by omega, by simpa [DV.put] using hk⟩
    · obtain ⟨h1, h2, h3, h4⟩ := h.lists p hp
      exact ⟨(h1.kept hg (fun j hj e => hup p hp hne j hj e.symm)).kept hc (fun j hj e => row_ne_q h h1 (e ▸ hj)), h2, h3, h4⟩
  · intro i
    rw [mget_mput]
    by_cases hi : i = k
    · subst hi; simp [DV.put]
    · have : (i : Int) ≠ (k : Int) := by omega
      rw [if_neg this]
      simp only [DV.put, if_neg hi]
      exact h.waits i
  · intro p hp
    rcases mem_mput hp with rfl | ⟨hp, hne⟩
    · intro e
      rw [hg'] at e
      exact hnew g' (h.fb _ e.symm) (huB g' e.symm) rfl
    · exact h.off p hp
  · intro p hp p' hp' hne
    rcases mem_mput hp with rfl | ⟨hp, hn1⟩
    · rcases mem_mput hp' with rfl | ⟨hp', hn2⟩
      · exact absurd rfl hne
      · intro e
        rw [hg'] at e
        exact hnew g' (h.fm _ hp' _ e.symm) (hup p' hp' hn2 g' e.symm) rfl
    · rcases mem_mput hp' with rfl | ⟨hp', hn2⟩
      · intro e
        rw [hg'] at e
        exact hnew g' (h.fm _ hp _ e) (hup p hp hn1 g' e) rfl
      · exact h.apart p hp p' hp' hne
  · intro p hp g hb
    rcases mem_mput hp with rfl | ⟨hp, hne⟩
    · rw [hg'] at hb; cases hb; exact hF'
    · exact Or.inl (h.fm p hp g hb)
  · rintro j (hj | hj)
    · exact Nat.lt_of_lt_of_le (h.lt j hj) hsz
    · exact hj.2

end Go.Proofs.Ytomceindibnpnaa.disks
