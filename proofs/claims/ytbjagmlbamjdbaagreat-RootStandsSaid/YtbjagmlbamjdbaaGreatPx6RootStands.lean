/-
  slices of strings of a call's own: append.
-/
import Derived.Test.YtbjagmlbamjdbaaGreatPx1RootStands
import Derived.Test.YtbjagmlbamjdbaaGreatPx3RootStands
import Derived.Test.YtbjagmlbamjdbaaGreatPx4RootStands
import Derived.Shelf.GgSortFunc.InsertionK
import Derived.Shelf.SlSortCmp.WholeK
import Derived.Shelf.SlSortCmp.NoneTotal

section
set_option linter.unusedSimpArgs false
set_option linter.unusedVariables false
namespace Go.Proofs.YtbjagmlbamjdbaaGreat.bufs
open Go.RowKit Go.My disks
set_option maxRecDepth 100000

variable {w w' : World}

/-- An append to an own slice of elements of one cell, from any slice that reads. -/
theorem append_cells {t e : TypeId} {z : Value} {nb : Nat} {i : TypeInfo} (ht : Tryz.prog.underlying t = some (.slice e)) (hi : Tryz.prog.info? e = some i) (hz : i.zero = some z) (hsz : i.size = 1) (hby : i.bytes = nb) (hzs : z.cells.size = 1)
    {base n : Nat} {v : Value} {xs ys : List Value} {oa : Option Addr} {m cap : Nat} (h : w.ownsRow base e 1 v n xs) (hs : SlAt w (.slice oa m cap) ys) (h1 : ∀ y ∈ ys, y.oneCell' = true) (hb : base ≤ w.heap.size) (hl : xs.length + ys.length ≤ 140737488355328) (hlb : (xs.length + ys.length) * nb ≤ 140737488355328) (ty : TypeId) :
    ∃ v' w', (Builtin.append_ #[t, t] ty #[v, .slice oa m cap]).run Tryz.prog w = .ok v' w' ∧ w'.ownsRow base e 1 v' (xs ++ ys).length (xs ++ ys) ∧ w.grownBy w' v.ownBlock ∧ (v'.ownBlock = v.ownBlock ∨ v'.ownBlock = some w.heap.size) := by
  obtain rfl : n = xs.length := by have := h.1; omega
  obtain rfl : m = ys.length := by
    obtain ⟨_, _, h1, _⟩ := hs
    simp only [Value.slice.injEq] at h1
    exact h1.2.1
  rw [List.length_append]
  cases oa with
  | none =>
    have hy : ys = [] := by
      cases ys with
      | nil => rfl
      | cons y ys =>
        obtain ⟨oa', cap', h1, h2, _⟩ := hs
        obtain ⟨b, off, h3⟩ := h2 (by simp)
        simp only [Value.slice.injEq] at h1
        rw [← h1.1] at h3; cases h3
    subst hy
    refine ⟨v, w, ?_, by simpa using h, ⟨rfl, rfl, rfl, Nat.le_refl _, fun _ _ _ => rfl⟩, Or.inl rfl⟩
    rcases h.2 with ⟨rfl, h0⟩ | ⟨g, cap', cur, rfl, _, hg, hc, _⟩
    · simp [Builtin.append_, run_underlying ht, sizeOf, typeInfo, hi, Builtin.lenOf, Builtin.firstCells]
    · simp [Builtin.append_, run_underlying ht, sizeOf, typeInfo, hi, Builtin.lenOf, Builtin.firstCells, hc, storeCells]
  | some a =>
    have hcells : ∀ j u, ys[j]? = some u → w.cell? (a.add j) = some u := by
      intro j u hu
      obtain ⟨oa', cap', h1, h2, h3⟩ := hs
      simp only [Value.slice.injEq] at h1
      obtain ⟨b, off, h4⟩ := h2 (by intro e; rw [e] at hu; simp at hu)
      have h5 := h3 b off h4 j u hu
      rw [← h1.1] at h4
      cases h4
      have : (⟨b, off, none⟩ : Addr).add j = ⟨b, off + j, none⟩ := by unfold Addr.add; split <;> simp_all
      rw [this]; exact h5
    obtain ⟨v', w', h1, h2, h3, -, h4⟩ := run_append_own_at (P := Tryz.prog) w base t ty e i z 1 nb ht hi hz hsz hby hzs (by decide) v xs.length xs h a ys.length cap ys (by omega) hcells h1 (by unfold maxLen; omega) hlb hb
    exact ⟨v', w', h1, h2, h3, h4⟩

theorem info_string : (Tryz.prog.info? 9).map (fun i => (i.zero, i.size, i.bytes)) = some (some (.string ⟨#[]⟩), 1, 16) := by kernel_rfl

theorem append_strs {base n : Nat} {v : Value} {xs ys : List Value} {oa : Option Addr} {m cap : Nat} (h : w.ownsRow base 9 1 v n xs) (hs : SlAt w (.slice oa m cap) ys) (h1 : ∀ y ∈ ys, y.oneCell' = true) (hb : base ≤ w.heap.size) (hl : xs.length + ys.length ≤ 1099511627776) (ty : TypeId) :
    ∃ v' w', (Builtin.append_ #[109, 109] ty #[v, .slice oa m cap]).run Tryz.prog w = .ok v' w' ∧ w'.ownsRow base 9 1 v' (xs ++ ys).length (xs ++ ys) ∧ w.grownBy w' v.ownBlock ∧ (v'.ownBlock = v.ownBlock ∨ v'.ownBlock = some w.heap.size) := by
  obtain ⟨i, hi, hz, hsz, hby⟩ := info_parts info_string
  exact append_cells Tryz.underlying109 hi hz hsz hby rfl h hs h1 hb (by omega) (by omega) ty

end Go.Proofs.YtbjagmlbamjdbaaGreat.bufs
end

/-
  GENERAL LEMMAS OF MY OWN: an own slice of records, behind the library's sort.
-/
section
set_option linter.unusedSimpArgs false
set_option linter.unusedVariables false
namespace Go.My
open Go.RowKit Go.Maps Go.ChangeMaps Go.Proofs Go.Sort

variable {α : Type} [Inhabited α]

theorem flatK_list (enc : α → List Value) (k : Nat) (hk : ∀ x, (enc x).length = k) (d : List α) : (flatK enc k d.toArray).toList = (d.map enc).flatten := by
  have hl : (d.map enc).flatten.length = d.length * k := by
    rw [flat_length k _ (fun r hr => by obtain ⟨x, _, rfl⟩ := List.mem_map.1 hr; exact hk x), List.length_map]
  apply List.ext_getElem?
  intro t
  by_cases h : t < d.length * k
  · have hk0 : 0 < k := by
      rcases Nat.eq_zero_or_pos k with h0 | h0
      · subst h0; omega
      · exact h0
    have h1 : t / k < d.length := Nat.div_lt_of_lt_mul (by rw [Nat.mul_comm]; exact h)
    have h2 : t % k < k := Nat.mod_lt _ hk0
    have h3 := flat_get k (d.map enc) (fun r hr => by obtain ⟨x, _, rfl⟩ := List.mem_map.1 hr; exact hk x) (t / k) (t % k) h2
    rw [Nat.mul_comm, Nat.div_add_mod] at h3
    rw [h3]
    have h4 : t % k < (enc d[t / k]).length := by rw [hk]; exact h2
    simp [flatK, h, h1, h4]
  · have e1 : (flatK enc k d.toArray).toList.length ≤ t := by simp; omega
    have e2 : (d.map enc).flatten.length ≤ t := by rw [hl]; omega
    rw [List.getElem?_eq_none e1, List.getElem?_eq_none e2]

theorem take_putCells (F : Array Value) (cur : Array Value) (h : F.size ≤ cur.size) : (putCells id 0 F cur).toList.take F.size = F.toList := by
  apply List.ext_getElem?
  intro j
  by_cases hj : j < F.size
  · rw [List.getElem?_take_of_lt hj, Array.getElem?_toList]
    simp [putCells, hj, show j < cur.size by omega]
  · rw [List.getElem?_take_eq_none (by omega), List.getElem?_eq_none (by simp; omega)]

theorem chg_sorted (enc : α → List Value) (k : Nat) (w : World) (g n : Nat) (d : Array α) (os : Array Obj) : Chg (· = g) w (sortWorldK enc k w g 0 n d os) := by
  refine ⟨rfl, rfl, rfl, ?_, fun i hi hne => ?_⟩
  · simp [sortWorldK, putRowK, putRow, mapBlock, Sort.ahead]
  · unfold sortWorldK
    rw [heap_grow_old _ _ (by simpa [putRowK, putRow, mapBlock, Sort.ahead] using hi)]
    have : g ≠ i := fun e => hne (by rw [e])
    simp [putRowK, putRow, mapBlock, Sort.ahead, Array.getElem?_modify, this]

theorem heap_sortedK (enc : α → List Value) (k : Nat) {w : World} {g n : Nat} {os : Array Obj} {cur : Array Value} {e : TypeId} {fr : Nat × Nat} (d : Array α) (hb : w.heap[g]? = some (.cells cur e fr)) :
    (sortWorldK enc k w g 0 n d os).heap[g]? = some (.cells (putCells id 0 (flatK enc k d) cur) e fr) := by
  have hg : g < w.heap.size := (Array.getElem?_eq_some_iff.1 hb).1
  unfold sortWorldK
  rw [heap_grow_old _ _ (by simpa [putRowK, putRow, mapBlock, Sort.ahead] using hg)]
  simp [putRowK, putRow, mapBlock, Sort.ahead, Array.getElem?_modify, hb, onCells]

theorem recs_sorted (enc : α → List Value) (k : Nat) (hk : ∀ x, (enc x).length = k) {w : World} {base : Nat} {e : TypeId} {g cap : Nat} {d d' : List α} (h : OwnRecs w base e k (.slice (some ⟨g, 0, none⟩) d.length cap) (d.map enc))
    (hl : d'.length = d.length) (n : Nat) (os : Array Obj) : OwnRecs (sortWorldK enc k w g 0 n d'.toArray os) base e k (.slice (some ⟨g, 0, none⟩) d'.length cap) (d'.map enc) := by
  have hf : (d'.map enc).flatten.length = d'.length * k := by
    rw [flat_length k _ (fun r hr => by obtain ⟨x, _, rfl⟩ := List.mem_map.1 hr; exact hk x), List.length_map]
  refine ⟨⟨by rw [hf, List.length_map], ?_⟩, fun r hr => by obtain ⟨x, _, rfl⟩ := List.mem_map.1 hr; exact hk x⟩
  rcases h.row.2 with ⟨h1, -⟩ | ⟨g', cap', cur, h1, h2, h3, h4, h5, h6, h7⟩
  · cases h1
  · simp only [Value.slice.injEq, Option.some.injEq, Addr.mk.injEq, List.length_map] at h1 h4
    obtain ⟨⟨rfl, -⟩, -, rfl⟩ := h1
    have hs : (flatK enc k d'.toArray).size = d'.length * k := by simp
    refine Or.inr ⟨g, cap, putCells id 0 (flatK enc k d'.toArray) cur, by simp, h2, heap_sortedK enc k d'.toArray h3, by rw [List.length_map, hl]; exact h4, h5, by simpa [putCells] using h6, ?_⟩
    have hc : (flatK enc k d'.toArray).size ≤ cur.size := by rw [hs, h6, hl]; exact Nat.mul_le_mul_right k h4
    have := take_putCells (flatK enc k d'.toArray) cur hc
    rw [hs, flatK_list enc k hk] at this
    rw [List.length_map]; exact this

theorem recs_holds (enc : α → List Value) (k : Nat) (hk : ∀ x, (enc x).length = k) {w : World} {base : Nat} {e : TypeId} {g cap : Nat} {d : List α} (h : OwnRecs w base e k (.slice (some ⟨g, 0, none⟩) d.length cap) (d.map enc)) : HoldsK enc k w g 0 d.toArray := by
  intro j hj
  have hj' : j < d.length * k := by simpa using hj
  have hk0 : 0 < k := by
    rcases Nat.eq_zero_or_pos k with h0 | h0
    · subst h0; omega
    · exact h0
  have h1 : j / k < d.length := Nat.div_lt_of_lt_mul (by rw [Nat.mul_comm]; exact hj')
  have h2 : j % k < k := Nat.mod_lt _ hk0
  obtain ⟨g', cap', e1, _, _, _, hc, hf⟩ := h.cell (k := j / k) (by simpa using h1)
  simp only [Value.slice.injEq, Option.some.injEq, Addr.mk.injEq] at e1
  obtain ⟨⟨rfl, -⟩, -⟩ := e1
  have h4 : j % k < (enc d[j / k]).length := by rw [hk]; exact h2
  have h3 := hc (j % k) ((enc d[j / k])[j % k]) (by simp [h4])
  rw [Nat.mul_comm, Nat.div_add_mod] at h3
  rw [Nat.zero_add]
  refine ⟨?_, hf j⟩
  rw [h3, get_flatK enc k _ j (by simpa using hj')]
  simp [h1, h4]

end Go.My
end

/-
  disk: the library sort laid at this program (the text of the kit command, by my program laytpl.py).
-/
section
set_option linter.unusedSimpArgs false
set_option linter.unusedVariables false
namespace Go.Proofs.YtbjagmlbamjdbaaGreat.disks
open Go.Shelf

end Go.Proofs.YtbjagmlbamjdbaaGreat.disks
end

/-
  disk: the library's sort at the list of what waits.
-/
section
set_option linter.unusedSimpArgs false
set_option linter.unusedVariables false
namespace Go.Proofs.YtbjagmlbamjdbaaGreat.disks
open Go.RowKit Go.Maps Go.My Go.ChangeMaps Go.Shelf Go.Lib Go.Sort
set_option maxRecDepth 100000

end Go.Proofs.YtbjagmlbamjdbaaGreat.disks
end

/-
  disk: Waiting, the walk.
-/
section
set_option linter.unusedSimpArgs false
set_option linter.unusedVariables false
namespace Go.Proofs.YtbjagmlbamjdbaaGreat.disks
open Go.RowKit Go.Maps Go.My Go.ChangeMaps
set_option maxRecDepth 100000

variable {w w' : World} {d q : Nat} {F F' : Nat → Prop} {X X' : DV} {bv : Value} {m : List (Int × (Value × List Blk))}

/-- What waits, by the order of the blocks. -/
def waitsOf (X : DV) : List (Nat × Nat) := ((List.range X.B.length).filter (fun i => !(X.L i).isEmpty)).map (fun i => (i, (X.L i).length))
theorem waits_pairwise (X : DV) : (waitsOf X).Pairwise (fun a b => a.1 < b.1) := by
  unfold waitsOf
  rw [List.pairwise_map]
  exact List.Pairwise.filter _ List.pairwise_lt_range

theorem sorted_is {X : DV} {ws : List (Nat × Nat)} (hB : X.B.length ≤ 4096) (hp : ws.Perm (waitsOf X)) (hs : ws.Pairwise (fun a b => a.1 % 4096 ≤ b.1 % 4096)) : ws = waitsOf X := by
  have hlt : ∀ a ∈ waitsOf X, a.1 < 4096 ∧ a.2 = (X.L a.1).length := by
    intro a ha
    simp only [waitsOf, List.mem_map, List.mem_filter, List.mem_range] at ha
    obtain ⟨i, hi, rfl⟩ := ha
    exact ⟨by omega, rfl⟩
  refine List.Perm.eq_of_pairwise (le := fun a b => a.1 % 4096 ≤ b.1 % 4096) ?_ hs ?_ hp
  · intro a b ha hb h1 h2
    have ha' := hlt a (hp.mem_iff.1 ha)
    have hb' := hlt b hb
    have : a.1 = b.1 := by
      rw [Nat.mod_eq_of_lt ha'.1, Nat.mod_eq_of_lt hb'.1] at h1 h2
      omega
    exact Prod.ext this (by rw [ha'.2, hb'.2, this])
  · refine (List.Pairwise.and_mem.1 (waits_pairwise X)).imp ?_
    rintro a b ⟨ha, hb, h⟩
    rw [Nat.mod_eq_of_lt (hlt a ha).1, Nat.mod_eq_of_lt (hlt b hb).1]
    omega

end Go.Proofs.YtbjagmlbamjdbaaGreat.disks
end

/-
  disk: Crash, the walk.
-/
section
set_option linter.unusedSimpArgs false
set_option linter.unusedVariables false
namespace Go.Proofs.YtbjagmlbamjdbaaGreat.disks
open Go.RowKit Go.Maps Go.My Go.ChangeMaps
set_option maxRecDepth 100000

variable {w w' : World} {d q : Nat} {F F' : Nat → Prop} {X X' : DV} {bv : Value} {m : List (Int × (Value × List Blk))}

/-- How many of the waiting writes of the k-th block that has some are kept. -/
def keepAt (keep : List Int) (k N : Nat) : Nat := match keep[k]? with | some z => if 0 ≤ z then z.toNat % (N + 1) else 0 | none => 0

def DV.crashN (X : DV) (keep : List Int) : Nat → DV
  | 0 => X
  | k + 1 => match (waitsOf X)[k]? with
    | some p => { X.crashN keep k with B := if 0 < keepAt keep k p.2 then (X.crashN keep k).B.set p.1 (((X.L p.1)[keepAt keep k p.2 - 1]?).getD []) else (X.crashN keep k).B, L := fun t => if t = p.1 then [] else (X.crashN keep k).L t }
    | none => X.crashN keep k

def DV.crash (X : DV) (keep : List Int) : DV := { X.crashN keep (waitsOf X).length with fuse := -1, down := false }

theorem crashN_succ (X : DV) (keep : List Int) {k i N : Nat} (h : (waitsOf X)[k]? = some (i, N)) : X.crashN keep (k + 1) =
    { X.crashN keep k with B := if 0 < keepAt keep k N then (X.crashN keep k).B.set i (((X.L i)[keepAt keep k N - 1]?).getD []) else (X.crashN keep k).B, L := fun t => if t = i then [] else (X.crashN keep k).L t } := by
  rw [DV.crashN, h]

theorem crashN_len (X : DV) (keep : List Int) (k : Nat) : (X.crashN keep k).B.length = X.B.length := by
  induction k with
  | zero => rfl
  | succ k ih =>
    rw [DV.crashN]
    split
    · simp only
      split
      · rw [List.length_set, ih]
      · exact ih
    · exact ih

theorem waitsOf_at {X : DV} {k i N : Nat} (h : (waitsOf X)[k]? = some (i, N)) : i < X.B.length ∧ N = (X.L i).length ∧ 0 < N := by
  have := List.mem_of_getElem? h
  simp only [waitsOf, List.mem_map, List.mem_filter, List.mem_range, Prod.mk.injEq] at this
  obtain ⟨j, ⟨h1, h2⟩, rfl, rfl⟩ := this
  refine ⟨h1, rfl, ?_⟩
  cases hL : X.L j with
  | nil => rw [hL] at h2; simp at h2
  | cons a l => simp

/-- The blocks that have not come up yet have what waits. -/
theorem crashN_L (X : DV) (keep : List Int) (k t : Nat) (h : ∀ (j : Nat) (p : Nat × Nat), j < k → (waitsOf X)[j]? = some p → p.1 ≠ t) : (X.crashN keep k).L t = X.L t := by
  induction k with
  | zero => rfl
  | succ k ih =>
    rw [DV.crashN]
    split
    · rename_i p hp
      simp only
      rw [if_neg (fun e => h k p (Nat.lt_succ_self k) hp e.symm)]
      exact ih (fun j p hj hp => h j p (by omega) hp)
    · exact ih (fun j p hj hp => h j p (by omega) hp)

theorem mem_mdel {K V : Type} [DecidableEq K] {m : List (K × V)} {k : K} {p : K × V} (h : p ∈ mdel m k) : p ∈ m ∧ p.1 ≠ k := by
  unfold mdel at h
  rw [List.mem_filter] at h
  exact ⟨h.1, by simpa using h.2⟩

/-- What waits of block i is gone. -/
theorem DiskIs.delL (h : DiskIs w d F X bv q m) (i : Nat) (hm : MapIs iKey Prod.fst w' q (mdel m (i : Int))) (hc : Chg (· = q) w w') : DiskIs w' d F { X with L := fun t => if t = i then [] else X.L t } bv q (mdel m (i : Int)) := by
  refine ⟨hc.at h.head h.d_ne_q, h.rows.kept hc (fun j hj e => row_ne_q h h.rows (e ▸ hj)), h.any, hm, fun p hp => ⟨(h.lists p (mem_mdel hp).1).1.kept hc (fun j hj e => row_ne_q h (h.lists p (mem_mdel hp).1).1 (e ▸ hj)), (h.lists p (mem_mdel hp).1).2⟩,
    fun t => ?_, fun p hp => h.off p (mem_mdel hp).1, fun p hp p' hp' hne => h.apart p (mem_mdel hp).1 p' (mem_mdel hp').1 hne, h.fd, h.fq, h.fb, fun p hp => h.fm p (mem_mdel hp).1, fun j hj => Nat.lt_of_lt_of_le (h.lt j hj) hc.size, h.size⟩
  rw [mget_mdel]
  by_cases ht : t = i
  · subst ht; simp
  · have : ¬ (t : Int) = (i : Int) := by omega
    simp only [if_neg ht, if_neg this]
    exact h.waits t

theorem meas_step {a k : Nat} (h : k < a) : a - (intOf (.int .i64 ((k : Int) + 1))).toNat < a - (intOf (.int .i64 (k : Int))).toNat := by simp [intOf]; omega

theorem DiskIs.gone (h : DiskIs w d F X bv q m) (i : Nat) (hi : inR i) : ∃ ob, (∀ ty, (Builtin.delete_ #[49, 3] ty #[.map (some q), .int .i64 (i : Int)]).run Tryz.prog w = .ok (.tuple #[]) (setBlock w q ob)) ∧
    DiskIs (setBlock w q ob) d F { X with L := fun t => if t = i then [] else X.L t } bv q (mdel m (i : Int)) ∧ Chg (· = q) w (setBlock w q ob) := by
  obtain ⟨ob, h1, h2⟩ := h.wmap.del Tryz.underlying49 (i : Int) (inR_wf hi) 0
  have hc : Chg (· = q) w (setBlock w q ob) := Chg.setBlock (S := (· = q)) (Chg.refl _ _) (fun _ => rfl) _
  exact ⟨ob, fun ty => h1, h.delL i h2 hc, hc⟩

end Go.Proofs.YtbjagmlbamjdbaaGreat.disks
end

/-
  disk: the contracts over DiskAt that sort: Waiting, Crash.
-/
section
set_option linter.unusedSimpArgs false
set_option linter.unusedVariables false
namespace Go.Proofs.YtbjagmlbamjdbaaGreat.disks
open Go.RowKit Go.Maps Go.My Go.ChangeMaps
set_option maxRecDepth 100000

variable {W w w' : World} {d q : Nat} {F F' : Nat → Prop} {X X' Y : DV} {bv : Value} {m : List (Int × (Value × List Blk))}

theorem crashN_L_le (X : DV) (keep : List Int) (k j : Nat) : ((X.crashN keep k).L j).length ≤ (X.L j).length := by
  induction k with
  | zero => exact Nat.le_refl _
  | succ k ih =>
    rw [DV.crashN]
    split
    · simp only
      split
      · simp
      · exact ih
    · exact ih

theorem crash_L_le (X : DV) (keep : List Int) (j : Nat) : ((X.crash keep).L j).length ≤ (X.L j).length := crashN_L_le X keep _ j

end Go.Proofs.YtbjagmlbamjdbaaGreat.disks
end

/-
  disk: the plain law: what a crash leaves in each block.
-/
section
set_option linter.unusedSimpArgs false
set_option linter.unusedVariables false
namespace Go.Proofs.YtbjagmlbamjdbaaGreat.disks
open Go.RowKit Go.Maps Go.My Go.ChangeMaps
set_option maxRecDepth 100000

/-- How many blocks ahead of i have something that waits. -/
def placeOf (X : DV) (i : Nat) : Nat := ((List.range i).filter (fun j => !(X.L j).isEmpty)).length

theorem ws_at {X : DV} {i : Nat} (h : X.L i ≠ []) (hi : i < X.B.length) : (waitsOf X)[placeOf X i]? = some (i, (X.L i).length) := by
  have e : List.range X.B.length = List.range i ++ (i :: List.range' (i + 1) (X.B.length - (i + 1))) := by
    have h1 : List.range X.B.length = List.range i ++ List.range' i (X.B.length - i) := by
      rw [List.range_eq_range', List.range_eq_range']
      have := List.range'_append_1 (s := 0) (m := i) (n := X.B.length - i)
      rw [Nat.zero_add] at this
      rw [this]
      congr 1; omega
    rw [h1, show X.B.length - i = (X.B.length - (i + 1)) + 1 by omega, List.range'_succ]
  unfold waitsOf
  rw [e, List.filter_append, List.filter_cons, if_pos (by simpa using h), List.map_append, List.map_cons]
  rw [List.getElem?_append_right (by simp [placeOf]), List.length_map]
  simp [placeOf]

theorem ws_unique {X : DV} {j k t N M : Nat} (h1 : (waitsOf X)[j]? = some (t, N)) (h2 : (waitsOf X)[k]? = some (t, M)) : j = k := by
  have h := waits_pairwise X
  rw [List.pairwise_iff_getElem] at h
  obtain ⟨hj, e1⟩ := List.getElem?_eq_some_iff.1 h1
  obtain ⟨hk, e2⟩ := List.getElem?_eq_some_iff.1 h2
  rcases Nat.lt_trichotomy j k with hl | hl | hl
  · have := h j k hj hk hl
    rw [e1, e2] at this; simp at this
  · exact hl
  · have := h k j hk hj hl
    rw [e1, e2] at this; simp at this

theorem crashN_B_none (X : DV) (keep : List Int) (k t : Nat) (h : ∀ (j : Nat) (p : Nat × Nat), j < k → (waitsOf X)[j]? = some p → p.1 ≠ t) : (X.crashN keep k).B[t]? = X.B[t]? := by
  induction k with
  | zero => rfl
  | succ k ih =>
    have ih := ih (fun j p hj hp => h j p (by omega) hp)
    rw [DV.crashN]
    split
    · rename_i p hp
      simp only
      split
      · rw [List.getElem?_set_ne (h k p (by omega) hp)]; exact ih
      · exact ih
    · exact ih

theorem crashN_at (X : DV) (keep : List Int) {j t N : Nat} (hj : (waitsOf X)[j]? = some (t, N)) (k : Nat) (hk : j < k) :
    (X.crashN keep k).B[t]? = (if 0 < keepAt keep j N then some (((X.L t)[keepAt keep j N - 1]?).getD []) else X.B[t]?) ∧ (X.crashN keep k).L t = [] := by
  induction k with
  | zero => omega
  | succ k ih =>
    by_cases hjk : j = k
    · subst hjk
      have hno := crashN_B_none X keep j t (fun i p hi hp e => by
        obtain ⟨p1, p2⟩ := p
        simp only at e
        subst e
        have := ws_unique hp hj
        omega)
      have htl := (waitsOf_at hj).1
      rw [crashN_succ X keep hj]
      simp only [if_true, and_true]
      split
      · rw [List.getElem?_set_self (by rw [crashN_len]; exact htl)]
      · exact hno
    · obtain ⟨h1, h2⟩ := ih (by omega)
      rw [DV.crashN]
      split
      · rename_i p hp
        have hpt : p.1 ≠ t := fun e => by
          obtain ⟨p1, p2⟩ := p
          simp only at e
          subst e
          exact hjk (ws_unique hj hp)
        have hL : (if t = p.1 then [] else (X.crashN keep k).L t) = [] := by rw [if_neg (fun e => hpt e.symm)]; exact h2
        refine ⟨?_, hL⟩
        rw [← h1]
        by_cases hc : 0 < keepAt keep k p.2
        · simp only [if_pos hc]
          rw [List.getElem?_set_ne hpt]
        · simp only [if_neg hc]
      · exact ⟨h1, h2⟩

/-- What a crash leaves: in a block with nothing that waits, what was durable; else the last of the writes that are kept. -/
theorem crash_keeps (X : DV) (keep : List Int) {i : Nat} (hi : i < X.B.length) :
    (X.crash keep).L i = [] ∧ (X.L i = [] → (X.crash keep).B[i]? = X.B[i]?) ∧
      (X.L i ≠ [] → (X.crash keep).B[i]? = if 0 < keepAt keep (placeOf X i) (X.L i).length then some (((X.L i)[keepAt keep (placeOf X i) (X.L i).length - 1]?).getD []) else X.B[i]?) := by
  by_cases h : X.L i = []
  · have hno : ∀ (j : Nat) (p : Nat × Nat), j < (waitsOf X).length → (waitsOf X)[j]? = some p → p.1 ≠ i := fun j p _ hp e => by
      obtain ⟨p1, p2⟩ := p
      simp only at e
      subst e
      have := waitsOf_at hp
      rw [h] at this
      simp at this
      omega
    refine ⟨?_, fun _ => crashN_B_none X keep _ i hno, fun hn => absurd h hn⟩
    show (X.crashN keep (waitsOf X).length).L i = []
    rw [crashN_L X keep _ i hno, h]
  · have hw := ws_at h hi
    have hlt : placeOf X i < (waitsOf X).length := (List.getElem?_eq_some_iff.1 hw).1
    obtain ⟨h1, h2⟩ := crashN_at X keep hw (waitsOf X).length hlt
    exact ⟨h2, fun hn => absurd hn h, fun _ => h1⟩

end Go.Proofs.YtbjagmlbamjdbaaGreat.disks
end

/-
  wal: the plain law: what a log's writes leave on a disk, wherever they are cut off.
-/
section
set_option linter.unusedSimpArgs false
set_option linter.unusedVariables false
namespace Go.Proofs.YtbjagmlbamjdbaaGreat.wals
open Go.My disks

structure Goes (X X' : DV) : Prop where
  fuse : X'.fuse ≤ X.fuse
  free : X.fuse = -1 → X'.fuse = -1
theorem Goes.refl (X : DV) : Goes X X := ⟨Int.le_refl _, id⟩
theorem Goes.trans {X Y Z : DV} (h : Goes X Y) (k : Goes Y Z) : Goes X Z := ⟨Int.le_trans k.fuse h.fuse, fun e => k.free (h.free e)⟩

theorem goes_burn (X : DV) : Goes X X.burn := by
  unfold DV.burn
  split
  · exact ⟨Int.le_refl _, id⟩
  · constructor
    · show (if 0 < X.fuse then X.fuse - 1 else X.fuse) ≤ X.fuse
      split <;> omega
    · intro e
      show (if 0 < X.fuse then X.fuse - 1 else X.fuse) = -1
      rw [if_neg (by omega)]; exact e

theorem wr_one {X : DV} {i : Nat} {b : Blk} (h : X.down = false) (hi : i < X.B.length) (hb : b.length = 64) :
    Goes X (X.write (i : Int) b) ∧ (X.write (i : Int) b).B = X.B ∧
    ((writeC X (i : Int) b.length = 0 ∧ (X.write (i : Int) b).down = false ∧ ∀ j, (X.write (i : Int) b).L j = if j = i then X.L j ++ [b] else X.L j) ∨
     (writeC X (i : Int) b.length = 15 ∧ X.fuse = 0 ∧ (X.write (i : Int) b).down = true ∧ ∀ j, (X.write (i : Int) b).L j = X.L j)) := by
  have ha : askedC X (i : Int) = 0 := by unfold askedC; rw [h]; simp; omega
  by_cases hf : X.fuse = 0
  · have e1 : X.write (i : Int) b = X.burn := by unfold DV.write; rw [if_neg (by simp [ha, hb]), if_pos hf]
    rw [e1]
    have e2 : X.burn = { X with down := true } := by unfold DV.burn; rw [if_pos hf]
    refine ⟨goes_burn X, by rw [e2], Or.inr ⟨?_, hf, by rw [e2], fun j => by rw [e2]⟩⟩
    unfold writeC; rw [if_neg (by simp [ha]), if_neg (by simp [hb]), if_pos hf]
  · have e1 : X.write (i : Int) b = X.burn.put i b := by unfold DV.write; rw [if_neg (by simp [ha, hb]), if_neg hf, Int.toNat_natCast]
    rw [e1]
    have e2 : X.burn.down = false := by unfold DV.burn; rw [if_neg hf]; exact h
    refine ⟨⟨(goes_burn X).fuse, (goes_burn X).free⟩, burn_B X, Or.inl ⟨?_, e2, fun j => ?_⟩⟩
    · unfold writeC; rw [if_neg (by simp [ha]), if_neg (by simp [hb]), if_neg hf]
    · show (if j = i then X.burn.L j ++ [b] else X.burn.L j) = _
      rw [burn_L]

theorem fl_one {X : DV} (h : X.down = false) :
    Goes X X.flush ∧
    ((flushC X = 0 ∧ X.flush.down = false ∧ (∀ j, X.flush.L j = []) ∧ X.flush.B = (List.range X.B.length).map X.cur) ∨
     (flushC X = 15 ∧ X.fuse = 0 ∧ X.flush.down = true ∧ (∀ j, X.flush.L j = X.L j) ∧ X.flush.B = X.B)) := by
  by_cases hf : X.fuse = 0
  · have e1 : X.flush = X.burn := by unfold DV.flush; rw [if_neg (by simp [h]), if_pos hf]
    have e2 : X.burn = { X with down := true } := by unfold DV.burn; rw [if_pos hf]
    refine ⟨by rw [e1]; exact goes_burn X, Or.inr ⟨?_, hf, by rw [e1, e2], fun j => by rw [e1, e2], by rw [e1, e2]⟩⟩
    unfold flushC; rw [if_neg (by simp [h]), if_pos hf]
  · have e1 : X.flush = X.burn.all := by unfold DV.flush; rw [if_neg (by simp [h]), if_neg hf]
    have e2 : X.burn.down = false := by unfold DV.burn; rw [if_neg hf]; exact h
    refine ⟨by rw [e1]; exact ⟨(goes_burn X).fuse, (goes_burn X).free⟩, Or.inl ⟨?_, by rw [e1]; exact e2, fun j => by rw [e1]; rfl, ?_⟩⟩
    · unfold flushC; rw [if_neg (by simp [h]), if_neg hf]
    · rw [e1]
      show (List.range X.burn.B.length).map X.burn.cur = _
      have : X.burn.cur = X.cur := by funext i; unfold DV.cur; rw [burn_B, burn_L]
      rw [burn_B, this]

theorem wrBlocks_spec : ∀ (cs : List Blk) (X : DV) (pl : Nat), X.down = false → (∀ c ∈ cs, c.length = 64) → pl + cs.length ≤ X.B.length →
    Goes X (wrBlocks X pl cs).2 ∧ (wrBlocks X pl cs).2.B = X.B ∧ ∃ m, m ≤ cs.length ∧ (∀ i, (wrBlocks X pl cs).2.L i = if pl ≤ i ∧ i < pl + m then X.L i ++ [cs[i - pl]?.getD []] else X.L i) ∧
      (((wrBlocks X pl cs).1 = 0 ∧ m = cs.length ∧ (wrBlocks X pl cs).2.down = false) ∨ ((wrBlocks X pl cs).1 = 15 ∧ (wrBlocks X pl cs).2.down = true ∧ X.fuse ≠ -1))
  | [], X, pl, h, _, _ => ⟨Goes.refl X, rfl, 0, Nat.le_refl _, fun i => by rw [if_neg (by omega)]; rfl, Or.inl ⟨rfl, rfl, h⟩⟩
  | c :: cs, X, pl, h, hc, hl => by
    have hlc := hc c (by simp)
    have hl' : pl + (cs.length + 1) ≤ X.B.length := hl
    obtain ⟨g1, b1, h1⟩ := wr_one (b := c) h (show pl < X.B.length by omega) hlc
    rcases h1 with ⟨e1, d1, l1⟩ | ⟨e1, f1, d1, l1⟩
    · have ee : wrBlocks X pl (c :: cs) = wrBlocks (X.write pl c) (pl + 1) cs := by rw [wrBlocks, if_neg (by simp [e1])]
      rw [ee]
      obtain ⟨g2, b2, m, hm, l2, h2⟩ := wrBlocks_spec cs (X.write pl c) (pl + 1) d1 (fun x hx => hc x (by simp [hx])) (by rw [b1]; omega)
      refine ⟨g1.trans g2, b2.trans b1, m + 1, by simpa using hm, fun i => ?_, ?_⟩
      · rw [l2, l1]
        by_cases hi : i = pl
        · subst hi
          rw [if_neg (by omega), if_pos rfl, if_pos (by omega)]
          simp
        · by_cases hi2 : pl + 1 ≤ i ∧ i < pl + 1 + m
          · rw [if_pos hi2, if_neg hi, if_pos (by omega), show i - pl = (i - (pl + 1)) + 1 by omega]
            simp
          · rw [if_neg hi2, if_neg hi, if_neg (by omega)]
      · rcases h2 with ⟨p1, p2, p3⟩ | ⟨p1, p2, p3⟩
        · exact Or.inl ⟨p1, by simp [p2], p3⟩
        · exact Or.inr ⟨p1, p2, fun e => p3 (g1.free e)⟩
    · have ee : wrBlocks X pl (c :: cs) = (15, X.write pl c) := by rw [wrBlocks, if_pos (by simp [e1]), e1]
      rw [ee]
      exact ⟨g1, b1, 0, Nat.zero_le _, fun i => by rw [if_neg (by omega)]; exact l1 i, Or.inr ⟨rfl, d1, by omega⟩⟩

/-! ### what a crash can leave -/
theorem keepAt_le' (keep : List Int) (k N : Nat) : keepAt keep k N ≤ N := by
  unfold keepAt
  split
  · split
    · have := Nat.mod_lt (‹Int›.toNat) (show 0 < N + 1 by omega)
      omega
    · omega
  · omega
theorem crash_mem (X : DV) (keep : List Int) {i : Nat} (hi : i < X.B.length) : (X.crash keep).B[i]? = X.B[i]? ∨ ∃ b ∈ X.L i, (X.crash keep).B[i]? = some b := by
  obtain ⟨h1, h2, h3⟩ := crash_keeps X keep hi
  by_cases h : X.L i = []
  · exact Or.inl (h2 h)
  · have h3 := h3 h
    split at h3
    · rename_i hk
      have hlt : keepAt keep (placeOf X i) (X.L i).length - 1 < (X.L i).length := by
        have : keepAt keep (placeOf X i) (X.L i).length ≤ (X.L i).length := keepAt_le' keep (placeOf X i) (X.L i).length
        have hp : 0 < (X.L i).length := by cases hL : X.L i with | nil => exact absurd hL h | cons a l => simp
        omega
      refine Or.inr ⟨(X.L i)[keepAt keep (placeOf X i) (X.L i).length - 1], List.getElem_mem hlt, ?_⟩
      rw [h3, List.getElem?_eq_getElem hlt]; rfl
    · exact Or.inl h3

theorem crash_L_nil (X : DV) (keep : List Int) (h : ∀ i, X.B.length ≤ i → X.L i = []) (i : Nat) : (X.crash keep).L i = [] := by
  by_cases hi : i < X.B.length
  · exact (crash_keeps X keep hi).1
  · have := crash_L_le X keep i
    rw [h i (by omega)] at this
    exact List.eq_nil_of_length_eq_zero (by simpa using this)

theorem crash_B_len (X : DV) (keep : List Int) : (X.crash keep).B.length = X.B.length := crashN_len X keep _
/-- Some blocks of a row are the new ones. -/
structure Part (B B' : List Blk) (pl : Nat) (cs : List Blk) : Prop where
  len : B'.length = B.length
  each : ∀ i, i < B.length → B'[i]? = B[i]? ∨ (pl ≤ i ∧ i < pl + cs.length ∧ B'[i]? = cs[i - pl]?)
/-- All of them are, and the head. -/
structure Full (B B' : List Blk) (pl : Nat) (cs : List Blk) (k : Nat) (hd : Blk) : Prop where
  len : B'.length = B.length
  head : B'[k]? = some hd
  each : ∀ i, i < B.length → i ≠ k → B'[i]? = if pl ≤ i ∧ i < pl + cs.length then cs[i - pl]? else B[i]?

structure Idle (X : DV) : Prop where
  up : X.down = false
  L : ∀ i, X.L i = []
  ge : 6 ≤ X.B.length
  le : X.B.length ≤ 4096
  w64 : ∀ b ∈ X.B, b.length = 64

theorem Idle.cur {X : DV} (h : Idle X) (i : Nat) : X.cur i = X.B[i]?.getD [] := by unfold DV.cur; rw [h.L]; rfl

theorem part_64 {B B' : List Blk} {pl : Nat} {cs : List Blk} (h : Part B B' pl cs) (hB : ∀ b ∈ B, b.length = 64) (hc : ∀ c ∈ cs, c.length = 64) : ∀ b ∈ B', b.length = 64 := by
  intro b hb
  obtain ⟨i, hi, rfl⟩ := List.getElem_of_mem hb
  have hi' : i < B.length := by rw [← h.len]; exact hi
  rcases h.each i hi' with e | ⟨_, _, e⟩
  · rw [List.getElem?_eq_getElem hi] at e
    exact hB _ (List.mem_of_getElem? e.symm)
  · rw [List.getElem?_eq_getElem hi] at e
    exact hc _ (List.mem_of_getElem? e.symm)
theorem full_64 {B B' : List Blk} {pl k : Nat} {cs : List Blk} {hd : Blk} (h : Full B B' pl cs k hd) (hB : ∀ b ∈ B, b.length = 64) (hc : ∀ c ∈ cs, c.length = 64) (hh : hd.length = 64) : ∀ b ∈ B', b.length = 64 := by
  intro b hb
  obtain ⟨i, hi, rfl⟩ := List.getElem_of_mem hb
  have hi' : i < B.length := by rw [← h.len]; exact hi
  by_cases hk : i = k
  · subst hk
    have := h.head
    rw [List.getElem?_eq_getElem hi] at this
    rw [Option.some.inj this]; exact hh
  · have e := h.each i hi' hk
    rw [List.getElem?_eq_getElem hi] at e
    split at e
    · exact hc _ (List.mem_of_getElem? e.symm)
    · exact hB _ (List.mem_of_getElem? e.symm)

/-- A head is put: whole, or cut off. -/
theorem putH_spec {X : DV} (h : X.down = false) (hL : ∀ i, X.L i = []) (hle : 2 ≤ X.B.length) (s a u : Nat) :
    Goes X (putH X s a u).2 ∧ (putH X s a u).2.B.length = X.B.length ∧
    (((putH X s a u).1 = 0 ∧ (putH X s a u).2.down = false ∧ (∀ i, (putH X s a u).2.L i = []) ∧ (putH X s a u).2.B = X.B.set (s % 2) (headB s a u)) ∨
     ((putH X s a u).1 = 15 ∧ X.fuse ≠ -1 ∧ (putH X s a u).2.down = true ∧ (putH X s a u).2.B = X.B ∧ ((∀ i, (putH X s a u).2.L i = []) ∨ (∀ i, (putH X s a u).2.L i = if i = s % 2 then [headB s a u] else [])))) := by
  have hlt : s % 2 < X.B.length := by omega
  obtain ⟨g1, b1, h1⟩ := wr_one (b := headB s a u) h hlt (headB_length s a u)
  rw [headB_length] at h1
  have h1' : (writeC X ((s % 2 : Nat) : Int) 64 = 0 ∧ (X.write ((s % 2 : Nat) : Int) (headB s a u)).down = false ∧ ∀ j, (X.write ((s % 2 : Nat) : Int) (headB s a u)).L j = if j = s % 2 then X.L j ++ [headB s a u] else X.L j) ∨
     (writeC X ((s % 2 : Nat) : Int) 64 = 15 ∧ X.fuse = 0 ∧ (X.write ((s % 2 : Nat) : Int) (headB s a u)).down = true ∧ ∀ j, (X.write ((s % 2 : Nat) : Int) (headB s a u)).L j = X.L j) := h1
  unfold putH
  generalize hX1 : X.write ((s % 2 : Nat) : Int) (headB s a u) = X1 at *
  rcases h1' with ⟨e1, d1, l1⟩ | ⟨e1, f1, d1, l1⟩
  · rw [if_neg (fun hh => hh e1)]
    obtain ⟨g2, h2⟩ := fl_one d1
    rcases h2 with ⟨e2, d2, l2, b2⟩ | ⟨e2, f2, d2, l2, b2⟩
    · rw [if_neg (by simp [e2])]
      have hb : X1.flush.B = X.B.set (s % 2) (headB s a u) := by
        rw [b2, b1]
        apply List.ext_getElem?
        intro i
        rw [List.getElem?_map, List.getElem?_set]
        by_cases hi : i < X.B.length
        · rw [List.getElem?_range hi]
          simp only [Option.map_some]
          unfold DV.cur
          rw [l1, hL, b1]
          by_cases hik : s % 2 = i
          · subst hik; simp [hi]
          · rw [if_neg (fun e => hik e.symm), if_neg hik]
            simp [hi]
        · rw [List.getElem?_eq_none (by simpa using hi), if_neg (by omega), List.getElem?_eq_none (by omega)]; rfl
      exact ⟨g1.trans g2, by rw [hb, List.length_set], Or.inl ⟨rfl, d2, l2, hb⟩⟩
    · rw [if_pos (by simp [e2])]
      refine ⟨g1.trans g2, by show X1.flush.B.length = _; rw [b2, b1], Or.inr ⟨e2, fun e => ?_, d2, b2.trans b1, Or.inr (fun i => ?_)⟩⟩
      · have := g1.free e; omega
      · show X1.flush.L i = _
        rw [l2, l1, hL]; rfl
  · rw [if_pos (by rw [e1]; decide)]
    exact ⟨g1, by show X1.B.length = _; rw [b1], Or.inr ⟨e1, by omega, d1, b1, Or.inl (fun i => by show X1.L i = _; rw [l1, hL])⟩⟩

/-- What is laid down: data, then the head: whole, or cut off anywhere. -/
theorem layF_spec {X : DV} (h : Idle X) {pl : Nat} (h2 : 2 ≤ pl) (b : Blk) (hpl : pl + (chunks b).length ≤ X.B.length) (s a u : Nat) :
    Goes X (layF X pl b s a u).2 ∧ (layF X pl b s a u).2.B.length = X.B.length ∧
    (((layF X pl b s a u).1 = 0 ∧ Idle (layF X pl b s a u).2 ∧ Full X.B (layF X pl b s a u).2.B pl (chunks b) (s % 2) (headB s a u)) ∨
     ((layF X pl b s a u).1 = 15 ∧ X.fuse ≠ -1 ∧ (layF X pl b s a u).2.down = true ∧ (∀ j, ((layF X pl b s a u).2.L j).length ≤ 1) ∧
       ∀ keep, Idle ((layF X pl b s a u).2.crash keep) ∧ (Part X.B ((layF X pl b s a u).2.crash keep).B pl (chunks b) ∨ Full X.B ((layF X pl b s a u).2.crash keep).B pl (chunks b) (s % 2) (headB s a u)))) := by
  have hc64 : ∀ c ∈ chunks b, c.length = 64 := fun c hc => by
    unfold chunks at hc
    obtain ⟨k, _, rfl⟩ := List.mem_map.1 hc
    exact chunkAt_length b k
  obtain ⟨g1, b1, m, hm, l1, h1⟩ := wrBlocks_spec (chunks b) X pl h.up hc64 hpl
  -- what a crash leaves where nothing but data waits
  have part : ∀ (Y : DV), Y.B = X.B → (∀ i, Y.L i = if pl ≤ i ∧ i < pl + m then X.L i ++ [(chunks b)[i - pl]?.getD []] else X.L i) → (∀ j, (Y.L j).length ≤ 1) ∧ ∀ keep, Idle (Y.crash keep) ∧ Part X.B (Y.crash keep).B pl (chunks b) := by
    intro Y hB hL
    have hLc : ∀ i, Y.L i = if pl ≤ i ∧ i < pl + m then [(chunks b)[i - pl]?.getD []] else [] := fun i => by
      rw [hL, h.L]; rfl
    refine ⟨fun j => by rw [hLc]; split <;> simp, fun keep => ?_⟩
    have hP : Part X.B (Y.crash keep).B pl (chunks b) := by
      refine ⟨by rw [crash_B_len, hB], fun i hi => ?_⟩
      rcases crash_mem Y keep (i := i) (by rw [hB]; exact hi) with e | ⟨x, hx, e⟩
      · exact Or.inl (by rw [e, hB])
      · rw [hLc] at hx
        split at hx
        · rename_i hr
          simp only [List.mem_singleton] at hx
          refine Or.inr ⟨hr.1, by omega, ?_⟩
          rw [e, hx, List.getElem?_eq_getElem (show i - pl < (chunks b).length by omega)]; rfl
        · simp at hx
    refine ⟨⟨rfl, fun i => crash_L_nil Y keep (fun i hi => ?_) i, by rw [crash_B_len, hB]; exact h.ge, by rw [crash_B_len, hB]; exact h.le, part_64 hP h.w64 hc64⟩, hP⟩
    rw [hLc, if_neg (by rw [hB] at hi; omega)]
  unfold layF
  rcases h1 with ⟨e1, rfl, d1⟩ | ⟨e1, d1, f1⟩
  · rw [if_neg (by simp [e1])]
    generalize hX1 : (wrBlocks X pl (chunks b)).2 = X1 at *
    obtain ⟨g2, h2'⟩ := fl_one d1
    rcases h2' with ⟨e2, d2, l2, b2⟩ | ⟨e2, f2, d2, l2, b2⟩
    · rw [if_neg (by simp [e2])]
      have hlen2 : X1.flush.B.length = X.B.length := by rw [b2, b1]; simp
      have hB2 : ∀ i, i < X.B.length → X1.flush.B[i]? = if pl ≤ i ∧ i < pl + (chunks b).length then (chunks b)[i - pl]? else X.B[i]? := by
        intro i hi
        rw [b2, b1, List.getElem?_map, List.getElem?_range hi]
        simp only [Option.map_some]
        unfold DV.cur
        rw [l1, h.L, b1]
        split
        · rename_i hr
          rw [List.getElem?_eq_getElem (show i - pl < (chunks b).length by omega)]; rfl
        · simp [hi]
      obtain ⟨g3, n3, h3⟩ := putH_spec (X := X1.flush) d2 l2 (by rw [hlen2]; have := h.ge; omega) s a u
      have full : ∀ B', B' = X1.flush.B.set (s % 2) (headB s a u) → Full X.B B' pl (chunks b) (s % 2) (headB s a u) := by
        rintro B' rfl
        have hs : s % 2 < X1.flush.B.length := by rw [hlen2]; have := h.ge; omega
        refine ⟨by rw [List.length_set, hlen2], List.getElem?_set_self hs, fun i hi hne => ?_⟩
        rw [List.getElem?_set_ne (fun e => hne e.symm)]
        exact hB2 i hi
      have p2 : Part X.B X1.flush.B pl (chunks b) := by
        refine ⟨hlen2, fun i hi => ?_⟩
        rw [hB2 i hi]
        split
        · rename_i hr; exact Or.inr ⟨hr.1, hr.2, rfl⟩
        · exact Or.inl rfl
      generalize hX2 : X1.flush = X2 at *
      rcases h3 with ⟨e3, d3, l3, b3⟩ | ⟨e3, f3, d3, b3, l3⟩
      · have hF := full _ b3
        refine ⟨(g1.trans g2).trans g3, n3.trans hlen2, Or.inl ⟨e3, ⟨d3, l3, by rw [n3, hlen2]; exact h.ge, by rw [n3, hlen2]; exact h.le, full_64 hF h.w64 hc64 (headB_length s a u)⟩, hF⟩⟩
      · refine ⟨(g1.trans g2).trans g3, n3.trans hlen2, Or.inr ⟨e3, fun e => f3 ((g1.trans g2).free e), d3, fun j => ?_, fun keep => ?_⟩⟩
        · rcases l3 with l3 | l3
          · rw [l3]; simp
          · rw [l3]; split <;> simp
        · generalize hY : (putH X2 s a u).2 = Y at *
          have hLn : ∀ i, Y.B.length ≤ i → Y.L i = [] := fun i hi => by
            rcases l3 with l3 | l3
            · exact l3 i
            · rw [l3, if_neg]; have := h.ge; rw [n3, hlen2] at hi; omega
          have hyl : (Y.crash keep).B.length = X.B.length := by rw [crash_B_len, n3, hlen2]
          have hcase : (Y.crash keep).B = X2.B ∨ (Y.crash keep).B = X2.B.set (s % 2) (headB s a u) := by
            have hs : s % 2 < X2.B.length := by rw [hlen2]; have := h.ge; omega
            have hk := crash_mem Y keep (i := s % 2) (by rw [b3]; exact hs)
            have hoth : ∀ i, i < X2.B.length → i ≠ s % 2 → (Y.crash keep).B[i]? = X2.B[i]? := fun i hi hne => by
              rcases crash_mem Y keep (i := i) (by rw [b3]; exact hi) with e | ⟨x, hx, e⟩
              · rw [e, b3]
              · exfalso
                rcases l3 with l3 | l3
                · rw [l3] at hx; simp at hx
                · rw [l3, if_neg hne] at hx; simp at hx
            rcases hk with e | ⟨x, hx, e⟩
            · left
              apply List.ext_getElem?
              intro i
              by_cases hi : i < X2.B.length
              · by_cases hne : i = s % 2
                · rw [hne, e, b3]
                · exact hoth i hi hne
              · rw [List.getElem?_eq_none (by rw [hyl, ← hlen2]; omega), List.getElem?_eq_none (by omega)]
            · right
              have hx' : x = headB s a u := by
                rcases l3 with l3 | l3
                · rw [l3] at hx; simp at hx
                · rw [l3, if_pos rfl] at hx; simpa using hx
              subst hx'
              apply List.ext_getElem?
              intro i
              by_cases hi : i < X2.B.length
              · by_cases hne : i = s % 2
                · rw [hne, e, List.getElem?_set_self hs]
                · rw [hoth i hi hne, List.getElem?_set_ne (fun e => hne e.symm)]
              · rw [List.getElem?_eq_none (by rw [hyl, ← hlen2]; omega), List.getElem?_eq_none (by rw [List.length_set]; omega)]
          rcases hcase with e | e
          · exact ⟨⟨rfl, crash_L_nil Y keep hLn, by rw [hyl]; exact h.ge, by rw [hyl]; exact h.le, by rw [e]; exact part_64 p2 h.w64 hc64⟩, Or.inl (by rw [e]; exact p2)⟩
          · have hF := full _ e
            exact ⟨⟨rfl, crash_L_nil Y keep hLn, by rw [hyl]; exact h.ge, by rw [hyl]; exact h.le, full_64 hF h.w64 hc64 (headB_length s a u)⟩, Or.inr hF⟩
    · rw [if_pos (by simp [e2])]
      obtain ⟨q1, q2⟩ := part X1.flush (b2.trans b1) (fun i => by rw [l2, l1])
      refine ⟨g1.trans g2, by show X1.flush.B.length = _; rw [b2, b1], Or.inr ⟨e2, fun e => ?_, d2, q1, fun keep => ⟨(q2 keep).1, Or.inl (q2 keep).2⟩⟩⟩
      have := g1.free e; omega
  · rw [if_pos (by simp [e1])]
    obtain ⟨q1, q2⟩ := part _ b1 l1
    exact ⟨g1, by rw [b1], Or.inr ⟨e1, f1, d1, q1, fun keep => ⟨(q2 keep).1, Or.inl (q2 keep).2⟩⟩⟩

end Go.Proofs.YtbjagmlbamjdbaaGreat.wals
end

/-
  wal: the plain law: what stands on a disk is found again; a sync, a reset: whole or not at all.
-/
section
set_option linter.unusedSimpArgs false
set_option linter.unusedVariables false
namespace Go.Proofs.YtbjagmlbamjdbaaGreat.wals
open Go.My disks

def Data (B : List Blk) (f : Nat) (bs : Blk) : Prop := ∀ p, p < bs.length → (B[f + p / 64]?.getD [])[p % 64]? = bs[p]?

/-- The records stand on the disk, under a head with the number s, in the area a. -/
structure Stands (X : DV) (recs : List Blk) (s a : Nat) : Prop where
  idle : Idle X
  s1 : 1 ≤ s
  area : a ≤ 1
  short : ∀ r ∈ recs, r.length ≤ 4096
  fits : (framesB recs).length ≤ 64 * areaN X.B.length
  head : X.B[s % 2]? = some (headB s a (framesB recs).length)
  other : X.B[1 - s % 2]? = some (zeros 64) ∨ ∃ a' u', X.B[1 - s % 2]? = some (headB (s - 1) a' u') ∧ 2 ≤ s ∧ a' ≤ 1 ∧ u' ≤ 64 * areaN X.B.length
  data : Data X.B (firstN X.B.length a) (framesB recs)

/-- Nothing was ever laid. -/
structure Blank (X : DV) : Prop where
  idle : Idle X
  x : X.B[0]? = some (zeros 64)
  y : X.B[1]? = some (zeros 64)

def logV (recs : List Blk) (s a : Nat) : LV := ⟨s, a, (framesB recs).length, recs, (framesB recs).drop ((framesB recs).length / 64 * 64), [], 0, false⟩

theorem areaN_le {n : Nat} (h : n ≤ 4096) : areaN n ≤ 2047 := by unfold areaN; omega
theorem area_in {n a : Nat} (h6 : 6 ≤ n) (ha : a ≤ 1) : firstN n a + areaN n ≤ n ∧ 2 ≤ firstN n a := by
  unfold firstN areaN
  have : a = 0 ∨ a = 1 := by omega
  rcases this with rfl | rfl <;> omega
theorem area_apart {n : Nat} : firstN n 0 + areaN n = firstN n 1 := by unfold firstN; omega

theorem bytesOf_length {X : DV} (h : Idle X) (f : Nat) : ∀ k, f + k ≤ X.B.length → (bytesOf X f k).length = 64 * k
  | 0, _ => rfl
  | k + 1, hk => by
    rw [bytesOf, List.length_append, bytesOf_length h f k (by omega), h.cur, List.getElem?_eq_getElem (show f + k < X.B.length by omega)]
    simp only [Option.getD_some]
    rw [h.w64 _ (List.getElem_mem _)]; omega
theorem bytesOf_get {X : DV} (h : Idle X) (f : Nat) : ∀ k, f + k ≤ X.B.length → ∀ p, p < 64 * k → (bytesOf X f k)[p]? = (X.B[f + p / 64]?.getD [])[p % 64]?
  | 0, _, p, hp => by omega
  | k + 1, hk, p, hp => by
    rw [bytesOf]
    by_cases hlt : p < 64 * k
    · rw [List.getElem?_append_left (by rw [bytesOf_length h f k (by omega)]; exact hlt)]
      exact bytesOf_get h f k (by omega) p hlt
    · rw [List.getElem?_append_right (by rw [bytesOf_length h f k (by omega)]; omega), bytesOf_length h f k (by omega), h.cur, show p / 64 = k by omega, show p - 64 * k = p % 64 by omega]

theorem data_read {X : DV} (h : Idle X) {f : Nat} {bs : Blk} (hd : Data X.B f bs) (hf : f + (bs.length + 63) / 64 ≤ X.B.length) : (bytesOf X f ((bs.length + 63) / 64)).take bs.length = bs := by
  apply List.ext_getElem?
  intro p
  by_cases hp : p < bs.length
  · rw [List.getElem?_take_of_lt hp, bytesOf_get h f _ hf p (by omega), hd p hp]
  · rw [List.getElem?_eq_none (by rw [List.length_take]; omega), List.getElem?_eq_none (by omega)]

theorem Stands.load {X : DV} {recs : List Blk} {s a : Nat} (h : Stands X recs s a) : loadF X s a (framesB recs).length = some (logV recs s a) := by
  have hi := area_in h.idle.ge h.area
  have hf := h.fits
  unfold loadF
  rw [data_read h.idle h.data (by omega), allF_frames recs h.short, if_neg (by simp)]
  rfl

/-- Some data blocks turn, of which the records' bytes know nothing: what stood stands. -/
theorem Stands.part {X Y : DV} {recs : List Blk} {s a pl : Nat} {cs : List Blk} (h : Stands X recs s a) (hY : Idle Y) (hP : Part X.B Y.B pl cs) (h2 : 2 ≤ pl)
    (hok : ∀ p, p < (framesB recs).length → pl ≤ firstN X.B.length a + p / 64 → firstN X.B.length a + p / 64 < pl + cs.length → (cs[firstN X.B.length a + p / 64 - pl]?.getD [])[p % 64]? = (framesB recs)[p]?) : Stands Y recs s a := by
  have hn := hP.len
  have low : ∀ k, k < 2 → Y.B[k]? = X.B[k]? := fun k hk => by
    rcases hP.each k (by have := h.idle.ge; omega) with e | ⟨e, _⟩
    · exact e
    · omega
  refine ⟨hY, h.s1, h.area, h.short, by rw [hn]; exact h.fits, by rw [low _ (by omega)]; exact h.head, ?_, fun p hp => ?_⟩
  · rw [low _ (by omega), hn]; exact h.other
  · rw [hn]
    have hi := area_in h.idle.ge h.area
    have hf := h.fits
    rcases hP.each (firstN X.B.length a + p / 64) (by omega) with e | ⟨e1, e2, e3⟩
    · rw [e]; exact h.data p hp
    · rw [e3]; exact hok p hp e1 e2

/-- The data and the head are laid: the new ones stand. -/
theorem Stands.full {X Y : DV} {recs recs2 : List Blk} {s a a2 pl : Nat} {cs : List Blk} (h : Stands X recs s a) (hY : Idle Y) (ha : a2 ≤ 1) (hsh : ∀ r ∈ recs2, r.length ≤ 4096) (hfit : (framesB recs2).length ≤ 64 * areaN X.B.length)
    (hF : Full X.B Y.B pl cs ((s + 1) % 2) (headB (s + 1) a2 (framesB recs2).length)) (h2 : 2 ≤ pl)
    (hok : ∀ p, p < (framesB recs2).length → ((if pl ≤ firstN X.B.length a2 + p / 64 ∧ firstN X.B.length a2 + p / 64 < pl + cs.length then cs[firstN X.B.length a2 + p / 64 - pl]? else X.B[firstN X.B.length a2 + p / 64]?).getD [])[p % 64]? = (framesB recs2)[p]?) :
    Stands Y recs2 (s + 1) a2 := by
  have hn := hF.len
  have h6 := h.idle.ge
  have hs1 := h.s1
  refine ⟨hY, by omega, ha, hsh, by rw [hn]; exact hfit, hF.head, Or.inr ⟨a, (framesB recs).length, ?_, by omega, h.area, by rw [hn]; exact h.fits⟩, fun p hp => ?_⟩
  · rw [hF.each _ (by omega) (by omega), if_neg (by omega), show 1 - (s + 1) % 2 = s % 2 by omega, h.head, show s + 1 - 1 = s by omega]
  · rw [hn]
    have hi := area_in h.idle.ge ha
    rw [hF.each _ (by omega) (by omega)]
    exact hok p hp

theorem Blank.first {X Y : DV} (h : Blank X) (hY : Idle Y) (hB : Y.B = X.B.set 1 (headB 1 0 0)) : Stands Y [] 1 0 := by
  have h6 := h.idle.ge
  refine ⟨hY, by omega, by omega, by simp, by simp [framesB_nil], ?_, Or.inl ?_, fun p hp => by simp [framesB_nil] at hp⟩
  · rw [hB, show 1 % 2 = 1 from rfl, List.getElem?_set_self (by omega)]; rfl
  · rw [hB, show 1 - 1 % 2 = 0 from rfl, List.getElem?_set_ne (by omega)]; exact h.x

theorem drop_data (fs : Blk) (p k : Nat) : ((fs.drop (k * 64))[p]?) = fs[64 * k + p]? := by rw [List.getElem?_drop, Nat.mul_comm]

/-- A sync of records that fit: whole, or what stood before, wherever it is cut off. -/
theorem sync_spec {X : DV} {recs wait : List Blk} {s a : Nat} (h : Stands X recs s a) (hw : ∀ r ∈ wait, r.length ≤ 4096) (hfit : (framesB (recs ++ wait)).length ≤ 64 * areaN X.B.length) :
    ∀ R, layF X (firstN X.B.length a + (framesB recs).length / 64) ((framesB recs).drop ((framesB recs).length / 64 * 64) ++ framesB wait) (s + 1) a (framesB (recs ++ wait)).length = R →
    Goes X R.2 ∧ R.2.B.length = X.B.length ∧ ((R.1 = 0 ∧ Stands R.2 (recs ++ wait) (s + 1) a) ∨
      (R.1 = 15 ∧ X.fuse ≠ -1 ∧ R.2.down = true ∧ (∀ j, (R.2.L j).length ≤ 1) ∧ ∀ keep, Stands (R.2.crash keep) recs s a ∨ Stands (R.2.crash keep) (recs ++ wait) (s + 1) a)) := by
  rintro R rfl
  obtain ⟨u, hu⟩ : ∃ u, (framesB recs).length = u := ⟨_, rfl⟩
  obtain ⟨b, hb⟩ : ∃ b, (framesB recs).drop ((framesB recs).length / 64 * 64) ++ framesB wait = b := ⟨_, rfl⟩
  have hfa : framesB (recs ++ wait) = framesB recs ++ framesB wait := framesB_append _ _
  have hlen : b.length + u / 64 * 64 = (framesB (recs ++ wait)).length := by
    rw [← hb, hfa, List.length_append, List.length_append, List.length_drop, hu]; omega
  have hbget : ∀ p, b[p]? = (framesB (recs ++ wait))[64 * (u / 64) + p]? := fun p => by
    rw [← hb, hu, hfa]
    by_cases hp : p < u - u / 64 * 64
    · rw [List.getElem?_append_left (by rw [List.length_drop, hu]; exact hp), drop_data, List.getElem?_append_left (by rw [hu]; omega)]
    · rw [List.getElem?_append_right (by rw [List.length_drop, hu]; omega), List.getElem?_append_right (by rw [hu]; omega), List.length_drop, hu]
      congr 1; omega
  have hi := area_in h.idle.ge h.area
  rw [hu, show (framesB recs).drop (u / 64 * 64) ++ framesB wait = b by rw [← hu]; exact hb]
  obtain ⟨pl, hpl⟩ : ∃ pl, firstN X.B.length a + u / 64 = pl := ⟨_, rfl⟩
  rw [hpl]
  have hcl := chunks_length b
  have hin : pl + (chunks b).length ≤ X.B.length := by rw [hcl]; omega
  obtain ⟨g, hn, hr⟩ := layF_spec h.idle (pl := pl) (by omega) b hin (s + 1) a (framesB (recs ++ wait)).length
  -- the byte of a chunk
  have hch : ∀ p, p < (framesB (recs ++ wait)).length → pl ≤ firstN X.B.length a + p / 64 → firstN X.B.length a + p / 64 < pl + (chunks b).length ∧ ((chunks b)[firstN X.B.length a + p / 64 - pl]?.getD [])[p % 64]? = (framesB (recs ++ wait))[p]? := by
    intro p hp h1
    have h3 : firstN X.B.length a + p / 64 - pl = p / 64 - u / 64 := by omega
    have h4 : p / 64 - u / 64 < (b.length + 63) / 64 := by omega
    refine ⟨by rw [hcl]; omega, ?_⟩
    rw [h3, chunks_get b h4]
    simp only [Option.getD_some]
    rw [chunkAt_get b _ _ (by omega) (by omega), hbget]
    congr 1; omega
  have hokP : ∀ p, p < (framesB recs).length → pl ≤ firstN X.B.length a + p / 64 → firstN X.B.length a + p / 64 < pl + (chunks b).length → ((chunks b)[firstN X.B.length a + p / 64 - pl]?.getD [])[p % 64]? = (framesB recs)[p]? := by
    intro p hp h1 _
    have hp2 : p < (framesB (recs ++ wait)).length := by rw [hfa, List.length_append]; omega
    rw [(hch p hp2 h1).2, hfa, List.getElem?_append_left hp]
  have hokF : ∀ p, p < (framesB (recs ++ wait)).length → ((if pl ≤ firstN X.B.length a + p / 64 ∧ firstN X.B.length a + p / 64 < pl + (chunks b).length then (chunks b)[firstN X.B.length a + p / 64 - pl]? else X.B[firstN X.B.length a + p / 64]?).getD [])[p % 64]? = (framesB (recs ++ wait))[p]? := by
    intro p hp
    by_cases h1 : pl ≤ firstN X.B.length a + p / 64
    · obtain ⟨h2, h3⟩ := hch p hp h1
      rw [if_pos ⟨h1, h2⟩]; exact h3
    · rw [if_neg (fun h => h1 h.1)]
      have hpu : p < (framesB recs).length := by omega
      rw [h.data p hpu, hfa, List.getElem?_append_left hpu]
  have hsh : ∀ r ∈ recs ++ wait, r.length ≤ 4096 := fun r hr => by
    rcases List.mem_append.1 hr with hr | hr
    · exact h.short r hr
    · exact hw r hr
  refine ⟨g, hn, ?_⟩
  rcases hr with ⟨e1, hI, hF⟩ | ⟨e1, f1, d1, q1, hk⟩
  · exact Or.inl ⟨e1, h.full hI h.area hsh hfit hF (by omega) hokF⟩
  · refine Or.inr ⟨e1, f1, d1, q1, fun keep => ?_⟩
    obtain ⟨hI, hc⟩ := hk keep
    rcases hc with hP | hF
    · exact Or.inl (h.part hI hP (by omega) hokP)
    · exact Or.inr (h.full hI h.area hsh hfit hF (by omega) hokF)

theorem reset_spec {X : DV} {recs recs2 : List Blk} {s a : Nat} (h : Stands X recs s a) (hw : ∀ r ∈ recs2, r.length ≤ 4096) (hfit : (framesB recs2).length ≤ 64 * areaN X.B.length) :
    ∀ R, layF X (firstN X.B.length (1 - a)) (framesB recs2) (s + 1) (1 - a) (framesB recs2).length = R →
    Goes X R.2 ∧ R.2.B.length = X.B.length ∧ ((R.1 = 0 ∧ Stands R.2 recs2 (s + 1) (1 - a)) ∨
      (R.1 = 15 ∧ X.fuse ≠ -1 ∧ R.2.down = true ∧ (∀ j, (R.2.L j).length ≤ 1) ∧ ∀ keep, Stands (R.2.crash keep) recs s a ∨ Stands (R.2.crash keep) recs2 (s + 1) (1 - a))) := by
  rintro R rfl
  have ha := h.area
  have hi := area_in h.idle.ge ha
  have hi2 := area_in (a := 1 - a) h.idle.ge (by omega)
  have hfo := h.fits
  have hap := area_apart (n := X.B.length)
  obtain ⟨b, hb⟩ : ∃ b, framesB recs2 = b := ⟨_, rfl⟩
  rw [hb] at hfit ⊢
  have hcl := chunks_length b
  have hin : firstN X.B.length (1 - a) + (chunks b).length ≤ X.B.length := by rw [hcl]; omega
  obtain ⟨g, hn, hr⟩ := layF_spec h.idle (pl := firstN X.B.length (1 - a)) hi2.2 b hin (s + 1) (1 - a) b.length
  have hokP : ∀ p, p < (framesB recs).length → firstN X.B.length (1 - a) ≤ firstN X.B.length a + p / 64 → firstN X.B.length a + p / 64 < firstN X.B.length (1 - a) + (chunks b).length → ((chunks b)[firstN X.B.length a + p / 64 - firstN X.B.length (1 - a)]?.getD [])[p % 64]? = (framesB recs)[p]? := by
    intro p hp h1 h2
    exfalso
    rw [hcl] at h2
    have : a = 0 ∨ a = 1 := by omega
    rcases this with rfl | rfl
    · rw [show 1 - 0 = 1 from rfl] at *; omega
    · rw [show 1 - 1 = 0 from rfl] at *; omega
  have hokF : ∀ p, p < (framesB recs2).length → ((if firstN X.B.length (1 - a) ≤ firstN X.B.length (1 - a) + p / 64 ∧ firstN X.B.length (1 - a) + p / 64 < firstN X.B.length (1 - a) + (chunks b).length then (chunks b)[firstN X.B.length (1 - a) + p / 64 - firstN X.B.length (1 - a)]? else X.B[firstN X.B.length (1 - a) + p / 64]?).getD [])[p % 64]? = (framesB recs2)[p]? := by
    rw [hb]
    intro p hp
    rw [if_pos ⟨by omega, by rw [hcl]; omega⟩, show firstN X.B.length (1 - a) + p / 64 - firstN X.B.length (1 - a) = p / 64 by omega, chunks_get b (by omega)]
    simp only [Option.getD_some]
    rw [chunkAt_get b _ _ (by omega) (by omega)]
    congr 1; omega
  refine ⟨g, hn, ?_⟩
  rcases hr with ⟨e1, hI, hF⟩ | ⟨e1, f1, d1, q1, hk⟩
  · exact Or.inl ⟨e1, h.full hI (by omega) hw (by rw [hb]; exact hfit) (by rw [hb]; exact hF) hi2.2 hokF⟩
  · refine Or.inr ⟨e1, f1, d1, q1, fun keep => ?_⟩
    obtain ⟨hI, hc⟩ := hk keep
    rcases hc with hP | hF
    · exact Or.inl (h.part hI hP hi2.2 hokP)
    · exact Or.inr (h.full hI (by omega) hw (by rw [hb]; exact hfit) (by rw [hb]; exact hF) hi2.2 hokF)

end Go.Proofs.YtbjagmlbamjdbaaGreat.wals
end
