/-
  GENERAL LEMMAS OF MY OWN: an own slice of records, behind the library's sort.
-/
import Derived.Test.YtcfgcllphfooaaaPk0WalNobody
import Derived.Test.YtcfgcllphfooaaaPk3WalNobody
import Derived.Shelf.GgSortFunc.InsertionK
import Derived.Shelf.SlSortCmp.WholeK
import Derived.Shelf.SlSortCmp.NoneTotal

section
namespace Go.My
open Go.RowKit Go.Maps Go.ChangeMaps Go.Proofs Go.Sort

variable {α : Type} [Inhabited α]

theorem flatK_list (enc : α → List Value) (k : Nat) (hk : ∀ x, (enc x).length = k) (d : List α) : (flatK enc k d.toArray).toList = (d.map enc).flatten := by
  have hl : (d.map enc).flatten.length = d.length * k := by
    rw [flat_length k _ (fun r hr => by obtain ⟨x, _, rfl⟩ := List.mem_map.1 hr; exact hk x), List.length_map]
  apply List.ext_getElem?
  intro t
  by_cases h : t < d.length * k
  · have hk0 : 0 < k := by
      rcases Nat.eq_zero_or_pos k with h0 | h0
      · subst h0; omega
      · exact h0
    have h1 : t / k < d.length := Nat.div_lt_of_lt_mul (by rw [Nat.mul_comm]; exact h)
    have h2 : t % k < k := Nat.mod_lt _ hk0
    have h3 := flat_get k (d.map enc) (fun r hr => by obtain ⟨x, _, rfl⟩ := List.mem_map.1 hr; exact hk x) (t / k) (t % k) h2
    rw [Nat.mul_comm, Nat.div_add_mod] at h3
    rw [h3]
    have h4 : t % k < (enc d[t / k]).length := by rw [hk]; exact h2
    simp [flatK, h, h1, h4]
  · have e1 : (flatK enc k d.toArray).toList.length ≤ t := by simp; omega
    have e2 : (d.map enc).flatten.length ≤ t := by rw [hl]; omega
    rw [List.getElem?_eq_none e1, List.getElem?_eq_none e2]

theorem take_putCells (F : Array Value) (cur : Array Value) (h : F.size ≤ cur.size) : (putCells id 0 F cur).toList.take F.size = F.toList := by
  apply List.ext_getElem?
  intro j
  by_cases hj : j < F.size
  · rw [List.getElem?_take_of_lt hj, Array.getElem?_toList]
    simp [putCells, hj, show j < cur.size by omega]
  · rw [List.getElem?_take_eq_none (by omega), List.getElem?_eq_none (by simp; omega)]

theorem chg_sorted (enc : α → List Value) (k : Nat) (w : World) (g n : Nat) (d : Array α) (os : Array Obj) : Chg (· = g) w (sortWorldK enc k w g 0 n d os) := by
  refine ⟨rfl, rfl, rfl, ?_, fun i hi hne => ?_⟩
  · simp [sortWorldK, putRowK, putRow, mapBlock, Sort.ahead]
  · unfold sortWorldK
    rw [heap_grow_old _ _ (by simpa [putRowK, putRow, mapBlock, Sort.ahead] using hi)]
    have : g ≠ i := fun e => hne (by rw [e])
    simp [putRowK, putRow, mapBlock, Sort.ahead, Array.getElem?_modify, this]

theorem heap_sortedK (enc : α → List Value) (k : Nat) {w : World} {g n : Nat} {os : Array Obj} {cur : Array Value} {e : TypeId} {fr : Nat × Nat} (d : Array α) (hb : w.heap[g]? = some (.cells cur e fr)) :
    (sortWorldK enc k w g 0 n d os).heap[g]? = some (.cells (putCells id 0 (flatK enc k d) cur) e fr) := by
  have hg : g < w.heap.size := (Array.getElem?_eq_some_iff.1 hb).1
  unfold sortWorldK
  rw [heap_grow_old _ _ (by simpa [putRowK, putRow, mapBlock, Sort.ahead] using hg)]
  simp [putRowK, putRow, mapBlock, Sort.ahead, Array.getElem?_modify, hb, onCells]

theorem recs_sorted (enc : α → List Value) (k : Nat) (hk : ∀ x, (enc x).length = k) {w : World} {base : Nat} {e : TypeId} {g cap : Nat} {d d' : List α} (h : OwnRecs w base e k (.slice (some ⟨g, 0, none⟩) d.length cap) (d.map enc))
    (hl : d'.length = d.length) (n : Nat) (os : Array Obj) : OwnRecs (sortWorldK enc k w g 0 n d'.toArray os) base e k (.slice (some ⟨g, 0, none⟩) d'.length cap) (d'.map enc) := by
  have hf : (d'.map enc).flatten.length = d'.length * k := by
    rw [flat_length k _ (fun r hr => by obtain ⟨x, _, rfl⟩ := List.mem_map.1 hr; exact hk x), List.length_map]
  refine ⟨⟨by rw [hf, List.length_map], ?_⟩, fun r hr => by obtain ⟨x, _, rfl⟩ := List.mem_map.1 hr; exact hk x⟩
  rcases h.row.2 with ⟨h1, -⟩ | ⟨g', cap', cur, h1, h2, h3, h4, h5, h6, h7⟩
  · cases h1
  · simp only [Value.slice.injEq, Option.some.injEq, Addr.mk.injEq, List.length_map] at h1 h4
    obtain ⟨⟨rfl, -⟩, -, rfl⟩ := h1
    have hs : (flatK enc k d'.toArray).size = d'.length * k := by simp
    refine Or.inr ⟨g, cap, putCells id 0 (flatK enc k d'.toArray) cur, by simp, h2, heap_sortedK enc k d'.toArray h3, by rw [List.length_map, hl]; exact h4, h5, by simpa [putCells] using h6, ?_⟩
    have hc : (flatK enc k d'.toArray).size ≤ cur.size := by rw [hs, h6, hl]; exact Nat.mul_le_mul_right k h4
    have := take_putCells (flatK enc k d'.toArray) cur hc
    rw [hs, flatK_list enc k hk] at this
    rw [List.length_map]; exact this

theorem recs_holds (enc : α → List Value) (k : Nat) (hk : ∀ x, (enc x).length = k) {w : World} {base : Nat} {e : TypeId} {g cap : Nat} {d : List α} (h : OwnRecs w base e k (.slice (some ⟨g, 0, none⟩) d.length cap) (d.map enc)) : HoldsK enc k w g 0 d.toArray := by
  intro j hj
  have hj' : j < d.length * k := by simpa using hj
  have hk0 : 0 < k := by
    rcases Nat.eq_zero_or_pos k with h0 | h0
    · subst h0; omega
    · exact h0
  have h1 : j / k < d.length := Nat.div_lt_of_lt_mul (by rw [Nat.mul_comm]; exact hj')
  have h2 : j % k < k := Nat.mod_lt _ hk0
  obtain ⟨g', cap', e1, _, _, _, hc, hf⟩ := h.cell (k := j / k) (by simpa using h1)
  simp only [Value.slice.injEq, Option.some.injEq, Addr.mk.injEq] at e1
  obtain ⟨⟨rfl, -⟩, -⟩ := e1
  have h4 : j % k < (enc d[j / k]).length := by rw [hk]; exact h2
  have h3 := hc (j % k) ((enc d[j / k])[j % k]) (by simp [h4])
  rw [Nat.mul_comm, Nat.div_add_mod] at h3
  rw [Nat.zero_add]
  refine ⟨?_, hf j⟩
  rw [h3, get_flatK enc k _ j (by simpa using hj')]
  simp [h1, h4]

end Go.My
end

/-
  disk: the library sort laid at this program (the text of the kit command, by my program laytpl.py).
-/
section
namespace Go.Proofs.Ytcfgcllphfooaaa.disks
open Go.Shelf

def sortW_ren : Go.Shelf.Ren := ⟨fun | 6 => 62 | 15 => 76 | 14 => 75 | 28 => 94 | 29 => 95 | 20 => 86 | 21 => 87 | 22 => 88 | 23 => 89 | 24 => 90 | 25 => 91 | 26 => 92 | 27 => 93 | 46 => 98 | 47 => 99 | 48 => 100 | 49 => 101 | 50 => 102 | 57 => 103 | n => n, fun | 22 => 96 | 24 => 99 | 25 => 120 | 3 => 3 | 39 => 121 | 0 => 0 | 53 => 123 | 55 => 102 | 4 => 4 | 46 => 151 | 45 => 150 | 50 => 82 | 5 => 5 | 9 => 9 | 66 => 160 | 70 => 164 | 76 => 166 | 77 => 167 | n => n, fun | n => n⟩

theorem sortW : Go.Proofs.SlLaysF0.n6 Try.prog sortW_ren := {
  mixed := by kernel_rfl,
  f6 := ⟨Try.f62.name, by decide, Try.func62.trans (congrArg some (by kernel_rfl))⟩,
  f14 := ⟨Try.f75.name, by decide, Try.func75.trans (congrArg some (by kernel_rfl))⟩,
  f15 := Try.func76.trans (congrArg some (by kernel_rfl)),
  f20 := ⟨Try.f86.name, by decide, Try.func86.trans (congrArg some (by kernel_rfl))⟩,
  f21 := ⟨Try.f87.name, by decide, Try.func87.trans (congrArg some (by kernel_rfl))⟩,
  f22 := ⟨Try.f88.name, by decide, Try.func88.trans (congrArg some (by kernel_rfl))⟩,
  f23 := ⟨Try.f89.name, by decide, Try.func89.trans (congrArg some (by kernel_rfl))⟩,
  f24 := ⟨Try.f90.name, by decide, Try.func90.trans (congrArg some (by kernel_rfl))⟩,
  f25 := ⟨Try.f91.name, by decide, Try.func91.trans (congrArg some (by kernel_rfl))⟩,
  f26 := ⟨Try.f92.name, by decide, Try.func92.trans (congrArg some (by kernel_rfl))⟩,
  f27 := ⟨Try.f93.name, by decide, Try.func93.trans (congrArg some (by kernel_rfl))⟩,
  f28 := Try.func94.trans (congrArg some (by kernel_rfl)),
  f29 := Try.func95.trans (congrArg some (by kernel_rfl)),
  f46 := ⟨Try.f98.name, by decide, Try.func98.trans (congrArg some (by kernel_rfl))⟩,
  f47 := Try.func99.trans (congrArg some (by kernel_rfl)),
  f48 := Try.func100.trans (congrArg some (by kernel_rfl)),
  f49 := ⟨Try.f101.name, by decide, Try.func101.trans (congrArg some (by kernel_rfl))⟩,
  f50 := ⟨Try.f102.name, by decide, Try.func102.trans (congrArg some (by kernel_rfl))⟩,
  f57 := ⟨Try.f103.name, by decide, Try.func103.trans (congrArg some (by kernel_rfl))⟩,
  t0 := Try.underlying0,
  a0 := Try.isAgg0,
  z0 := Try.sizeOf0,
  v0 := Try.zeroValue0,
  t3 := Try.underlying3,
  a3 := Try.isAgg3,
  z3 := Try.sizeOf3,
  v3 := Try.zeroValue3,
  t4 := Try.underlying4,
  a4 := Try.isAgg4,
  z4 := Try.sizeOf4,
  v4 := Try.zeroValue4,
  t5 := Try.underlying5,
  a5 := Try.isAgg5,
  z5 := Try.sizeOf5,
  v5 := Try.zeroValue5,
  t9 := Try.underlying9,
  a9 := Try.isAgg9,
  z9 := Try.sizeOf9,
  v9 := Try.zeroValue9,
  t22 := Try.underlying96,
  a22 := Try.isAgg96,
  z22 := Try.sizeOf96,
  v22 := Try.zeroValue96,
  t25 := Try.underlying120,
  a25 := Try.isAgg120,
  z25 := Try.sizeOf120,
  v25 := Try.zeroValue120,
  t39 := Try.underlying121,
  a39 := Try.isAgg121,
  z39 := Try.sizeOf121,
  v39 := Try.zeroValue121,
  t45 := Try.underlying150,
  a45 := Try.isAgg150,
  z45 := Try.sizeOf150,
  v45 := Try.zeroValue150,
  t46 := Try.underlying151,
  a46 := Try.isAgg151,
  z46 := Try.sizeOf151,
  v46 := Try.zeroValue151,
  t50 := Try.underlying82,
  a50 := Try.isAgg82,
  z50 := Try.sizeOf82,
  v50 := Try.zeroValue82,
  t53 := Try.underlying123,
  a53 := Try.isAgg123,
  z53 := Try.sizeOf123,
  v53 := Try.zeroValue123,
  t55 := Try.underlying102,
  a55 := Try.isAgg102,
  z55 := Try.sizeOf102,
  v55 := Try.zeroValue102,
  t66 := Try.underlying160,
  a66 := Try.isAgg160,
  z66 := Try.sizeOf160,
  v66 := Try.zeroValue160,
  t70 := Try.underlying164,
  a70 := Try.isAgg164,
  z70 := Try.sizeOf164,
  v70 := Try.zeroValue164,
  t76 := Try.underlying166,
  a76 := Try.isAgg166,
  z76 := Try.sizeOf166,
  v76 := Try.zeroValue166,
  t77 := Try.underlying167,
  a77 := Try.isAgg167,
  z77 := Try.sizeOf167,
  v77 := Try.zeroValue167 }

end Go.Proofs.Ytcfgcllphfooaaa.disks
end

/-
  disk: the library's sort at the list of what waits.
-/
section
namespace Go.Proofs.Ytcfgcllphfooaaa.disks
open Go.RowKit Go.Maps Go.My Go.ChangeMaps Go.Shelf Go.Lib Go.Sort
set_option maxRecDepth 100000

/-- A Wait's two cells. -/
def encW (x : Nat × Nat) : List Value := [.int .i64 ((x.1 % 4096 : Nat) : Int), .int .i64 (x.2 : Int)]

def cfW (x y : Nat × Nat) : Int := ((x.1 % 4096 : Nat) : Int) - ((y.1 % 4096 : Nat) : Int)

theorem ltW (x y : Nat × Nat) : ltOf cfW x y = decide (x.1 % 4096 < y.1 % 4096) := by
  unfold ltOf cfW
  by_cases h : x.1 % 4096 < y.1 % 4096
  · simp only [h, decide_true, decide_eq_true_eq]; omega
  · simp only [h, decide_false, decide_eq_false_iff_not]; omega

theorem swoW : SWO (ltOf cfW) where
  irrefl x := by rw [ltW]; simp
  trans x y z h1 h2 := by rw [ltW] at *; simp at *; omega
  ntrans x y z h1 h2 := by rw [ltW] at *; simp at *; omega

set_option maxHeartbeats 1000000 in
theorem closure_any (x y : Nat × Nat) (W : World) : Calls Try.prog 63 #[.agg (encW x).toArray, .agg (encW y).toArray] W fun e w' => e = .returned (.int .i64 (cfW x y)) ∧ ∃ q os', w' = Go.Sort.grow (W.drewN q) os' := by
  unfold encW cfW
  obtain ⟨a, ha⟩ : ∃ a : Int, ((x.1 % 4096 : Nat) : Int) = a := ⟨_, rfl⟩
  obtain ⟨b, hb⟩ : ∃ b : Int, ((y.1 % 4096 : Nat) : Int) = b := ⟨_, rfl⟩
  have ha1 : 0 ≤ a ∧ a < 4096 := by omega
  have hb1 : 0 ≤ b ∧ b < 4096 := by omega
  rw [ha, hb]
  clear ha hb
  have hw : wrap64 (a - b) = a - b := IntWalk.wrap64_in _ (by omega)
  go_enter Try.func63, Try.ntmps63
  go_wp2
  go_ret
  refine ⟨?_, 0, _, by rw [alloc_eq_grow, alloc_eq_grow, grow_grow]; rfl⟩
  simp [hw]

theorem cmpW (blk off size : Nat) (w : World) : CmpLays Try.prog 63 #[] encW 2 cfW blk off size w := fun _ _ _ _ x y => closure_any x y _

theorem size_wait : ∀ w, (Go.sizeOf 99).run Try.prog w = .ok 2 w := Try.sizeOf99
theorem agg_wait : ∀ w, (isAgg 99).run Try.prog w = .ok true w := Try.isAgg99

theorem sort_any (w : World) {base : Nat} {v : Value} {ws : List (Nat × Nat)} (h : OwnRecs w base 99 2 v (ws.map encW)) (hn : ws.length ≤ 4096) :
    Calls Try.prog 62 #[v, .func (.func 63) #[] #[]] w fun e w' => e = .returned (.tuple #[]) ∧
      ∃ ws' : List (Nat × Nat), ws'.Perm ws ∧ ws'.Pairwise (fun a b => a.1 % 4096 ≤ b.1 % 4096) ∧ OwnRecs w' base 99 2 v (ws'.map encW) ∧ Chg (fun j => some j = v.ownBlock) w w' := by
  obtain ⟨oa, cap, rfl, -⟩ := h.slice
  rw [List.length_map] at *
  rcases ws with _ | ⟨x0, ws0⟩
  · refine (AnyF.slices_SortFunc_none (P := Try.prog) (ρ := sortW_ren) { sortW with } oa cap (.func (.func 63) #[] #[]) w).mono ?_
    rintro e w' ⟨rfl, rfl⟩
    exact ⟨rfl, [], List.Perm.refl _, List.Pairwise.nil, h, Chg.refl _ _⟩
  · obtain ⟨ws, hws⟩ : ∃ ws, ws = x0 :: ws0 := ⟨_, rfl⟩
    rw [← hws] at h hn ⊢
    have hpos : 0 < (ws.map encW).length := by rw [hws]; simp
    obtain ⟨g, cap', e1, -, -, hg, -, -⟩ := h.cell hpos
    simp only [Value.slice.injEq] at e1
    obtain ⟨rfl, -, -⟩ := e1
    have eg : ∀ args w, (callFunc 63 args).run Try.prog w = .ok (.enter 63 args) w := enters_of Try.func63 (by kernel_rfl) rfl
    have hcon := AnyQ.slices_SortFunc (P := Try.prog) (ρ := sortW_ren) sortW 2 agg_wait size_wait encW (fun _ => rfl) (fun x v hv => by simp [encW] at hv; rcases hv with rfl | rfl <;> rfl) cfW swoW 63 #[] g 0 cap ws.toArray w eg (cmpW g 0 _ w)
      (recs_holds encW 2 (fun _ => rfl) h) hg (by rw [List.size_toArray]; omega)
    rw [List.size_toArray] at hcon
    refine hcon.mono ?_
    rintro e w' ⟨rfl, d', n, os, hp, hs, rfl⟩
    obtain ⟨h1, -, h2⟩ := hp
    have h1' : d'.size = ws.length := by simpa using h1
    have e2 : (d'.extract 0 ws.length).toList = d'.toList := by rw [← h1']; simp
    have e3 : (ws.toArray.extract 0 ws.length).toList = ws := by simp
    rw [e2, e3] at h2
    have hl : d'.toList.length = ws.length := h2.length_eq
    refine ⟨rfl, d'.toList, h2, ?_, ?_, (chg_sorted encW 2 w g n d' os).mono (fun j _ e => by rw [e]; rfl)⟩
    · rw [List.pairwise_iff_getElem]
      intro i j hi hj hij
      have := hs i j (Nat.zero_le _) hij (by rw [← h1']; simpa using hj)
      rw [ltW, getElem!_pos d' j (by simpa using hj), getElem!_pos d' i (by simpa using hi)] at this
      simpa using this
    · have := recs_sorted encW 2 (fun _ => rfl) (d' := d'.toList) h hl n os
      rw [hl] at this
      simpa using this

end Go.Proofs.Ytcfgcllphfooaaa.disks
end

/-
  disk: Waiting, the walk.
-/
section
namespace Go.Proofs.Ytcfgcllphfooaaa.disks
open Go.RowKit Go.Maps Go.My Go.ChangeMaps
set_option maxRecDepth 100000

variable {w w' : World} {d q : Nat} {F F' : Nat → Prop} {X X' : DV} {bv : Value} {m : List (Int × (Value × List Blk))}

theorem info_wait : (Try.prog.info? 99).map (fun i => (i.zero, i.size, i.bytes)) = some (some (.agg #[.int .i64 0, .int .i64 0]), 2, 16) := by kernel_rfl

/-- What waits, by the order of the blocks. -/
def waitsOf (X : DV) : List (Nat × Nat) := ((List.range X.B.length).filter (fun i => !(X.L i).isEmpty)).map (fun i => (i, (X.L i).length))
/-- What waits, of the blocks of a list. -/
def waitsIn (X : DV) (done : List Int) : List (Nat × Nat) := done.reverse.map (fun i => (i.toNat, (X.L i.toNat).length))

theorem waitsIn_cons (X : DV) (k : Nat) (done : List Int) : waitsIn X ((k : Int) :: done) = waitsIn X done ++ [(k, (X.L k).length)] := by
  simp [waitsIn]

theorem waits_pairwise (X : DV) : (waitsOf X).Pairwise (fun a b => a.1 < b.1) := by
  unfold waitsOf
  rw [List.pairwise_map]
  exact List.Pairwise.filter _ List.pairwise_lt_range

theorem DiskIs.done_perm (h : DiskIs w d F X bv q m) {done : List Int} (hn : done.Nodup) (hin : ∀ i ∈ done, ∃ p ∈ m, p.1 = i) (hall : ∀ p ∈ m, p.1 ∈ done) : (waitsIn X done).Perm (waitsOf X) := by
  have h0 : ∀ i ∈ done, 0 ≤ i := by
    intro i hi
    obtain ⟨p, hp, rfl⟩ := hin i hi
    exact (h.lists p hp).2.2.1
  have h1 : waitsIn X done = (done.reverse.map Int.toNat).map (fun i => (i, (X.L i).length)) := by simp [waitsIn]
  rw [h1, waitsOf]
  apply List.Perm.map
  rw [List.perm_iff_count]
  intro a
  have hnd : (done.reverse.map Int.toNat).Nodup := by
    unfold List.Nodup
    rw [List.pairwise_map]
    have hr : done.reverse.Pairwise (· ≠ ·) := by rw [List.pairwise_reverse]; exact hn.imp (fun h e => h e.symm)
    refine (List.Pairwise.and_mem.1 hr).imp ?_
    rintro a b ⟨ha, hb, hab⟩ e
    have := h0 a (List.mem_reverse.1 ha)
    have := h0 b (List.mem_reverse.1 hb)
    exact hab (by omega)
  have hnf : ((List.range X.B.length).filter (fun i => !(X.L i).isEmpty)).Nodup := List.Pairwise.filter _ List.nodup_range
  rw [hnd.count, hnf.count]
  have : a ∈ done.reverse.map Int.toNat ↔ a ∈ (List.range X.B.length).filter (fun i => !(X.L i).isEmpty) := by
    simp only [List.mem_map, List.mem_reverse, List.mem_filter, List.mem_range]
    constructor
    · rintro ⟨i, hi, rfl⟩
      obtain ⟨p, hp, rfl⟩ := hin i hi
      have hl := h.lists p hp
      refine ⟨by omega, ?_⟩
      obtain ⟨j, hj⟩ := List.getElem?_of_mem hp
      rw [h.waits, Int.toNat_of_nonneg hl.2.2.1, mget_some_of m h.wmap.nodup hj]
      have := hl.2.1
      simpa using this
    · rintro ⟨_, ha⟩
      rw [h.waits] at ha
      cases hm : mget m (a : Int) with
      | none => rw [hm] at ha; simp at ha
      | some v => exact ⟨(a : Int), hall _ (mem_mget hm), by simp⟩
  simp only [this]

theorem sorted_is {X : DV} {ws : List (Nat × Nat)} (hB : X.B.length ≤ 4096) (hp : ws.Perm (waitsOf X)) (hs : ws.Pairwise (fun a b => a.1 % 4096 ≤ b.1 % 4096)) : ws = waitsOf X := by
  have hlt : ∀ a ∈ waitsOf X, a.1 < 4096 ∧ a.2 = (X.L a.1).length := by
    intro a ha
    simp only [waitsOf, List.mem_map, List.mem_filter, List.mem_range] at ha
    obtain ⟨i, hi, rfl⟩ := ha
    exact ⟨by omega, rfl⟩
  refine List.Perm.eq_of_pairwise (le := fun a b => a.1 % 4096 ≤ b.1 % 4096) ?_ hs ?_ hp
  · intro a b ha hb h1 h2
    have ha' := hlt a (hp.mem_iff.1 ha)
    have hb' := hlt b hb
    have : a.1 = b.1 := by
      rw [Nat.mod_eq_of_lt ha'.1, Nat.mod_eq_of_lt hb'.1] at h1 h2
      omega
    exact Prod.ext this (by rw [ha'.2, hb'.2, this])
  · refine (List.Pairwise.and_mem.1 (waits_pairwise X)).imp ?_
    rintro a b ⟨ha, hb, h⟩
    rw [Nat.mod_eq_of_lt (hlt a ha).1, Nat.mod_eq_of_lt (hlt b hb).1]
    omega

set_option maxHeartbeats 4000000 in
theorem waiting_any (w : World) (h : DiskIs w d F X bv q m) :
    Calls Try.prog 45 #[.pointer (some ⟨d, 0, none⟩)] w fun e w' => ∃ v, e = .returned v ∧ OwnRecs w' w.heap.size 99 2 v ((waitsOf X).map encW) ∧ Chg (fun _ => False) w w' := by
  obtain ⟨i0, hI0⟩ := info_parts info_wait
  have HI0 := Lib.hid hI0
  clear hI0
  have c1 : w.cell? ⟨d, 1, none⟩ = some (.map (some q)) := cell_of_block h.head rfl
  have H := Lib.hid h
  clear h
  go_enter Try.func45, Try.ntmps45
  go_wp2_with (first
    | (go_at_call 38; refine (none_no _ ⟨_, _, _, H.out⟩).mono ?_; rintro e w' ⟨rfl, rfl⟩)
    | (at_range; refine wpList_rangeM H.out.wmap rfl _ 45 44 rfl Try.underlying45 rfl ?_; intro w2 cnt hr2 hc2 hs2))
  go_frame
  go_loopw [3] (fun u wr => ∃ done cnt, RngIs iKey Prod.fst wr q w.heap.size m done cnt ∧ OwnRecs wr w.heap.size 99 2 u ((waitsIn X done).map encW) ∧ Chg (fun _ => False) w wr ∧ done.Nodup ∧ (∀ i ∈ done, ∃ p ∈ m, p.1 = i)) (fun _ wr => wr.rangeLeft q w.heap.size)
  · exact ⟨[], cnt, hr2, OwnRecs.nil _ _ _ _, hc2, List.nodup_nil, by simp⟩
  clear hr2 hc2 hs2
  obtain ⟨done, cnt, hr, ho, hc, hnd, hin⟩ := hrel
  have HR := Lib.hid hr
  have HO := Lib.hid ho
  have HC := Lib.hid hc
  have HN := Lib.hid hnd
  have HIn := Lib.hid hin
  have hlen : done.length ≤ 4096 := by
    have h1 : (done.map id).Nodup := by simpa using hnd
    have h2 : done ⊆ (List.range 4096).map (fun i : Nat => (i : Int)) := by
      intro i hi
      obtain ⟨p, hp, rfl⟩ := hin i hi
      have := H.out.lists p hp
      have := H.out.size
      exact List.mem_map.2 ⟨p.1.toNat, by rw [List.mem_range]; omega, by omega⟩
    have := hnd.length_le_of_subset h2
    simpa using this
  clear hr ho hc hnd hin
  rcases HR.out.next 0 with ⟨hall, hrun⟩ | ⟨k, v, w', cnt', hm, hn, hrun, hr', hlt, hcr, hsz, hen⟩
  · have hpm := H.out.done_perm HN.out HIn.out hall
    have hlw : (waitsIn X done).length ≤ 4096 := by simpa [waitsIn] using hlen
    have HP := Lib.hid hpm
    clear hpm hall
    go_wp2_with (first
      | (go_at_call 62; refine (sort_any _ HO.out hlw).mono ?_; rintro e w' ⟨rfl, ws', hp', hs', ho', hc'⟩))
    go_ret
    rw [← sorted_is H.out.size (hp'.trans HP.out) hs']
    exact ⟨_, rfl, ho', HC.out.new hc' (fun i e => (HO.out.lt e.symm).1)⟩
  · obtain ⟨v, L⟩ := v
    have hen' : (Instr.entry (.pointer (some ⟨w.heap.size, 0, none⟩))).run Try.prog w' = .ok (.tuple #[.int .i64 k, v]) w' := hen
    have hrun' : (Instr.next (.pointer (some ⟨w.heap.size, 0, none⟩)) false 0).run Try.prog wr = .ok (.tuple #[.bool true, .int .i64 k, v]) w' := hrun
    have hI1 := H.out.kept HC.out (fun _ _ h => h)
    obtain ⟨k, l, b, g, cap, rfl, hk, rfl, hLk, hb, rfl, -, hmx, -, -⟩ := hI1.last hm
    have hk' := H.out.size
    have hR' := Lib.hid hr'
    have HC' := Lib.hid hcr
    have hou := HO.out.kept HC'.out (fun j hj e => by
      obtain ⟨c1, h1⟩ := own_obj HO.out hj
      obtain ⟨_, _, _, _, _, _, _, _, _, h5, _⟩ := HR.out
      rw [show j = w.heap.size from e, h5] at h1
      cases h1)
    have hca := (Chg.refl (fun _ => False) w').alloc (.cells #[.int .i64 (k : Int), .int .i64 ((l.length : Int) + 1)] 99)
    have HOU := Lib.hid (hou.kept hca (fun _ _ h => h)).row
    have hwl : ((waitsIn X done).map encW).length ≤ 4096 := by simpa [waitsIn] using hlen
    have hmax : (l.length : Int) + 1 ≤ 9223372036854775807 := by unfold maxLen at hmx; omega
    have HMax := Lib.hid hmax
    have HWl := Lib.hid hwl
    have HK := Lib.hid hk'
    have HSz := Lib.hid hsz
    have hc2 : ∀ j u, [.int .i64 (k : Int), .int .i64 ((l.length : Int) + 1)][j]? = some u → (w'.alloc (.cells #[.int .i64 (k : Int), .int .i64 ((l.length : Int) + 1)] 99)).cell? ((⟨w'.heap.size, 0, none⟩ : Addr).add j) = some u := cells_new w' [.int .i64 (k : Int), .int .i64 ((l.length : Int) + 1)] _
    have hc3 : ∀ x ∈ [Value.int .i64 (k : Int), .int .i64 ((l.length : Int) + 1)], x.oneCell' = true := by intro x hx; simp only [List.mem_cons, List.not_mem_nil, or_false] at hx; rcases hx with rfl | rfl <;> rfl
    have hc4 : ((waitsIn X done).map encW).length + 1 ≤ maxLen := by unfold maxLen; omega
    have hc5 : (((waitsIn X done).map encW).length + 1) * 16 ≤ 140737488355328 := by omega
    have hc6 : w.heap.size ≤ (w'.alloc (.cells #[.int .i64 (k : Int), .int .i64 ((l.length : Int) + 1)] 99)).heap.size := by simp only [World.size_alloc]; rw [hsz]; have := HC.out.size; omega
    have hc2 := Lib.hid hc2
    have hc3 := Lib.hid hc3
    have hc4 := Lib.hid hc4
    have hc5 := Lib.hid hc5
    have hc6 := Lib.hid hc6
    clear hen hrun hr' hI1 hcr hca hou hmax hwl hlen hk' hsz
    go_wp2_with (first
      | (at_builtin; refine wpList_append_own_at _ rfl _ _ 96 rfl w.heap.size 99 i0 (.agg #[.int .i64 0, .int .i64 0]) 2 16 Try.underlying96 HI0.out.1 HI0.out.2.1 HI0.out.2.2.1 HI0.out.2.2.2 rfl (by decide) _ _ _ rfl HOU.out ⟨w'.heap.size, 0, none⟩ 1 1 [.int .i64 (k : Int), .int .i64 ((l.length : Int) + 1)] rfl rfl hc2.out hc3.out hc4.out hc5.out hc6.out ?_; intro u' w3 ho3 hg3 hx1 hx2; have HO3 := Lib.hid ho3; have HG3 := Lib.hid hg3; clear ho3 hg3 hx1 hx2))
    have hcu : Chg (fun i => some i = u3.ownBlock) w' w3 := ((Chg.refl _ _).alloc _).trans' (Chg.of_grown HG3.out)
    have hq1 : ¬ some q = u3.ownBlock := fun e => by
      obtain ⟨c1, h1⟩ := own_obj HO.out e.symm
      obtain ⟨es, clock, hb, _⟩ := HR.out.map
      rw [hb] at h1; cases h1
    have hr1 : ¬ some w.heap.size = u3.ownBlock := fun e => by
      obtain ⟨c1, h1⟩ := own_obj HO.out e.symm
      obtain ⟨_, _, _, _, _, _, _, _, _, h5, _⟩ := HR.out
      rw [h5] at h1; cases h1
    have hRn := hR'.out.kept hcu hq1 hr1
    have hkk : k % 4096 = k := Nat.mod_eq_of_lt (by have := HK.out; omega)
    refine ⟨⟨(k : Int) :: done, cnt', hRn, ?_, ?_, List.nodup_cons.2 ⟨hn, HN.out⟩, ?_⟩, ?_⟩
    · rw [waitsIn_cons, List.map_append]
      refine OwnRecs.append ?_ HO.out.each ?_
      · have h1 := HO3.out
        have e : ([(k, (X.L k).length)].map encW).flatten = [.int .i64 (k : Int), .int .i64 ((l.length : Int) + 1)] := by
          simp [encW, hkk, hLk]
        rw [e]
        simpa using h1
      · intro r hr
        simp only [List.map_cons, List.map_nil, List.mem_singleton] at hr
        rw [hr]; rfl
    · exact (HC.out.new HC'.out (fun i e => by omega)).new hcu (fun i e => (HO.out.lt e.symm).1)
    · intro i hi
      rcases List.mem_cons.1 hi with rfl | hi
      · exact ⟨_, hm, rfl⟩
      · exact HIn.out i hi
    · rw [hRn.left_eq, HR.out.left_eq]
      exact hlt

end Go.Proofs.Ytcfgcllphfooaaa.disks
end
