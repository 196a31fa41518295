/-
  disk: Copy, the walk; slices.Clone at the blocks.
-/
import Derived.Test.YtcfgcllphfooaaaPkAd
import Derived.Lib.LazyBuf

section
set_option linter.unusedSimpArgs false
set_option linter.unusedVariables false
namespace Go.Proofs.Ytcfgcllphfooaaa.disks
open Go.RowKit Go.Maps Go.My Go.ChangeMaps
set_option maxRecDepth 100000

variable {w w' : World} {d q : Nat} {F F' : Nat → Prop} {X X' : DV} {bv : Value} {m : List (Int × (Value × List Blk))}

theorem own_no_blocks (w : World) : (w.alloc (.cells #[] 85)).ownsRow w.heap.size 85 64 (.slice (some ⟨w.heap.size, 0, none⟩) 0 0) 0 [] := by
  have := World.ownsRow_lit (base := w.heap.size) (e := 85) (size := 64) w #[] 0 (by simp) (by unfold maxLen; omega) rfl
  simpa using this

set_option maxHeartbeats 1000000 in
theorem clone_any (w : World) {base : Nat} {v : Value} {L : List Blk} (h : OwnRecs w base 85 64 v (L.map cellsB)) (hne : L ≠ []) (hn : L.length < 1000000) :
    Calls Try.prog 46 #[v] w fun e w' => ∃ v', e = .returned v' ∧ OwnRecs w' w.heap.size 85 64 v' (L.map cellsB) ∧ Chg (fun _ => False) w w' := by
  obtain ⟨i0, hI0⟩ := info_parts info_block
  have HI0 := Lib.hid hI0
  obtain ⟨g, cap, rfl, -, -, -, -, -⟩ := h.cell (k := 0) (by rw [List.length_map]; exact List.length_pos_iff.2 hne)
  rw [List.length_map] at h ⊢
  have hone : ∀ x ∈ (L.map cellsB).flatten, x.oneCell' = true := by
    intro x hx
    obtain ⟨r, hr, hxr⟩ := List.mem_flatten.1 hx
    obtain ⟨b, _, rfl⟩ := List.mem_map.1 hr
    exact one_cellsB b x hxr
  have hcells : ∀ j u, (L.map cellsB).flatten[j]? = some u → (w.alloc (.cells #[] 85)).cell? ((⟨g, 0, none⟩ : Addr).add j) = some u := by
    intro j u hu
    have e : (⟨g, 0, none⟩ : Addr).add j = ⟨g, j, none⟩ := by unfold Addr.add; split <;> simp_all
    rw [e]
    rcases h.row.2 with ⟨e1, _⟩ | ⟨g', cap', cur, e1, _, hg, _, _, _, ht⟩
    · cases e1
    · simp only [Value.slice.injEq, Option.some.injEq, Addr.mk.injEq] at e1
      obtain ⟨⟨rfl, -⟩, -⟩ := e1
      have hlen : (L.map cellsB).flatten.length = (L.map cellsB).length * 64 := h.row.1
      have hj : j < (L.map cellsB).length * 64 := by rw [← hlen]; exact (List.getElem?_eq_some_iff.1 hu).1
      refine ((Chg.refl (fun _ => False) w).alloc _).cell (cell_of_block hg ?_) id
      rw [← ht, List.getElem?_take_of_lt hj] at hu
      rw [← Array.getElem?_toList]; exact hu
  have hflen : (L.map cellsB).flatten.length = L.length * 64 := by
    have := h.row.1
    rw [List.length_map] at this
    exact this
  have heach := h.each
  have HOne := Lib.hid hone
  have HCells := Lib.hid hcells
  have HFl := Lib.hid hflen
  have HE := Lib.hid heach
  have hnil := fun w' => run_eql_slice_nil (P := Try.prog) w' 44 _ (some ⟨g, 0, none⟩) L.length cap Try.underlying44
  clear h hone hcells hflen heach hI0
  go_enter Try.func46, Try.ntmps46
  go_wp2_with (first
    | (at_builtin; (refine wpList_append_own_at _ rfl _ _ 44 rfl w.heap.size 85 i0 (.agg (Array.replicate 64 (.int .u8 0))) 64 64 Try.underlying44 HI0.out.1 HI0.out.2.1 HI0.out.2.2.1 HI0.out.2.2.2 rfl (by decide) _ _ _ rfl (own_no_blocks w) ⟨g, 0, none⟩ L.length cap (L.map cellsB).flatten rfl HFl.out HCells.out HOne.out (by unfold maxLen; omega) (by omega) (by simp only [World.size_alloc]; omega) ?_)))
  intro v' w2 ho hg _ _
  have HO := Lib.hid ho
  have HG := Lib.hid hg
  clear ho hg
  go_wp2_with fail
  go_ret
  refine ⟨_, rfl, ⟨by rw [List.length_map]; exact HO.out, HE.out⟩, ?_⟩
  exact ((Chg.refl _ _).alloc _).trans (Chg.of_grown HG.out) (fun i hi hk => by simp [Value.ownBlock] at hk; omega)

/-- A copy under way: the blocks are copied, and of what waits the blocks of 'done'. -/
structure CopyIs (W w : World) (c : Nat) (X : DV) (m : List (Int × (Value × List Blk))) (bv : Value) (q : Nat) (mc : List (Int × (Value × List Blk))) (done : List Int) : Prop where
  head : w.heap[c]? = some (objD bv q X)
  rows : OwnRecs w W.heap.size 85 64 bv (X.B.map cellsB)
  wmap : MapIs iKey Prod.fst w q mc
  lists : ∀ p ∈ mc, OwnRecs w W.heap.size 85 64 p.2.1 (p.2.2.map cellsB) ∧ p.2.2 ≠ [] ∧ 0 ≤ p.1 ∧ p.1 < X.B.length
  same : ∀ k, (mget mc k).map (·.2) = if k ∈ done then (mget m k).map (·.2) else none
  off : ∀ p ∈ mc, p.2.1.ownBlock ≠ bv.ownBlock
  apart : ∀ p ∈ mc, ∀ p' ∈ mc, p.1 ≠ p'.1 → p.2.1.ownBlock ≠ p'.2.1.ownBlock
  newc : W.heap.size ≤ c
  newq : W.heap.size ≤ q

variable {W : World} {c : Nat} {mc : List (Int × (Value × List Blk))} {done : List Int}

theorem CopyIs.kept (h : CopyIs W w c X m bv q mc done) {S : Nat → Prop} (hc : Chg S w w') (h1 : ¬ S c) (h2 : ¬ S q) (h3 : ∀ g, bv.ownBlock = some g → ¬ S g) (h4 : ∀ p ∈ mc, ∀ g, p.2.1.ownBlock = some g → ¬ S g) : CopyIs W w' c X m bv q mc done :=
  ⟨hc.at h.head h1, h.rows.kept hc h3, h.wmap.kept hc h2, fun p hp => ⟨(h.lists p hp).1.kept hc (h4 p hp), (h.lists p hp).2⟩, h.same, h.off, h.apart, h.newc, h.newq⟩

theorem CopyIs.fresh (h : CopyIs W w c X m bv q mc done) (hc : Chg (fun _ => False) w w') : CopyIs W w' c X m bv q mc done := h.kept hc id id (fun _ _ h => h) (fun _ _ _ _ h => h)

theorem recs_weaken {base base' : Nat} {e : TypeId} {n : Nat} {v : Value} {l : List (List Value)} (h : OwnRecs w base e n v l) (hb : base' ≤ base) : OwnRecs w base' e n v l := by
  refine ⟨⟨h.row.1, ?_⟩, h.each⟩
  rcases h.row.2 with h1 | ⟨g, cap, cur, h1, h2, h3⟩
  · exact Or.inl h1
  · exact Or.inr ⟨g, cap, cur, h1, Nat.le_trans hb h2, h3⟩

/-- The end: a disk of its own. -/
theorem CopyIs.disk {bv' : Value} {q' : Nat} (h : CopyIs W w c X m bv q mc done) (hd : DiskIs w' d F X bv' q' m) (hall : ∀ p ∈ m, p.1 ∈ done) : DiskAt w c (born W w) X := by
  refine ⟨bv, q, mc, h.head, recs_weaken h.rows (Nat.zero_le _), hd.any, h.wmap, fun p hp => ⟨recs_weaken (h.lists p hp).1 (Nat.zero_le _), (h.lists p hp).2⟩, fun i => ?_, h.off, h.apart, ⟨h.newc, lt_of_block h.head⟩, ⟨h.newq, h.wmap.lt⟩, fun g hg => h.rows.lt hg, fun p hp g hg => (h.lists p hp).1.lt hg, fun k hk => hk.2, hd.size⟩
  rw [hd.waits i, h.same]
  split
  · rfl
  · rename_i hn
    cases hm : mget m (i : Int) with
    | none => rfl
    | some v => exact absurd (hall _ (mem_mget hm)) hn

/-- One more of what waits is copied. -/
theorem CopyIs.put (h : CopyIs W w c X m bv q mc done) {k : Nat} {v0 v' : Value} {L : List Blk} (hm : mget m (k : Int) = some (v0, L)) (hk : k < X.B.length) (hn : (k : Int) ∉ done) (hL : L ≠ []) {w2 w3 : World} (hc : Chg (fun _ => False) w w2) (hsz : W.heap.size ≤ w.heap.size)
    (ho : OwnRecs w2 w.heap.size 85 64 v' (L.map cellsB)) (hmap : MapIs iKey Prod.fst w3 q (mput mc (k : Int) (v', L))) (hc3 : Chg (· = q) w2 w3) : CopyIs W w3 c X m bv q (mput mc (k : Int) (v', L)) ((k : Int) :: done) := by
  have h2 := h.fresh hc
  have hnc : mget mc (k : Int) = none := by
    have := h.same (k : Int)
    rw [if_neg hn] at this
    exact Option.map_eq_none_iff.1 this
  obtain ⟨es, clock, hqb, _⟩ := h2.wmap
  have hqr : ∀ {v : Value} {l : List (List Value)} {b0 : Nat}, OwnRecs w2 b0 85 64 v l → ∀ g, v.ownBlock = some g → ¬ g = q := fun hr g hg e => by
    obtain ⟨cur, hcu⟩ := own_obj hr hg
    rw [e, hqb] at hcu; cases hcu
  have hcq : ¬ c = q := fun e => by
    have := h2.head
    rw [e, hqb, objD] at this; cases this
  have hnew : ∀ g, v'.ownBlock = some g → w.heap.size ≤ g := fun g hg => (ho.lt hg).1
  have hold : ∀ p ∈ mc, ∀ g, p.2.1.ownBlock = some g → g < w.heap.size := fun p hp g hg => ((h.lists p hp).1.lt hg).2
  obtain ⟨g', hg', -⟩ := own_some ho (by simpa using hL)
  refine ⟨hc3.at h2.head hcq, h2.rows.kept hc3 (hqr h2.rows), hmap, ?_, ?_, ?_, ?_, h.newc, h.newq⟩
  · intro p hp
    rcases mem_mput hp with rfl | ⟨hp, _⟩
    · exact ⟨recs_weaken (ho.kept hc3 (hqr ho)) hsz, hL, by simp, by simpa using hk⟩
    · exact ⟨(h2.lists p hp).1.kept hc3 (hqr (h2.lists p hp).1), (h2.lists p hp).2⟩
  · intro j
    rw [mget_mput]
    by_cases hj : j = (k : Int)
    · subst hj; simp [hm]
    · rw [if_neg hj, h.same j]
      simp [hj]
  · intro p hp
    rcases mem_mput hp with rfl | ⟨hp, _⟩
    · intro e
      have h1 := hnew g' hg'
      have h3 := (h.rows.lt (e ▸ hg' : bv.ownBlock = some g')).2
      omega
    · exact h.off p hp
  · intro p hp p' hp' hne
    rcases mem_mput hp with rfl | ⟨hp, _⟩
    · rcases mem_mput hp' with rfl | ⟨hp', _⟩
      · exact absurd rfl hne
      · intro e
        have h1 := hnew g' hg'
        have h3 := hold p' hp' g' (e ▸ hg')
        omega
    · rcases mem_mput hp' with rfl | ⟨hp', _⟩
      · intro e
        have h1 := hnew g' hg'
        have h3 := hold p hp g' (e.trans hg')
        omega
      · exact h.apart p hp p' hp' hne

/-- The copy's start: its object, its blocks, an empty map. -/
theorem copy_start {g cap : Nat} (h : DiskIs w d F X (.slice (some ⟨g, 0, none⟩) X.B.length cap) q m) {w1 w2 w5 : World} {v' : Value} {O : Array Value} (hc1 : Chg (fun _ => False) w w1) (ho : OwnRecs w2 w1.heap.size 85 64 v' (X.B.map cellsB)) (hc2 : Chg (fun _ => False) w1 w2)
    (hO4 : ((w2.setCell ⟨w.heap.size, 0, none⟩ v').alloc (.map #[] 0)).heap[w.heap.size]? = some (.cells O 47 (0, 0))) (cs5 : Chg (· = w.heap.size) w2 w5) (h5 : ((w2.setCell ⟨w.heap.size, 0, none⟩ v').alloc (.map #[] 0)).setCell ⟨w.heap.size, 1, none⟩ (.map (some w2.heap.size)) = w5)
    (hs1 : w.heap.size < w1.heap.size) (hO : O = #[v', .map (some q), .int .i64 X.fuse, .bool X.down, .int .i64 X.done] := by rfl) : Chg (fun _ => False) w w5 ∧ CopyIs w w5 w.heap.size X m v' w2.heap.size [] [] := by
  have hs2 := hc2.size
  have hrq : ((w2.setCell ⟨w.heap.size, 0, none⟩ v').alloc (.map #[] 0)).heap[w2.heap.size]? = some (.map #[] 0) := by
    have := block_alloc_new (w2.setCell ⟨w.heap.size, 0, none⟩ v') (.map #[] 0)
    rw [World.size_setCell] at this
    exact this
  have c5 : Chg (· = w.heap.size) ((w2.setCell ⟨w.heap.size, 0, none⟩ v').alloc (.map #[] 0)) w5 := by subst h5; exact Chg.setCell (S := (· = w.heap.size)) (Chg.refl _ _) (fun _ => rfl) _
  refine ⟨(hc1.trans' hc2).new cs5 (fun i e => by omega), ⟨?_, ?_, MapIs.made _ _ (c5.at hrq (by omega)), by simp, by simp [mget], by simp, by simp, Nat.le_refl _, by omega⟩⟩
  · subst h5
    rw [block_setCell hO4, hO]
    rfl
  · exact recs_weaken (ho.kept cs5 (fun g hg e => by have := (ho.lt hg).1; omega)) (by omega)

set_option maxHeartbeats 4000000 in
theorem copy_any (w : World) (h : DiskIs w d F X bv q m) (hL : ∀ j, (X.L j).length < 1000000) :
    Calls Try.prog 28 #[.pointer (some ⟨d, 0, none⟩)] w fun e w' => ∃ c, e = .returned (.pointer (some ⟨c, 0, none⟩)) ∧ DiskAt w' c (born w w') X ∧ Chg (fun _ => False) w w' := by
  obtain ⟨g, cap, rfl, hcap⟩ := h.sl
  have c0 : w.cell? ⟨d, 0, none⟩ = some (.slice (some ⟨g, 0, none⟩) X.B.length cap) := cell_of_block h.head rfl
  have c1 : w.cell? ⟨d, 1, none⟩ = some (.map (some q)) := cell_of_block h.head rfl
  have c2 : w.cell? ⟨d, 2, none⟩ = some (.int .i64 X.fuse) := cell_of_block h.head rfl
  have c3 : w.cell? ⟨d, 3, none⟩ = some (.bool X.down) := cell_of_block h.head rfl
  have c4 : w.cell? ⟨d, 4, none⟩ = some (.int .i64 X.done) := cell_of_block h.head rfl
  have hmm := @run_makeMap Try.prog
  have hcO := (Chg.refl (fun _ => False) w).alloc (.cells #[.slice (some ⟨g, 0, none⟩) X.B.length cap, .map (some q), .int .i64 X.fuse, .bool X.down, .int .i64 X.done] 47)
  have b0 : (w.alloc (.cells #[.slice (some ⟨g, 0, none⟩) X.B.length cap, .map (some q), .int .i64 X.fuse, .bool X.down, .int .i64 X.done] 47)).cell? ⟨d, 0, none⟩ = some (.slice (some ⟨g, 0, none⟩) X.B.length cap) := hcO.cell c0 id
  have H := Lib.hid h
  have HL := Lib.hid hL
  have HCO := Lib.hid hcO
  have hdlt : d < w.heap.size := h.lt d h.fd
  have HDlt := Lib.hid hdlt
  clear h hL hcO hdlt
  go_enter Try.func28, Try.ntmps28
  go_wp2_with (first
    | (go_at_call 38; refine (none_no _ ⟨_, _, _, H.out⟩).mono ?_; rintro e w' ⟨rfl, rfl⟩)
    | (go_at_call 46; refine (clone_any _ (L := X.B) (H.out.rows.kept HCO.out (fun _ _ h => h)) H.out.any (by have := H.out.size; omega)).mono ?_; rintro e w2 ⟨v', rfl, ho, hc2⟩
       obtain ⟨oa', cp', hv', -⟩ := ho.slice
       rw [List.length_map] at hv'
       subst hv'
       have hO2 := hc2.at (block_alloc_new w (.cells #[.slice (some ⟨g, 0, none⟩) X.B.length cap, .map (some q), .int .i64 X.fuse, .bool X.down, .int .i64 X.done] 47)) id
       have k0 : w2.cell? ⟨w.heap.size, 0, none⟩ = some (.slice (some ⟨g, 0, none⟩) X.B.length cap) := cell_of_block hO2 rfl
       have z0 : w2.frozen? ⟨w.heap.size, 0, none⟩ = false := free_of_block hO2
       have cs3 : Chg (· = w.heap.size) w2 (w2.setCell ⟨w.heap.size, 0, none⟩ (.slice oa' X.B.length cp')) := Chg.setCell (S := (· = w.heap.size)) (Chg.refl _ _) (fun _ => rfl) _
       have hO3 := block_setCell (i := 0) (v := .slice oa' X.B.length cp') hO2
       have hO4 := ((Chg.refl (fun _ => False) (w2.setCell ⟨w.heap.size, 0, none⟩ (.slice oa' X.B.length cp'))).alloc (.map #[] 0)).at hO3 id
       have k1 : ((w2.setCell ⟨w.heap.size, 0, none⟩ (.slice oa' X.B.length cp')).alloc (.map #[] 0)).cell? ⟨w.heap.size, 1, none⟩ = some (.map (some q)) := cell_of_block hO4 rfl
       have z1 : ((w2.setCell ⟨w.heap.size, 0, none⟩ (.slice oa' X.B.length cp')).alloc (.map #[] 0)).frozen? ⟨w.heap.size, 1, none⟩ = false := free_of_block hO4
       have cs5 : Chg (· = w.heap.size) w2 (((w2.setCell ⟨w.heap.size, 0, none⟩ (.slice oa' X.B.length cp')).alloc (.map #[] 0)).setCell ⟨w.heap.size, 1, none⟩ (.map (some w2.heap.size))) := Chg.setCell (S := (· = w.heap.size)) (cs3.alloc _) (fun _ => rfl) _
       have hbig := copy_start H.out HCO.out ho hc2 hO4 cs5 rfl (by simp only [World.size_alloc]; omega)
       have kd : (((w2.setCell ⟨w.heap.size, 0, none⟩ (.slice oa' X.B.length cp')).alloc (.map #[] 0)).setCell ⟨w.heap.size, 1, none⟩ (.map (some w2.heap.size))).cell? ⟨d, 1, none⟩ = some (.map (some q)) := hbig.1.cell c1 id
       have HBig := Lib.hid hbig
       clear ho hc2 hO2 hO3 hO4 cs3 cs5 hbig)
    | (at_range; obtain ⟨w5, hw5⟩ : ∃ w5, ((w2.setCell ⟨w.heap.size, 0, none⟩ (.slice oa' X.B.length cp')).alloc (.map #[] 0)).setCell ⟨w.heap.size, 1, none⟩ (.map (some w2.heap.size)) = w5 := ⟨_, rfl⟩; rw [hw5]; have HB5 := Lib.hid (show Chg (fun _ => False) w w5 ∧ CopyIs w w5 w.heap.size X m (.slice oa' X.B.length cp') w2.heap.size [] [] from by rw [← hw5]; exact HBig.out); clear hw5 HBig kd
       refine wpList_rangeM (H.out.wmap.kept HB5.out.1 id) rfl _ 45 44 rfl Try.underlying45 rfl ?_; intro w6 cnt hr6 hc6 hs6))
  go_frame
  clear k0 z0 k1 z1 b0
  go_loopw [4] (fun _ wr => ∃ done cnt mc, RngIs iKey Prod.fst wr q w5.heap.size m done cnt ∧ CopyIs w wr w.heap.size X m (.slice oa' X.B.length cp') w2.heap.size mc done ∧ Chg (fun _ => False) w wr ∧ w5.heap.size ≤ wr.heap.size) (fun _ wr => wr.rangeLeft q w5.heap.size)
  · exact ⟨[], cnt, [], hr6, HB5.out.2.fresh hc6, HB5.out.1.trans' hc6, hc6.size⟩
  clear hr6 hc6 hs6
  obtain ⟨done, cnt, mc, hr, hI, hc, hsz⟩ := hrel
  have HR := Lib.hid hr
  have HI := Lib.hid hI
  have HC := Lib.hid hc
  clear hr hI hc
  rcases HR.out.next 0 with ⟨hall, hrun⟩ | ⟨k, v, w', cnt', hm, hn, hrun, hr', hlt, hcr, hsz', hen⟩
  · go_wp2_with fail
    go_ret
    exact ⟨_, rfl, HI.out.disk (H.out) hall, HC.out⟩
  · obtain ⟨v, L⟩ := v
    have hen' : (Instr.entry (.pointer (some ⟨w5.heap.size, 0, none⟩))).run Try.prog w' = .ok (.tuple #[.int .i64 k, v]) w' := hen
    have hrun' : (Instr.next (.pointer (some ⟨w5.heap.size, 0, none⟩)) false 0).run Try.prog wr = .ok (.tuple #[.bool true, .int .i64 k, v]) w' := hrun
    have hr1 : ∀ {v : Value} {l : List (List Value)} {b0 : Nat}, OwnRecs wr b0 85 64 v l → ∀ g, v.ownBlock = some g → ¬ g = w5.heap.size := fun hr g hg e => by
      obtain ⟨cur, hcu⟩ := own_obj hr hg
      obtain ⟨_, _, _, _, _, _, _, _, _, h5, _⟩ := HR.out
      rw [e, h5] at hcu; cases hcu
    have hI1 : CopyIs w w' w.heap.size X m (.slice oa' X.B.length cp') w2.heap.size mc done := by
      refine HI.out.kept hcr (fun e => ?_) (fun e => ?_) (hr1 HI.out.rows) (fun p hp => hr1 (HI.out.lists p hp).1)
      · have := lt_of_block HB5.out.2.head
        omega
      · have := HB5.out.2.wmap.lt
        omega
    obtain ⟨j, hj⟩ := List.getElem?_of_mem hm
    have hget := mget_some_of m H.out.wmap.nodup hj
    simp only at hget
    have hli := H.out.lists _ hm
    simp only at hli
    have hcw : Chg (fun _ => False) w w' := HC.out.new hcr (fun i e => by have := HB5.out.1.size; omega)
    obtain ⟨k, l, b, gk, capk, rfl, hkB, rfl, hLk, -, rfl, -, -, -, -⟩ := H.out.last hm
    have hlen := HL.out k
    rw [hLk] at hlen
    have hkR : inR (k : Int) := by have := H.out.size; constructor <;> omega
    have hx1 : w'.cell? ⟨w.heap.size, 1, none⟩ = some (.map (some w2.heap.size)) := cell_of_block hI1.head rfl
    have HI1 := Lib.hid hI1
    have HGet := Lib.hid hget
    have HLi := Lib.hid (hli.1.kept hcw.drew (fun _ _ h => h))
    have HCw := Lib.hid hcw
    have HRn := Lib.hid hr'
    have HSz := Lib.hid hsz'
    clear hen hrun hr' hcr hI1 hget hli hcw hr1 hj hsz'
    go_wp2_with fail
    refine wp_region_noPanic ?_
    refine wp_region_held_drew (S := (fun w'' => w''.cell? ⟨w.heap.size, 1, none⟩ = some (.map (some w2.heap.size)))) (by kernel_rfl) (hx1) (fun hHeld => ?_)
    refine take_list (i := 0) (v := ?_) rfl (by kernel_rfl) (by kernel_rfl) (by kernel_rfl) (fun _ _ _ h => h) (Or.inl ⟨by rfl, fun w hSw => ?_⟩) hHeld ?_
    rotate_left
    · (skip; go_simp)
      try with_reducible rfl
    simp only [Act.put, List.setIfInBounds_toArray, List.set_cons_zero, List.set_cons_succ]
    refine take_list (i := 1) (v := ?_) rfl (by kernel_rfl) (by kernel_rfl) (by kernel_rfl) (fun _ _ _ h => h) (Or.inl ⟨by rfl, fun w hSw => ?_⟩) hHeld ?_
    rotate_left
    · (skip; go_simp)
      try with_reducible rfl
    simp only [Act.put, List.setIfInBounds_toArray, List.set_cons_zero, List.set_cons_succ]
    refine take_list (i := 2) (v := ?_) rfl (by kernel_rfl) (by kernel_rfl) (by kernel_rfl) (fun _ _ _ h => h) (Or.inl ⟨by rfl, fun w hSw => ?_⟩) hHeld ?_
    rotate_left
    · (skip; go_simp)
      try with_reducible rfl
    simp only [Act.put, List.setIfInBounds_toArray, List.set_cons_zero, List.set_cons_succ]
    refine take_list (i := 3) (v := ?_) rfl (by kernel_rfl) (by kernel_rfl) (by kernel_rfl) (fun _ _ _ h => h) (Or.inl ⟨by rfl, fun w hSw => ?_⟩) hHeld ?_
    rotate_left
    · (skip; go_simp)
      try with_reducible rfl
    simp only [Act.put, List.setIfInBounds_toArray, List.set_cons_zero, List.set_cons_succ]
    refine wpAnyH_ready (rs := [4]) (by kernel_rfl) (by simp) (one_list (i := 4) rfl (by rfl) (fun K hK => ?_) AllReadyH.nil)
    go_simp
    refine (clone_any _ (L := l ++ [b]) HLi.out (by simp) hlen).mono ?_
    rintro e w7 ⟨v7, rfl, ho7, hc7⟩
    obtain ⟨oa7, cp7, hv7, -⟩ := ho7.slice
    rw [List.length_map] at hv7
    subst hv7
    have hc8 : Chg (fun _ => False) w' w7 := ((Chg.refl (fun _ => False) w').drew).trans' hc7
    obtain ⟨ob, hput, hmap⟩ := (HI1.out.wmap.kept hc8 id).put Try.underlying45 (k : Int) (inR_wf hkR) (.slice oa7 (l ++ [b]).length cp7, l ++ [b])
    have hput' : (Instr.mapUpdate 45 (.map (some w2.heap.size)) (.int .i64 k) (.slice oa7 (l.length + 1) cp7)).run Try.prog w7 = .ok () (setBlock w7 w2.heap.size ob) := by
      have := hput
      simp only [List.length_append, List.length_cons, List.length_nil, Nat.zero_add] at this
      exact this
    have hc9 : Chg (· = w2.heap.size) w7 (setBlock w7 w2.heap.size ob) := Chg.setBlock (S := (· = w2.heap.size)) (Chg.refl _ _) (fun _ => rfl) _
    have hx7 := hc8.cell hx1 id
    have hcq : w.heap.size ≠ w2.heap.size := fun e => by
      obtain ⟨es, clock, hqb, _⟩ := HI1.out.wmap
      have := HI1.out.head
      rw [e, hqb, objD] at this; cases this
    have hx9 := hc9.cell hx7 hcq
    have hI9 := HI1.out.put HGet.out hkB hn (by simp) hc8 HCw.out.size ho7 hmap hc9
    have HI9 := Lib.hid hI9
    have HC8 := Lib.hid hc8
    have HC9 := Lib.hid hc9
    clear hput hmap hc7 ho7 hc8 hc9 hI9
    dsimp only
    refine hK _ _ hx7 (fun hH2 => ?_)
    try simp only [Act.put, List.setIfInBounds_toArray, List.set_cons_zero, List.set_cons_succ]
    refine wpAnyH_ready (rs := [5]) (by kernel_rfl) (by simp) (one_list (i := 5) rfl (by rfl) (fun K hK => ?_) AllReadyH.nil)
    go_simp
    refine hK _ _ hx9 (fun hH3 => ?_)
    try simp only [Act.put, List.setIfInBounds_toArray, List.set_cons_zero, List.set_cons_succ]
    refine wpAnyH_done (by kernel_rfl) ?_ _
    refine NoPanic.normal ?_
    go_wp2_with fail
    have hRn := (HRn.out.kept HC8.out id id).kept HC9.out (fun e => by have := H.out.lt q H.out.fq; have := HB5.out.2.newq; have h3 := HI9.out.newq; omega) (fun e => by have := HB5.out.2.wmap.lt; omega)
    refine ⟨⟨(k : Int) :: done, cnt', _, hRn, HI9.out, (HCw.out.trans' HC8.out).new HC9.out (fun i e => by have := HB5.out.2.newq; omega), ?_⟩, ?_⟩
    · have := HC8.out.size; have := HC9.out.size; have := HSz.out; omega
    · rw [hRn.left_eq, HR.out.left_eq]
      exact hlt

end Go.Proofs.Ytcfgcllphfooaaa.disks
end
