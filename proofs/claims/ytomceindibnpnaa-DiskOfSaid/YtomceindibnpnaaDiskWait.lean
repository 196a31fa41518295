/-
  disk: Waiting, the walk.
-/
import Derived.Test.YtomceindibnpnaaDiskSort
namespace Go.Proofs.Ytomceindibnpnaa.disks
open Go.RowKit Go.Maps Go.My Go.ChangeMaps
set_option maxRecDepth 100000

variable {w w' : World} {d q : Nat} {F F' : Nat → Prop} {X X' : DV} {bv : Value} {m : List (Int × (Value × List Blk))}

theorem info_wait : (Try.prog.info? 114).map (fun i => (i.zero, i.size, i.bytes)) = some (some (.agg #[.int .i64 0, .int .i64 0]), 2, 16) := by kernel_rfl

/-- What waits, by the order of the blocks. -/
def waitsOf (X : DV) : List (Nat × Nat) := ((List.range X.B.length).filter (fun i => !(X.L i).isEmpty)).map (fun i => (i, (X.L i).length))
/-- What waits, of the blocks of a list. -/
def waitsIn (X : DV) (done : List Int) : List (Nat × Nat) := done.reverse.map (fun i => (i.toNat, (X.L i.toNat).length))

theorem waitsIn_cons (X : DV) (k : Nat) (done : List Int) : waitsIn X ((k : Int) :: done) = waitsIn X done ++ [(k, (X.L k).length)] := by
  simp [waitsIn]

theorem waits_pairwise (X : DV) : (waitsOf X).Pairwise (fun a b => a.1 < b.1) := by
  unfold waitsOf
  rw [List.pairwise_map]
  exact List.Pairwise.filter _ List.pairwise_lt_range

theorem DiskIs.done_perm (h : DiskIs w d F X bv q m) {done : List Int} (hn : done.Nodup) (hin : ∀ i ∈ done, ∃ p ∈ m, p.1 = i) (hall : ∀ p ∈ m, p.1 ∈ done) : (waitsIn X done).Perm (waitsOf X) := by
  have h0 : ∀ i ∈ done, 0 ≤ i := by
    intro i hi
    obtain ⟨p, hp, rfl⟩ := hin i hi
    exact (h.lists p hp).2.2.1
  have h1 : waitsIn X done = (done.reverse.map Int.toNat).map (fun i => (i, (X.L i).length)) := by simp [waitsIn]
  rw [h1, waitsOf]
  apply List.Perm.map
  rw [List.perm_iff_count]
  intro a
  have hnd : (done.reverse.map Int.toNat).Nodup := by
    unfold List.Nodup
    rw [List.pairwise_map]
    have hr : done.reverse.Pairwise (· ≠ ·) := by rw [List.pairwise_reverse]; exact hn.imp (fun h e => h e.symm)
    refine (List.Pairwise.and_mem.1 hr).imp ?_
    rintro a b ⟨ha, hb, hab⟩ e
    have := h0 a (List.mem_reverse.1 ha)
    have := h0 b (List.mem_reverse.1 hb)
    exact hab (by omega)
  have hnf : ((List.range X.B.length).filter (fun i => !(X.L i).isEmpty)).Nodup := List.Pairwise.filter _ List.nodup_range
  rw [hnd.count, hnf.count]
  have : a ∈ done.reverse.map Int.toNat ↔ a ∈ (List.range X.B.length).filter (fun i => !(X.L i).isEmpty) := by
    simp only [List.mem_map, List.mem_reverse, List.mem_filter, List.mem_range]
    constructor
    · rintro ⟨i, hi, rfl⟩
      obtain ⟨p, hp, rfl⟩ := hin i hi
      have hl := h.lists p hp
      refine ⟨by omega, ?_⟩
      obtain ⟨j, hj⟩ := List.getElem?_of_mem hp
      rw [h.waits, Int.toNat_of_nonneg hl.2.2.1, mget_some_of m h.wmap.nodup hj]
      have := hl.2.1
      simpa using this
    · rintro ⟨_, ha⟩
      rw [h.waits] at ha
      cases hm : mget m (a : Int) with
      | none => rw [hm] at ha; simp at ha
      | some v => exact ⟨(a : Int), hall _ (mem_mget hm), by simp⟩
  simp only [this]

theorem sorted_is {X : DV} {ws : List (Nat × Nat)} (hB : X.B.length ≤ 4096) (hp : ws.Perm (waitsOf X)) (hs : ws.Pairwise (fun a b => a.1 % 4096 ≤ b.1 % 4096)) : ws = waitsOf X := by
  have hlt : ∀ a ∈ waitsOf X, a.1 < 4096 ∧ a.2 = (X.L a.1).length := by
    intro a ha
    simp only [waitsOf, List.mem_map, List.mem_filter, List.mem_range] at ha
    obtain ⟨i, hi, rfl⟩ := ha
    exact ⟨by omega, rfl⟩
  refine List.Perm.eq_of_pairwise (le := fun a b => a.1 % 4096 ≤ b.1 % 4096) ?_ hs ?_ hp
  · intro a b ha hb h1 h2
    have ha' := hlt a (hp.mem_iff.1 ha)
    have hb' := hlt b hb
    have : a.1 = b.1 := by
      rw [Nat.mod_eq_of_lt ha'.1, Nat.mod_eq_of_lt hb'.1] at h1 h2
      omega
    exact Prod.ext this (by rw [ha'.2, hb'.2, this])
  · refine (List.Pairwise.and_mem.1 (waits_pairwise X)).imp ?_
    rintro a b ⟨ha, hb, h⟩
    rw [Nat.mod_eq_of_lt (hlt a ha).1, Nat.mod_eq_of_lt (hlt b hb).1]
    omega

set_option maxHeartbeats 4000000 in
theorem waiting_any (w : World) (h : DiskIs w d F X bv q m) :
    Calls Try.prog 36 #[.pointer (some ⟨d, 0, none⟩)] w fun e w' => ∃ v, e = .returned v ∧ OwnRecs w' w.heap.size 114 2 v ((waitsOf X).map encW) ∧ Chg (fun _ => False) w w' := by
  obtain ⟨i0, hI0⟩ := info_parts info_wait
  have HI0 := Lib.hid hI0
  clear hI0
  have c1 : w.cell? ⟨d, 1, none⟩ = some (.map (some q)) := cell_of_block h.head rfl
  have H := Lib.hid h
  clear h
  go_enter Try.func36, Try.ntmps36
  go_wp2_with (first
    | (go_at_call 63; refine (none_no _ ⟨_, _, _, H.out⟩).mono ?_; rintro e w' ⟨rfl, rfl⟩)
    | (at_range; refine wpList_rangeM H.out.wmap rfl _ 92 91 rfl Try.underlying92 rfl ?_; intro w2 cnt hr2 hc2 hs2))
  go_frame
  go_loopw [3] (fun u wr => ∃ done cnt, RngIs iKey Prod.fst wr q w.heap.size m done cnt ∧ OwnRecs wr w.heap.size 114 2 u ((waitsIn X done).map encW) ∧ Chg (fun _ => False) w wr ∧ done.Nodup ∧ (∀ i ∈ done, ∃ p ∈ m, p.1 = i)) (fun _ wr => wr.rangeLeft q w.heap.size)
  · exact ⟨[], cnt, hr2, OwnRecs.nil _ _ _ _, hc2, List.nodup_nil, by simp⟩
  clear hr2 hc2 hs2
  obtain ⟨done, cnt, hr, ho, hc, hnd, hin⟩ := hrel
  have HR := Lib.hid hr
  have HO := Lib.hid ho
  have HC := Lib.hid hc
  have HN := Lib.hid hnd
  have HIn := Lib.hid hin
  have hlen : done.length ≤ 4096 := by
    have h1 : (done.map id).Nodup := by simpa using hnd
    have h2 : done ⊆ (List.range 4096).map (fun i : Nat => (i : Int)) := by
      intro i hi
      obtain ⟨p, hp, rfl⟩ := hin i hi
      have := H.out.lists p hp
      have := H.out.size
      exact List.mem_map.2 ⟨p.1.toNat, by rw [List.mem_range]; omega, by omega⟩
    have := hnd.length_le_of_subset h2
    simpa using this
  clear hr ho hc hnd hin
  rcases HR.out.next 0 with ⟨hall, hrun⟩ | ⟨k, v, w', cnt', hm, hn, hrun, hr', hlt, hcr, hsz, hen⟩
  · have hpm := H.out.done_perm HN.out HIn.out hall
    have hlw : (waitsIn X done).length ≤ 4096 := by simpa [waitsIn] using hlen
    have HP := Lib.hid hpm
    clear hpm hall
    go_wp2_with (first
      | (go_at_call 64; refine (sort_any _ HO.out hlw).mono ?_; rintro e w' ⟨rfl, ws', hp', hs', ho', hc'⟩))
    go_ret
    rw [← sorted_is H.out.size (hp'.trans HP.out) hs']
    exact ⟨_, rfl, ho', HC.out.new hc' (fun i e => (HO.out.lt e.symm).1)⟩
  · obtain ⟨v, L⟩ := v
    have hen' : (Instr.entry (.pointer (some ⟨w.heap.size, 0, none⟩))).run Try.prog w' = .ok (.tuple #[.int .i64 k, v]) w' := hen
    have hrun' : (Instr.next (.pointer (some ⟨w.heap.size, 0, none⟩)) false 0).run Try.prog wr = .ok (.tuple #[.bool true, .int .i64 k, v]) w' := hrun
    have hI1 := H.out.kept HC.out (fun _ _ h => h)
    obtain ⟨k, l, b, g, cap, rfl, hk, rfl, hLk, hb, rfl, -, hmx, -, -⟩ := hI1.last hm
    have hk' := H.out.size
    have hR' := Lib.hid hr'
    have HC' := Lib.hid hcr
    have hou := HO.out.kept HC'.out (fun j hj e => by
      obtain ⟨c1, h1⟩ := own_obj HO.out hj
      obtain ⟨_, _, _, _, _, _, _, _, _, h5, _⟩ := HR.out
      rw [show j = w.heap.size from e, h5] at h1
      cases h1)
    have hca := (Chg.refl (fun _ => False) w').alloc (.cells #[.int .i64 (k : Int), .int .i64 ((l.length : Int) + 1)] 114)
    have HOU := Lib.hid (hou.kept hca (fun _ _ h => h)).row
    have hwl : ((waitsIn X done).map encW).length ≤ 4096 := by simpa [waitsIn] using hlen
    have hmax : (l.length : Int) + 1 ≤ 9223372036854775807 := by unfold maxLen at hmx; omega
    have HMax := Lib.hid hmax
    have HWl := Lib.hid hwl
    have HK := Lib.hid hk'
    have HSz := Lib.hid hsz
    have hc2 : ∀ j u, [.int .i64 (k : Int), .int .i64 ((l.length : Int) + 1)][j]? = some u → (w'.alloc (.cells #[.int .i64 (k : Int), .int .i64 ((l.length : Int) + 1)] 114)).cell? ((⟨w'.heap.size, 0, none⟩ : Addr).add j) = some u := cells_new w' [.int .i64 (k : Int), .int .i64 ((l.length : Int) + 1)] _
    have hc3 : ∀ x ∈ [Value.int .i64 (k : Int), .int .i64 ((l.length : Int) + 1)], x.oneCell' = true := by intro x hx; simp only [List.mem_cons, List.not_mem_nil, or_false] at hx; rcases hx with rfl | rfl <;> rfl
    have hc4 : ((waitsIn X done).map encW).length + 1 ≤ maxLen := by unfold maxLen; omega
    have hc5 : (((waitsIn X done).map encW).length + 1) * 16 ≤ 140737488355328 := by omega
    have hc6 : w.heap.size ≤ (w'.alloc (.cells #[.int .i64 (k : Int), .int .i64 ((l.length : Int) + 1)] 114)).heap.size := by simp only [World.size_alloc]; rw [hsz]; have := HC.out.size; omega
    have hc2 := Lib.hid hc2
    have hc3 := Lib.hid hc3
    have hc4 := Lib.hid hc4
    have hc5 := Lib.hid hc5
    have hc6 := Lib.hid hc6
    clear hen hrun hr' hI1 hcr hca hou hmax hwl hlen hk' hsz
    go_wp2_with (first
      | (at_builtin; refine wpList_append_own_at _ rfl _ _ 73 rfl w.heap.size 114 i0 (.agg #[.int .i64 0, .int .i64 0]) 2 16 Try.underlying73 HI0.out.1 HI0.out.2.1 HI0.out.2.2.1 HI0.out.2.2.2 rfl (by decide) _ _ _ rfl HOU.out ⟨w'.heap.size, 0, none⟩ 1 1 [.int .i64 (k : Int), .int .i64 ((l.length : Int) + 1)] rfl rfl hc2.out hc3.out hc4.out hc5.out hc6.out ?_; intro u' w3 ho3 hg3 hx1 hx2; have HO3 := Lib.hid ho3; have HG3 := Lib.hid hg3; clear ho3 hg3 hx1 hx2))
    have hcu : Chg (fun i => some i = u3.ownBlock) w' w3 := ((Chg.refl _ _).alloc _).trans' (Chg.of_grown HG3.out)
    have hq1 : ¬ some q = u3.ownBlock := fun e => by
      obtain ⟨c1, h1⟩ := own_obj HO.out e.symm
      obtain ⟨es, clock, hb, _⟩ := HR.out.map
      rw [hb] at h1; cases h1
    have hr1 : ¬ some w.heap.size = u3.ownBlock := fun e => by
      obtain ⟨c1, h1⟩ := own_obj HO.out e.symm
      obtain ⟨_, _, _, _, _, _, _, _, _, h5, _⟩ := HR.out
      rw [h5] at h1; cases h1
    have hRn := hR'.out.kept hcu hq1 hr1
    have hkk : k % 4096 = k := Nat.mod_eq_of_lt (by have := HK.out; omega)
    refine ⟨⟨(k : Int) :: done, cnt', hRn, ?_, ?_, List.nodup_cons.2 ⟨hn, HN.out⟩, ?_⟩, ?_⟩
    · rw [waitsIn_cons, List.map_append]
      refine OwnRecs.append ?_ HO.out.each ?_
      · have h1 := HO3.out
        have e : ([(k, (X.L k).length)].map encW).flatten = [.int .i64 (k : Int), .int .i64 ((l.length : Int) + 1)] := by
          simp [encW, hkk, hLk]
        rw [e]
        simpa using h1
      · intro r hr
        simp only [List.map_cons, List.map_nil, List.mem_singleton] at hr
        rw [hr]; rfl
    · exact (HC.out.new HC'.out (fun i e => by omega)).new hcu (fun i e => (HO.out.lt e.symm).1)
    · intro i hi
      rcases List.mem_cons.1 hi with rfl | hi
      · exact ⟨_, hm, rfl⟩
      · exact HIn.out i hi
    · rw [hRn.left_eq, HR.out.left_eq]
      exact hlt

end Go.Proofs.Ytomceindibnpnaa.disks
