/-
  coord: slices.Sort of an own slice of ints; Open with any number of transactions.
-/
import Derived.Test.YtogjjkbgagedpaaCoordM
import Derived.Shelf.SortM.Plain
import Derived.Shelf.SortM.SortNone
import Derived.Shelf.SlGeneric
import Derived.Ground.SlgmProg
import Derived.Lib.SortBridge
namespace Go.Proofs.Ytogjjkbgagedpaa.coords
open Go.RowKit Go.Maps Go.My Go.ChangeMaps Go.Shelf Go.Sort
set_option maxRecDepth 100000

variable {w w' : World} {c q x qa : Nat} {F F' Fc : Nat → Prop} {lim : Int} {m : List (Int × Nat)} {E : EV} {pv : Value}

shelf_lay_g SlLaysM.n5 Slgm 5 at Try 41 as sortI

theorem chg_grow (w : World) (os : Array Obj) : Chg (fun _ => False) w (grow w os) :=
  ⟨rfl, rfl, rfl, by simp [grow], fun k hk _ => heap_grow_old w os hk⟩

theorem sort_ints (w : World) {base : Nat} {v : Value} {zs : List Int} (h : w.ownsRow base 3 1 v zs.length (zs.map (Value.int .i64))) (hn : zs.length ≤ 1000000) :
    Calls Try.prog 41 #[v] w fun e w' => e = .returned (.tuple #[]) ∧ w'.ownsRow base 3 1 v zs.length ((zs.mergeSort fun x y => decide (x ≤ y)).map (Value.int .i64)) ∧ Chg (fun k => some k = v.ownBlock) w w' := by
  rcases h.2 with ⟨rfl, h0⟩ | ⟨g, cap, cur, rfl, h2, h3, h4, h5, h6, h7⟩
  · have h1 : zs = [] := List.eq_nil_of_length_eq_zero h0
    subst h1
    refine (AnyM.slices_Sort_int_none (P := Try.prog) (ρ := sortI_ren) sortI none 0 w).mono ?_
    rintro e w' ⟨rfl, rfl⟩
    exact ⟨rfl, by rw [List.mergeSort_nil]; exact h, Chg.refl _ _⟩
  · have hH : Holds (Value.int .i64) w g 0 zs.toArray := fun j hj => by
      have hj' : j < zs.length := by simpa using hj
      obtain ⟨hx, e1, e2, -⟩ := own_cell h hj'
      rw [Nat.zero_add, e1, List.getElem_map]
      exact ⟨by simp [hj'], e2⟩
    have hg : g < w.heap.size := lt_of_block h3
    refine (AnyM.slices_Sort_int (P := Try.prog) (ρ := sortI_ren) sortI g 0 cap zs w hH hg (by omega)).mono ?_
    rintro e w' ⟨rfl, n, os, rfl⟩
    obtain ⟨ys, hys⟩ : ∃ ys, (zs.mergeSort fun x y => decide (x ≤ y)) = ys := ⟨_, rfl⟩
    have hyl : ys.length = zs.length := by rw [← hys]; exact List.length_mergeSort _
    rw [hys, Lib.sorted_world (Value.int .i64) w g 0 n zs.toArray ys os hH (by rw [hyl, List.size_toArray])]
    have hA : Arr (w.drewN n) g 3 cur.toList := h3
    have hcl : cur.toList.length = cap := by rw [Array.length_toList, h6, Nat.mul_one]
    have hB := arr_setCells (ys.map (Value.int .i64)) 0 (w.drewN n) cur.toList hA (by rw [List.length_map, hcl]; omega)
    have hc1 : Chg (fun k => some k = (Value.slice (some ⟨g, 0, none⟩) zs.length cap).ownBlock) w ((w.drewN n).setCells g 0 (ys.map (Value.int .i64))) := by
      have h1 : Chg (· = g) (w.drewN n) ((w.drewN n).setCells g 0 (ys.map (Value.int .i64))) := chg_setCells g _ 0 _
      exact ⟨h1.os, h1.tape, h1.output, h1.size, fun k hk hne => h1.block k hk (fun e => hne (by rw [e]; rfl))⟩
    rw [List.take_zero, List.nil_append, Nat.zero_add] at hB
    obtain ⟨l', hl'⟩ : ∃ l', ys.map (Value.int .i64) ++ cur.toList.drop (ys.map (Value.int .i64)).length = l' := ⟨_, rfl⟩
    rw [hl'] at hB
    refine ⟨rfl, ⟨by rw [List.length_map, hyl]; omega, Or.inr ⟨g, cap, l'.toArray, rfl, h2, ?_, h4, h5, ?_, ?_⟩⟩, hc1.trans' ((chg_grow _ _).mono (fun _ _ h => h.elim))⟩
    · rw [heap_grow_old _ _ (lt_of_block hB)]
      exact hB
    · rw [List.size_toArray, ← hl', List.length_append, List.length_drop, hcl, List.length_map, hyl]; omega
    · rw [← hl', Nat.mul_one]
      exact List.take_left' (by rw [List.length_map, hyl])

theorem perm_of_nodup : ∀ (l m : List Int), l.Nodup → m.Nodup → (∀ a, a ∈ l ↔ a ∈ m) → l.Perm m
  | [], m, _, _, h => by
    cases m with
    | nil => exact List.Perm.refl _
    | cons a m => exact absurd ((h a).2 (by simp)) (by simp)
  | a :: l, m, hl, hm, h => by
    have ha : a ∈ m := (h a).1 (by simp)
    have h1 := List.perm_cons_erase ha
    refine List.Perm.trans (List.Perm.cons a (perm_of_nodup l (m.erase a) (List.nodup_cons.1 hl).2 (hm.sublist (List.erase_sublist)) (fun b => ?_))) h1.symm
    rw [hm.mem_erase_iff]
    constructor
    · intro hb
      exact ⟨fun e => (List.nodup_cons.1 hl).1 (e ▸ hb), (h b).1 (List.mem_cons_of_mem _ hb)⟩
    · rintro ⟨hne, hb⟩
      rcases List.mem_cons.1 ((h b).2 hb) with e | hb'
      · exact absurd e hne
      · exact hb'

/-- The list ascending. -/
def asc (zs : List Int) : List Int := zs.mergeSort fun x y => decide (x ≤ y)

theorem asc_len (zs : List Int) : (asc zs).length = zs.length := List.length_mergeSort _

theorem asc_perm {l m : List Int} (h : l.Perm m) : asc l = asc m := by
  have hs : ∀ zs : List Int, (asc zs).Pairwise (fun a b => a ≤ b) := fun zs => (List.pairwise_mergeSort (le := fun x y : Int => decide (x ≤ y)) (fun a b c h1 h2 => by simp only [decide_eq_true_eq] at *; omega) (fun a b => by simp only [Bool.or_eq_true, decide_eq_true_eq]; omega) zs).imp (fun h => by simpa using h)
  have hp : (asc l).Perm (asc m) := ((List.mergeSort_perm l _).trans h).trans (List.mergeSort_perm m _).symm
  exact hp.eq_of_pairwise (le := fun a b => a ≤ b) (fun a b _ _ h1 h2 => by omega) (hs l) (hs m)

set_option maxHeartbeats 400000 in
theorem open_any (w : World) (hC : CoIs w c Fc lim m q) (hm : m.length ≤ 1000) :
    Calls Try.prog 17 #[ptrV c] w fun e w' => ∃ v, e = .returned v ∧ w'.ownsRow w.heap.size 3 1 v m.length ((asc (m.map (·.1))).map (Value.int .i64)) ∧ Chg (fun _ => False) w w' := by
  have c1 : w.cell? ⟨c, 1, none⟩ = some (.map (some q)) := cell_of_block hC.head rfl
  obtain ⟨i0, hI0⟩ := info_parts info_int
  have HI0 := Lib.hid hI0
  have HC := Lib.hid hC
  clear hC hI0
  unfold ptrV
  go_enter Try.func17, Try.ntmps17
  go_wp2_with (first
    | (go_at_call 34; refine (none_no _ HC.out).mono ?_; rintro e w1 ⟨rfl, rfl⟩)
    | (at_range; refine wpList_rangeM HC.out.mp rfl _ 71 76 rfl Try.underlying71 rfl ?_; intro w2 cnt hr2 hc2 hs2))
  go_frame
  go_loopw [3] (fun u wr => ∃ done cnt, RngIs iKey ptrV wr q w.heap.size m done cnt ∧ wr.ownsRow w.heap.size 3 1 u done.length (done.reverse.map (Value.int .i64)) ∧ Chg (fun _ => False) w wr ∧ done.Nodup ∧ (∀ i ∈ done, i ∈ m.map (·.1))) (fun _ wr => wr.rangeLeft q w.heap.size)
  · exact ⟨[], cnt, hr2, World.ownsRow_nil _ _ _ _, hc2, List.nodup_nil, by simp⟩
  clear hr2 hc2 hs2
  obtain ⟨done, cnt, hr, ho, hc, hnd, hin⟩ := hrel
  have HR := Lib.hid hr
  have HO := Lib.hid ho
  have HCx := Lib.hid hc
  have HN := Lib.hid hnd
  have HIn := Lib.hid hin
  have hl1 : done.length ≤ 1000 := Nat.le_trans (hnd.length_le_of_subset hin) (by rw [List.length_map]; exact hm)
  clear hr ho hc hnd hin
  rcases HR.out.next 0 with ⟨hall, hrun⟩ | ⟨k, v, w', cnt', hmm, hn, hrun, hr', hlt, hcr, hsz, hen⟩
  · have hnm : (m.map (·.1)).Nodup := HC.out.mp.nodup
    have hp : done.reverse.Perm (m.map (·.1)) := perm_of_nodup _ _ (List.pairwise_reverse.2 (List.Pairwise.imp (fun h => Ne.symm h) HN.out)) hnm (fun a => by
      rw [List.mem_reverse]
      refine ⟨HIn.out a, fun ha => ?_⟩
      obtain ⟨p, hp, rfl⟩ := List.mem_map.1 ha
      exact hall p hp)
    have hlen : done.length = m.length := by have := hp.length_eq; simpa using this
    have HP := Lib.hid hp
    have HLen := Lib.hid hlen
    have hs := sort_ints wr (zs := done.reverse) (by rw [List.length_reverse]; exact HO.out) (by rw [List.length_reverse]; omega)
    rw [List.length_reverse] at hs
    have HS := Lib.hid hs
    clear hall hp hlen hnm hs
    go_wp2_with (go_at_call 41; refine HS.out.mono ?_; rintro e w1 ⟨rfl, ho1, hc1⟩; have HO1 := Lib.hid ho1; have HC1 := Lib.hid hc1; clear ho1 hc1)
    go_ret
    refine ⟨_, rfl, ?_, HCx.out.new HC1.out (fun k e => (HO.out.lt k e.symm).1)⟩
    have h1 := HO1.out
    rw [show done.reverse.mergeSort (fun x y => decide (x ≤ y)) = asc (m.map (·.1)) from asc_perm HP.out, HLen.out] at h1
    exact h1
  · have hen' : (Instr.entry (.pointer (some ⟨w.heap.size, 0, none⟩))).run Try.prog w' = .ok (.tuple #[.int .i64 k, ptrV v]) w' := hen
    have hrun' : (Instr.next (.pointer (some ⟨w.heap.size, 0, none⟩)) false 0).run Try.prog wr = .ok (.tuple #[.bool true, .int .i64 k, ptrV v]) w' := hrun
    have hR' := Lib.hid hr'
    have HC' := Lib.hid hcr
    have hou := row_kept HO.out HC'.out (fun j hj e => by
      obtain ⟨c1, h1⟩ := row_obj HO.out hj
      obtain ⟨_, _, _, _, _, _, _, _, _, h5, _⟩ := HR.out
      rw [show j = w.heap.size from e, h5] at h1
      cases h1)
    have hca := (Chg.refl (fun _ => False) w').alloc (.cells #[.int .i64 k] 3)
    have HOU := Lib.hid (row_kept hou hca (fun _ _ h => h))
    have HSz := Lib.hid hsz
    have HK := Lib.hid (show k ∈ m.map (·.1) from List.mem_map.2 ⟨_, hmm, rfl⟩)
    clear hen hrun hr' hcr hou hmm
    have hc6 : w.heap.size ≤ (w'.alloc (.cells #[.int .i64 k] 3)).heap.size := by simp only [World.size_alloc]; rw [hsz]; have := HCx.out.size; omega
    have HCa := Lib.hid hca
    have HC6 := Lib.hid hc6
    clear hca hc6 hsz
    go_wp2_with (first
      | (at_builtin; refine wpList_append_own_at _ rfl _ _ 41 rfl w.heap.size 3 i0 (.int .i64 0) 1 8 Try.underlying41 HI0.out.1 HI0.out.2.1 HI0.out.2.2.1 HI0.out.2.2.2 rfl (by decide) _ done.length _ rfl HOU.out ⟨w'.heap.size, 0, none⟩ 1 1 [.int .i64 k] rfl rfl (cells_new w' [.int .i64 k] _) (by intro x hx; rw [List.mem_singleton.1 hx]; rfl) (by unfold maxLen; omega) (by omega) HC6.out ?_; intro u' w3 ho3 hg3 hx1 hx2; have HO3 := Lib.hid ho3; have HG3 := Lib.hid hg3; clear ho3 hg3 hx1 hx2))
    have hcu : Chg (fun i => some i = u3.ownBlock) w' w3 := ((Chg.refl _ _).alloc _).trans' (Chg.of_grown HG3.out)
    have hq1 : ¬ some q = u3.ownBlock := fun e => by
      obtain ⟨c1, h1⟩ := row_obj HO.out e.symm
      obtain ⟨es, clock, hb, _⟩ := HR.out.map
      rw [hb] at h1; cases h1
    have hr1 : ¬ some w.heap.size = u3.ownBlock := fun e => by
      obtain ⟨c1, h1⟩ := row_obj HO.out e.symm
      obtain ⟨_, _, _, _, _, _, _, _, _, h5, _⟩ := HR.out
      rw [h5] at h1; cases h1
    have hRn := hR'.out.kept hcu hq1 hr1
    refine ⟨⟨k :: done, cnt', hRn, ?_, ?_, List.nodup_cons.2 ⟨hn, HN.out⟩, ?_⟩, ?_⟩
    · rw [List.reverse_cons, List.map_append]
      exact HO3.out
    · exact (HCx.out.new HC'.out (fun i e => by omega)).new hcu (fun i e => (HO.out.lt i e.symm).1)
    · intro i hi
      rcases List.mem_cons.1 hi with rfl | hi
      · exact HK.out
      · exact HIn.out i hi
    · rw [hRn.left_eq, HR.out.left_eq]
      exact hlt

end Go.Proofs.Ytogjjkbgagedpaa.coords
