/-
  disk: Read.
-/
import Derived.Test.YtomceindibnpnaaDiskWrite
import Derived.Deep.WholeRow
namespace Go.Proofs.Ytomceindibnpnaa.disks
open Go.RowKit Go.Maps Go.My
set_option maxRecDepth 100000

variable {w w' : World} {d q : Nat} {F F' : Nat → Prop} {X X' : DV} {bv : Value} {m : List (Int × (Value × List Blk))}

theorem info_u8' : (Try.prog.info? 5).map (fun i => (i.zero, i.size, i.bytes)) = some (some (.int .u8 0), 1, 1) := by kernel_rfl
theorem info_block : (Try.prog.info? 112).map (fun i => (i.zero, i.size, i.bytes)) = some (some (.agg (Array.replicate 64 (.int .u8 0))), 64, 64) := by kernel_rfl
theorem size_block : (Try.prog.info? 112).map (·.size) = some 64 := by kernel_rfl
theorem zero_blocks (w : World) : (zeroValue 91).run Try.prog w = .ok (.slice none 0 0) w := by kernel_rfl

theorem one_cellsB (b : Blk) : ∀ v ∈ cellsB b, v.oneCell' = true := by
  intro v hv
  simp only [cellsB, List.mem_map] at hv
  obtain ⟨x, _, rfl⟩ := hv
  rfl

def DV.cur (X : DV) (i : Nat) : Blk := ((X.L i).getLast?).getD (X.B[i]?.getD [])

theorem DiskIs.wide64 (h : DiskIs w d F X bv q m) : ∀ b ∈ X.B, b.length = 64 := fun b hb => by
  have := h.rows.each (cellsB b) (List.mem_map_of_mem hb)
  rwa [cellsB_length] at this

theorem rows_range {v : Value} {l : List Blk} (h : OwnRecs w 0 112 64 v (l.map cellsB)) {k : Nat} (hk : k < l.length) :
    ∃ g cap, v = .slice (some ⟨g, 0, none⟩) l.length cap ∧ g < w.heap.size ∧ w.rangeAt g (k * 64) (cellsB l[k]) ∧ (∀ j, w.frozen? ⟨g, j, none⟩ = false) := by
  obtain ⟨g, cap, h1, _, _, h2, h3, h4⟩ := h.cell (k := k) (by simpa using hk)
  exact ⟨g, cap, by simpa using h1, h2, fun j x hx => h3 j x (by simpa using hx), h4⟩

/-- What the map answers. -/
theorem DiskIs.looked (h : DiskIs w d F X bv q m) (i : Nat) : ∃ v, lookRes false (.slice none 0 0) Prod.fst (mget m (i : Int)) = v ∧ OwnRecs w 0 112 64 v ((X.L i).map cellsB) := by
  rw [h.waits i]
  cases hm : mget m (i : Int) with
  | none => exact ⟨_, rfl, OwnRecs.nil _ _ _ _⟩
  | some p =>
    have hp : ((i : Int), p) ∈ m := by
      unfold mget at hm
      simp only [Option.map_eq_some_iff] at hm
      obtain ⟨r, h1, rfl⟩ := hm
      have h2 := List.find?_some h1
      simp only [decide_eq_true_eq] at h2
      rw [← h2]
      exact List.mem_of_find?_eq_some h1
    exact ⟨_, rfl, (h.lists _ hp).1⟩

theorem own_empty (w : World) (A : Obj) : ((w.alloc A).alloc (.cells #[] 5)).ownsRow w.heap.size 5 1 (.slice (some ⟨w.heap.size + 1, 0, none⟩) 0 0) 0 [] := by
  have := World.ownsRow_lit (base := w.heap.size) (e := 5) (size := 1) (w.alloc A) #[] 0 (by simp) (by unfold maxLen; omega) rfl
  simpa using this

theorem cells_there (w : World) (l : Blk) (t : TypeId) (B : Obj) : ∀ j u, (cellsB l)[j]? = some u → ((w.alloc (.cells (cellsB l).toArray t)).alloc B).cell? ((⟨w.heap.size, 0, none⟩ : Addr).add j) = some u := by
  intro j u hu
  have h1 := cells_new w (cellsB l) t j u hu
  exact ((Chg.refl (fun _ => False) (w.alloc (.cells (cellsB l).toArray t))).alloc B).cell h1 id

set_option maxHeartbeats 4000000 in
theorem read_any (w : World) (h : DiskIs w d F X bv q m) (i : Int) (hi : inR i) :
    Calls Try.prog 35 #[.pointer (some ⟨d, 0, none⟩), .int .i64 i] w fun e w' => ∃ v, e = .returned (.tuple #[v, .int .i64 (askedC X i)]) ∧
      w'.ownsRow w.heap.size 5 1 v (if askedC X i = 0 then 64 else 0) (cellsB (if askedC X i = 0 then X.cur i.toNat else [])) ∧ Chg (fun _ => False) w w' := by
  obtain ⟨i0, hI0⟩ := info_parts info_u8'
  have HI0 := Lib.hid hI0
  clear hI0
  by_cases ha : askedC X i = 0
  · obtain ⟨k, rfl, hk⟩ : ∃ k : Nat, i = (k : Int) ∧ k < X.B.length := by
      unfold askedC at ha
      split at ha
      · omega
      · split at ha
        · exact ⟨i.toNat, by omega, by omega⟩
        · omega
    rw [if_pos ha, if_pos ha, ha]
    obtain ⟨g, cap, rfl, hg, hr, -⟩ := rows_range h.rows hk
    have c0 : w.cell? ⟨d, 0, none⟩ = some (.slice (some ⟨g, 0, none⟩) X.B.length cap) := cell_of_block h.head rfl
    have c1 : w.cell? ⟨d, 1, none⟩ = some (.map (some q)) := cell_of_block h.head rfl
    have hbs : (cellsB X.B[k]).toArray.size = 64 := by rw [List.size_toArray, cellsB_length, h.wide64 _ (List.getElem_mem _)]
    have Hbs := Lib.hid hbs
    clear hbs
    have b1 : ∀ c, (w.alloc (.cells c 112)).cell? ⟨d, 1, none⟩ = some (.map (some q)) := fun c => ((Chg.refl (fun _ => False) w).alloc _).cell c1 id
    obtain ⟨u, hu, hou⟩ := h.looked k
    have H := Lib.hid h
    have HR := Lib.hid hr
    have hk' : (k : Int) < (X.B.length : Int) := by omega
    have Hu := Lib.hid hu
    clear h hr hu
    rcases List.eq_nil_or_concat (X.L k) with hL | ⟨l, b, hL⟩
    · have hcur : X.cur k = X.B[k] := by simp [DV.cur, hL, hk]
      rw [hL] at hou
      obtain ⟨oa, cap', rfl, -⟩ := hou.slice
      clear hou
      go_enter Try.func35, Try.ntmps35
      go_wp2_with (first
        | (go_at_call 61; refine (asked_any _ ⟨_, _, _, H.out⟩ _).mono ?_; rw [ha]; rintro e w' ⟨rfl, rfl⟩)
        | (refine wpList_load_mid rfl 112 _ rfl g (k * 64) rfl (cellsB X.B[k]) _ HR.out Try.underlying112 rfl (by rw [size_block, cellsB_length, H.out.wide64 _ (List.getElem_mem _)]) ?_)
        | (refine wpList_store_new rfl 112 _ _ rfl (cellsB X.B[k]).toArray rfl rfl (size_block.trans (by rw [Hbs.out])) (by rw [Hbs.out] <;> rfl) (all_oneCell_toArray (one_cellsB _)) ?_)
        | (at_lookup; refine wpList_look (H.out.kept ((Chg.refl (fun _ => False) w).alloc _) (fun _ _ h => h)).wmap rfl _ _ _ _ rfl _ Try.underlying92 (zero_blocks _) rfl (k : Int) rfl (inR_wf hi) Hu.out ?_)
        | (at_builtin; refine wpList_append_own_at _ rfl _ _ 68 rfl w.heap.size 5 i0 (.int .u8 0) 1 1 Try.underlying68 HI0.out.1 HI0.out.2.1 HI0.out.2.2.1 HI0.out.2.2.2 rfl (by decide) _ _ _ rfl (own_empty _ _) ⟨w.heap.size, 0, none⟩ 64 64 (cellsB X.B[k]) rfl ?c1 ?c2 ?c3 ?c4 ?c5 ?c6 ?_))
      case c1 => rw [cellsB_length, H.out.wide64 _ (List.getElem_mem _)]
      case c2 => exact cells_there _ _ _ _
      case c3 => exact one_cellsB _
      case c4 => unfold maxLen; omega
      case c5 => omega
      case c6 => simp only [World.size_alloc]; omega
      intro v' w2 ho hg _ _
      go_wp2_with fail
      go_ret2
      refine ⟨v', rfl, ?_, ?_⟩
      · rw [Int.toNat_natCast, hcur]; exact ho
      · exact (((Chg.refl _ _).alloc _).alloc _).trans (Chg.of_grown hg) (fun i hi hk => by simp [Value.ownBlock] at hk; omega)
    · have hcur : X.cur k = b := by simp [DV.cur, hL, List.concat_eq_append]
      rw [hL, List.concat_eq_append] at hou
      have hb : b.length = 64 := by
        have := hou.each (cellsB b) (by simp)
        rwa [cellsB_length] at this
      have hlw : wrap64 (l.length : Int) = (l.length : Int) := by
        obtain ⟨_, _, _, h1, h2⟩ := hou.slice
        unfold maxLen at h2
        simp only [List.length_map, List.length_append, List.length_cons, List.length_nil] at h1
        exact IntWalk.wrap64_in _ (by omega)
      obtain ⟨g2, cap2, rfl, hg2, hr2, -⟩ := rows_range hou (k := l.length) (by simp)
      have hr3 : (w.rangeAt g2 (l.length * 64) (cellsB b)) := by simpa using hr2
      have hr4 : ∀ c, (w.alloc (.cells c 112)).rangeAt g2 (l.length * 64) (cellsB b) := fun c j x hx => ((Chg.refl (fun _ => False) w).alloc _).cell (hr3 j x hx) id
      have HR2 := Lib.hid hr4
      have hbs2 : (cellsB b).toArray.size = 64 := by rw [List.size_toArray, cellsB_length, hb]
      have Hbs2 := Lib.hid hbs2
      have Hb := Lib.hid hb
      simp only [List.length_append, List.length_cons, List.length_nil, Nat.zero_add] at Hu
      clear hou hr2 hr3 hr4 hbs2 hb
      go_enter Try.func35, Try.ntmps35
      go_wp2_with (first
        | (go_at_call 61; refine (asked_any _ ⟨_, _, _, H.out⟩ _).mono ?_; rw [ha]; rintro e w' ⟨rfl, rfl⟩)
        | (refine wpList_load_mid rfl 112 _ rfl g (k * 64) rfl (cellsB X.B[k]) _ HR.out Try.underlying112 rfl (by rw [size_block, cellsB_length, H.out.wide64 _ (List.getElem_mem _)]) ?_)
        | (refine wpList_load_mid rfl 112 _ rfl g2 (l.length * 64) rfl (cellsB b) _ (HR2.out _) Try.underlying112 rfl (by rw [size_block, cellsB_length, Hb.out]) ?_)
        | (refine wpList_store_new rfl 112 _ _ rfl (cellsB X.B[k]).toArray rfl rfl (size_block.trans (by rw [Hbs.out])) (by rw [Hbs.out] <;> rfl) (all_oneCell_toArray (one_cellsB _)) ?_)
        | (refine wpList_store_new rfl 112 _ _ rfl (cellsB b).toArray rfl rfl (size_block.trans (by rw [Hbs2.out])) (Hbs.out.trans Hbs2.out.symm) (all_oneCell_toArray (one_cellsB _)) ?_)
        | (at_lookup; refine wpList_look (H.out.kept ((Chg.refl (fun _ => False) w).alloc _) (fun _ _ h => h)).wmap rfl _ _ _ _ rfl _ Try.underlying92 (zero_blocks _) rfl (k : Int) rfl (inR_wf hi) Hu.out ?_)
        | (at_builtin; refine wpList_append_own_at _ rfl _ _ 68 rfl w.heap.size 5 i0 (.int .u8 0) 1 1 Try.underlying68 HI0.out.1 HI0.out.2.1 HI0.out.2.2.1 HI0.out.2.2.2 rfl (by decide) _ _ _ rfl (own_empty _ _) ⟨w.heap.size, 0, none⟩ 64 64 (cellsB b) rfl ?c1 ?c2 ?c3 ?c4 ?c5 ?c6 ?_))
      case c1 => rw [cellsB_length, Hb.out]
      case c2 => exact cells_there _ _ _ _
      case c3 => exact one_cellsB _
      case c4 => unfold maxLen; omega
      case c5 => omega
      case c6 => simp only [World.size_alloc]; omega
      intro v' w2 ho hg _ _
      go_wp2_with fail
      go_ret2
      refine ⟨v', rfl, ?_, ?_⟩
      · rw [Int.toNat_natCast, hcur]; exact ho
      · exact (((Chg.refl _ _).alloc _).alloc _).trans (Chg.of_grown hg) (fun i hi hk => by simp [Value.ownBlock] at hk; omega)
  · rw [if_neg ha, if_neg ha]
    have Ha := Lib.hid ha
    have H := Lib.hid h
    have hne : (askedC X i != 0) = true := by simpa using ha
    clear h ha
    go_enter Try.func35, Try.ntmps35
    go_wp2_with (go_at_call 61; refine (asked_any _ ⟨_, _, _, H.out⟩ _).mono ?_; rintro e w' ⟨rfl, rfl⟩)
    go_ret2
    exact ⟨_, rfl, World.ownsRow_nil _ _ _ _, Chg.refl _ _⟩

end Go.Proofs.Ytomceindibnpnaa.disks
