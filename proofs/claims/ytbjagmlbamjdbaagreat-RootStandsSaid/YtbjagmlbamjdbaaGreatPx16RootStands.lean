/-
  rootdb: packages in memory of their own; numbers cloned and looked for.
-/
import Derived.Test.YtbjagmlbamjdbaaGreatPx1RootStands
import Derived.Test.YtbjagmlbamjdbaaGreatPx13RootStands
import Derived.Test.YtbjagmlbamjdbaaGreatPx15RootStands
import Derived.WalkLawsBesides
import Derived.Maps.AppendAt
import Derived.Laws.OwnMore
import Derived.Deep.WholeRow
import Derived.Deep.RegionHeld3
import Derived.Lib.SlBytesConst

section
set_option linter.unusedSimpArgs false
set_option linter.unusedVariables false
namespace Go.Proofs.YtbjagmlbamjdbaaGreat.roots
open Go.RowKit Go.Maps Go.My Go.ChangeMaps disks bufs wals kvs
set_option maxRecDepth 100000

variable {w w' : World}

theorem own_no (w : World) (e : TypeId) (n : Nat) : (w.alloc (.cells #[] e)).ownsRow w.heap.size e n (.slice (some ⟨w.heap.size, 0, none⟩) 0 0) 0 [] := by
  have := World.ownsRow_lit (base := w.heap.size) (e := e) (size := n) w #[] 0 (by simp) (by unfold maxLen; omega) (by simp)
  simpa using this

theorem info_pack : (Tryz.prog.info? 90).map (fun i => (i.zero, i.size, i.bytes)) = some (some (.agg #[.int .i64 0, .string ByteArray.empty, .string ByteArray.empty, .slice none 0 0]), 4, 64) := by kernel_rfl
theorem info_ref : (Tryz.prog.info? 98).map (fun i => (i.zero, i.size, i.bytes)) = some (some (.agg (List.replicate 32 (Value.int .u8 0) ++ [Value.int .i64 0]).toArray), 33, 40) := by kernel_rfl
theorem info_num : (Tryz.prog.info? 3).map (fun i => (i.zero, i.size, i.bytes)) = some (some (.int .i64 0), 1, 8) := by kernel_rfl

theorem rows_flat {n : Nat} {oa : Option Addr} {l : List (List Value)} (h : RowsAt w n oa l) (hn : 0 < n) {a : Addr} (ha : oa = some a) : ∀ j u, l.flatten[j]? = some u → w.cell? (a.add j) = some u := by
  intro j u hu
  have hr : ∀ r ∈ l, r.length = n := fun r hr => by obtain ⟨i, hi⟩ := List.getElem?_of_mem hr; exact h.row i r hi
  have hlen := flat_length n l hr
  have hj : j < l.length * n := by rw [← hlen]; exact (List.getElem?_eq_some_iff.1 hu).1
  have hne : l ≠ [] := by intro e; subst e; simp at hj
  obtain ⟨b, off, e⟩ := h.spot hne
  rw [e] at ha
  cases ha
  have hd : j = (j / n) * n + j % n := by have := Nat.div_add_mod j n; rw [Nat.mul_comm] at this; omega
  have hjn := Nat.mod_lt j hn
  rw [hd, flat_get n l hr (j / n) (j % n) hjn] at hu
  cases hk : l[j / n]? with
  | none => rw [hk] at hu; simp at hu
  | some r =>
    rw [hk, Option.bind_some] at hu
    have := h.cell b off e (j / n) r (j % n) u hk hu
    rw [show off + j / n * n + j % n = off + j from by omega] at this
    rw [show (⟨b, off, none⟩ : Addr).add j = ⟨b, off + j, none⟩ from by unfold Addr.add; by_cases e1 : j = 0 <;> simp [e1]]
    exact this

set_option maxHeartbeats 1000000 in
theorem clone_packs (w : World) (oa : Option Addr) (cap : Nat) (l : List (List Value)) (h : RowsAt w 4 oa l) (h1 : ∀ x ∈ l.flatten, x.oneCell' = true) (hl : l.length ≤ 20) :
    Calls Tryz.prog 89 #[.slice oa l.length cap] w fun e w' => ∃ v, e = .returned v ∧ OwnRecs w' w.heap.size 90 4 v l ∧ Chg (fun _ => False) w w' := by
  obtain ⟨i0, hI0⟩ := info_parts info_pack
  have HI0 := Lib.hid hI0
  have hnil := fun w' => run_eql_slice_nil (P := Tryz.prog) w' 22 _ oa l.length cap Tryz.underlying22
  have heach : ∀ r ∈ l, r.length = 4 := fun r hr => by obtain ⟨i, hi⟩ := List.getElem?_of_mem hr; exact h.row i r hi
  have H := Lib.hid h
  have HE := Lib.hid heach
  have H1 := Lib.hid h1
  clear h hI0 heach h1
  cases oa with
  | none =>
    have hl0 : l = [] := by
      cases l with
      | nil => rfl
      | cons a l => obtain ⟨b, off, e⟩ := H.out.spot (by simp); cases e
    subst hl0
    clear hnil
    have hnil := fun w' => run_eql_slice_nil (P := Tryz.prog) w' 22 _ none 0 cap Tryz.underlying22
    show Calls Tryz.prog 89 #[.slice none 0 cap] w _
    go_enter Tryz.func89, Tryz.ntmps89
    go_wp2_with fail
    go_ret
    exact ⟨_, rfl, OwnRecs.nil _ _ _ _, Chg.refl _ _⟩
  | some a =>
    have hcells : ∀ j u, l.flatten[j]? = some u → (w.alloc (.cells #[] 90)).cell? (a.add j) = some u := fun j u hu => ((Chg.refl (fun _ => False) w).alloc _).cell (rows_flat H.out (by omega) rfl j u hu) id
    have HCells := Lib.hid hcells
    have HFl := Lib.hid (flat_length 4 l HE.out)
    clear hcells
    go_enter Tryz.func89, Tryz.ntmps89
    go_wp2_with (first
      | (at_builtin; (refine wpList_append_own_at _ rfl _ _ 22 rfl w.heap.size 90 i0 (.agg #[.int .i64 0, .string ByteArray.empty, .string ByteArray.empty, .slice none 0 0]) 4 64 Tryz.underlying22 HI0.out.1 HI0.out.2.1 HI0.out.2.2.1 HI0.out.2.2.2 rfl (by decide) _ _ _ rfl (own_no w _ _) a l.length cap l.flatten rfl HFl.out HCells.out H1.out (by unfold maxLen; omega) (by omega) (by simp only [World.size_alloc]; omega) ?_)))
    intro v' w2 ho hg _ _
    have HO := Lib.hid ho
    have HG := Lib.hid hg
    clear ho hg
    go_wp2_with fail
    go_ret
    refine ⟨_, rfl, ⟨by simpa using HO.out, HE.out⟩, ?_⟩
    exact ((Chg.refl _ _).alloc _).trans (Chg.of_grown HG.out) (fun i hi hk => by simp [Value.ownBlock] at hk; omega)

set_option maxHeartbeats 1000000 in
theorem clone_refs (w : World) (oa : Option Addr) (cap : Nat) (l : List (List Value)) (h : RowsAt w 33 oa l) (h1 : ∀ x ∈ l.flatten, x.oneCell' = true) (hl : l.length ≤ 20) :
    Calls Tryz.prog 90 #[.slice oa l.length cap] w fun e w' => ∃ v, e = .returned v ∧ OwnRecs w' w.heap.size 98 33 v l ∧ Chg (fun _ => False) w w' := by
  obtain ⟨i0, hI0⟩ := info_parts info_ref
  have HI0 := Lib.hid hI0
  have hnil := fun w' => run_eql_slice_nil (P := Tryz.prog) w' 86 _ oa l.length cap Tryz.underlying86
  have heach : ∀ r ∈ l, r.length = 33 := fun r hr => by obtain ⟨i, hi⟩ := List.getElem?_of_mem hr; exact h.row i r hi
  have H := Lib.hid h
  have HE := Lib.hid heach
  have H1 := Lib.hid h1
  clear h hI0 heach h1
  cases oa with
  | none =>
    have hl0 : l = [] := by
      cases l with
      | nil => rfl
      | cons a l => obtain ⟨b, off, e⟩ := H.out.spot (by simp); cases e
    subst hl0
    clear hnil
    have hnil := fun w' => run_eql_slice_nil (P := Tryz.prog) w' 86 _ none 0 cap Tryz.underlying86
    show Calls Tryz.prog 90 #[.slice none 0 cap] w _
    go_enter Tryz.func90, Tryz.ntmps90
    go_wp2_with fail
    go_ret
    exact ⟨_, rfl, OwnRecs.nil _ _ _ _, Chg.refl _ _⟩
  | some a =>
    have hcells : ∀ j u, l.flatten[j]? = some u → (w.alloc (.cells #[] 98)).cell? (a.add j) = some u := fun j u hu => ((Chg.refl (fun _ => False) w).alloc _).cell (rows_flat H.out (by omega) rfl j u hu) id
    have HCells := Lib.hid hcells
    have HFl := Lib.hid (flat_length 33 l HE.out)
    clear hcells
    go_enter Tryz.func90, Tryz.ntmps90
    go_wp2_with (first
      | (at_builtin; (refine wpList_append_own_at _ rfl _ _ 86 rfl w.heap.size 98 i0 (.agg (List.replicate 32 (Value.int .u8 0) ++ [Value.int .i64 0]).toArray) 33 40 Tryz.underlying86 HI0.out.1 HI0.out.2.1 HI0.out.2.2.1 HI0.out.2.2.2 rfl (by decide) _ _ _ rfl (own_no w _ _) a l.length cap l.flatten rfl HFl.out HCells.out H1.out (by unfold maxLen; omega) (by omega) (by simp only [World.size_alloc]; omega) ?_)))
    intro v' w2 ho hg _ _
    have HO := Lib.hid ho
    have HG := Lib.hid hg
    clear ho hg
    go_wp2_with fail
    go_ret
    refine ⟨_, rfl, ⟨by simpa using HO.out, HE.out⟩, ?_⟩
    exact ((Chg.refl _ _).alloc _).trans (Chg.of_grown HG.out) (fun i hi hk => by simp [Value.ownBlock] at hk; omega)

set_option maxHeartbeats 1000000 in
theorem clone_ints (w : World) (oa : Option Addr) (cap : Nat) (l : List (List Value)) (h : RowsAt w 1 oa l) (h1 : ∀ x ∈ l.flatten, x.oneCell' = true) (hl : l.length ≤ 1000) :
    Calls Tryz.prog 55 #[.slice oa l.length cap] w fun e w' => ∃ v, e = .returned v ∧ OwnRecs w' w.heap.size 3 1 v l ∧ Chg (fun _ => False) w w' := by
  obtain ⟨i0, hI0⟩ := info_parts info_num
  have HI0 := Lib.hid hI0
  have hnil := fun w' => run_eql_slice_nil (P := Tryz.prog) w' 35 _ oa l.length cap Tryz.underlying35
  have heach : ∀ r ∈ l, r.length = 1 := fun r hr => by obtain ⟨i, hi⟩ := List.getElem?_of_mem hr; exact h.row i r hi
  have H := Lib.hid h
  have HE := Lib.hid heach
  have H1 := Lib.hid h1
  clear h hI0 heach h1
  cases oa with
  | none =>
    have hl0 : l = [] := by
      cases l with
      | nil => rfl
      | cons a l => obtain ⟨b, off, e⟩ := H.out.spot (by simp); cases e
    subst hl0
    clear hnil
    have hnil := fun w' => run_eql_slice_nil (P := Tryz.prog) w' 35 _ none 0 cap Tryz.underlying35
    show Calls Tryz.prog 55 #[.slice none 0 cap] w _
    go_enter Tryz.func55, Tryz.ntmps55
    go_wp2_with fail
    go_ret
    exact ⟨_, rfl, OwnRecs.nil _ _ _ _, Chg.refl _ _⟩
  | some a =>
    have hcells : ∀ j u, l.flatten[j]? = some u → (w.alloc (.cells #[] 3)).cell? (a.add j) = some u := fun j u hu => ((Chg.refl (fun _ => False) w).alloc _).cell (rows_flat H.out (by omega) rfl j u hu) id
    have HCells := Lib.hid hcells
    have HFl := Lib.hid (flat_length 1 l HE.out)
    clear hcells
    go_enter Tryz.func55, Tryz.ntmps55
    go_wp2_with (first
      | (at_builtin; (refine wpList_append_own_at _ rfl _ _ 35 rfl w.heap.size 3 i0 (.int .i64 0) 1 8 Tryz.underlying35 HI0.out.1 HI0.out.2.1 HI0.out.2.2.1 HI0.out.2.2.2 rfl (by decide) _ _ _ rfl (own_no w _ _) a l.length cap l.flatten rfl HFl.out HCells.out H1.out (by unfold maxLen; omega) (by omega) (by simp only [World.size_alloc]; omega) ?_)))
    intro v' w2 ho hg _ _
    have HO := Lib.hid ho
    have HG := Lib.hid hg
    clear ho hg
    go_wp2_with fail
    go_ret
    refine ⟨_, rfl, ⟨by simpa using HO.out, HE.out⟩, ?_⟩
    exact ((Chg.refl _ _).alloc _).trans (Chg.of_grown HG.out) (fun i hi hk => by simp [Value.ownBlock] at hk; omega)

theorem one_rf (l : List Rf) : ∀ x ∈ (l.map rfC).flatten, x.oneCell' = true := by
  intro x hx
  obtain ⟨r, hr, hxr⟩ := List.mem_flatten.1 hx
  obtain ⟨y, -, rfl⟩ := List.mem_map.1 hr
  simp only [rfC, cellsB, List.mem_append, List.mem_map, List.mem_singleton] at hxr
  rcases hxr with ⟨z, -, rfl⟩ | rfl <;> rfl
theorem zip_get {l : List Pk} {lv : List Value} {k : Nat} {r : List Value} (h : (List.zipWith pkC l lv)[k]? = some r) : ∃ p u, l[k]? = some p ∧ lv[k]? = some u ∧ r = pkC p u := by
  rw [List.getElem?_zipWith] at h
  cases hp : l[k]? with
  | none => rw [hp] at h; simp at h
  | some p =>
    cases hu : lv[k]? with
    | none => rw [hp, hu] at h; simp at h
    | some u => rw [hp, hu] at h; exact ⟨p, u, rfl, rfl, (Option.some.inj h).symm⟩
theorem one_pk {l : List Pk} {lv : List Value} (h : ∀ u ∈ lv, u.oneCell' = true) : ∀ x ∈ (List.zipWith pkC l lv).flatten, x.oneCell' = true := by
  intro x hx
  obtain ⟨r, hr, hxr⟩ := List.mem_flatten.1 hx
  obtain ⟨k, hk⟩ := List.getElem?_of_mem hr
  obtain ⟨p, u, -, hu, rfl⟩ := zip_get hk
  simp only [pkC, List.mem_cons, List.not_mem_nil, or_false] at hxr
  rcases hxr with rfl | rfl | rfl | rfl
  · rfl
  · rfl
  · rfl
  · exact h _ (List.mem_of_getElem? hu)
theorem zip_set {l : List Pk} {lv : List Value} {k : Nat} {v : Value} (hk : k < lv.length) : (List.zipWith pkC l lv).modify k (fun r => r.set 3 v) = List.zipWith pkC l (lv.set k v) := by
  apply List.ext_getElem?
  intro i
  rw [List.getElem?_modify, List.getElem?_zipWith, List.getElem?_zipWith, List.getElem?_set]
  by_cases hi : k = i
  · subst hi
    simp only [if_true, if_pos hk]
    rw [List.getElem?_eq_getElem hk]
    cases l[k]? <;> simp [pkC]
  · simp only [if_neg hi]
    cases l[i]? <;> cases lv[i]? <;> simp

theorem rows_of_own {base : Nat} {e : TypeId} {n m cap : Nat} {oa : Option Addr} {l : List (List Value)} (h : OwnRecs w base e n (.slice oa m cap) l) : RowsAt w n oa l := by
  refine ⟨fun hne => ?_, fun i r hr => h.each r (List.mem_of_getElem? hr), fun b off ho i r j v hi hj => ?_⟩
  · obtain ⟨g, e1, -⟩ := h.cell' (k := 0) (List.length_pos_iff.2 hne)
    exact ⟨g, 0, e1⟩
  · have hlt := (List.getElem?_eq_some_iff.1 hi).1
    obtain ⟨g, e1, -, -, hc, -⟩ := h.cell' (k := i) hlt
    rw [ho] at e1
    cases e1
    rw [List.getElem?_eq_getElem hlt] at hi
    cases hi
    rw [Nat.zero_add]
    exact hc j v hj
theorem in_of_own {base : Nat} {e : TypeId} {n m cap k : Nat} {oa : Option Addr} {l : List (List Value)} (h : OwnRecs w base e n (.slice oa m cap) l) (hk : l.length = k) {F : Nat → Prop} (hF : ∀ b, base ≤ b → b < w.heap.size → F b) : InF F oa k := by
  intro hne b off ho
  obtain ⟨g, e1, h1, h2, -⟩ := h.cell' (k := 0) (by omega)
  rw [ho] at e1
  cases e1
  exact hF _ h1 h2
theorem PksAt.ones {F : Nat → Prop} {l : List Pk} {lv : List Value} (hlv : lv.length = l.length) (h : ∀ (i : Nat) (p : Pk) (u : Value), l[i]? = some p → lv[i]? = some u → LysAt w F u p.man.layers) : ∀ u ∈ lv, u.oneCell' = true := by
  intro u hu
  obtain ⟨i, hi⟩ := List.getElem?_of_mem hu
  have hlt := (List.getElem?_eq_some_iff.1 hi).1
  obtain ⟨oa, cap, rfl, -⟩ := (h i _ u (List.getElem?_eq_getElem (by omega)) hi).is
  rfl

set_option maxHeartbeats 1000000 in
theorem twin_is (w : World) {F : Nat → Prop} {v : Value} {l : List Pk} (h : PksAt w F v l) (hl : l.length ≤ 20) (hll : ∀ p ∈ l, p.man.layers.length ≤ 20) :
    Calls Tryz.prog 48 #[v] w fun e w' => ∃ v', e = .returned v' ∧ PksAt w' (fun b => w.heap.size ≤ b ∧ b < w'.heap.size) v' l ∧ Chg (fun _ => False) w w' := by
  obtain ⟨oa, cap, lv, rfl, hlv, hr, -, hly, -, -⟩ := h.is
  have hzl : (List.zipWith pkC l lv).length = l.length := by rw [List.length_zipWith]; omega
  have HTx := Lib.hid h.txt
  have HR := Lib.hid hr
  have HLy := Lib.hid hly
  have HLL := Lib.hid hll
  have HCp := Lib.hid (clone_packs w oa cap _ hr (one_pk (PksAt.ones hlv hly)) (by omega))
  rw [hzl] at HCp
  clear h hr hly hll
  go_enter Tryz.func48, Tryz.ntmps48
  go_wp2_with (go_at_call 89; refine HCp.out.mono ?_; rintro e w1 ⟨v, rfl, ho, hc⟩
               obtain ⟨ov, cv, rfl, hlc, hcm⟩ := ho.slice
               rw [hzl] at hlc ho ⊢
               have HO := Lib.hid ho
               have HC := Lib.hid hc
               have HLC := Lib.hid (And.intro hlc hcm)
               clear ho hc hlc hcm)
  obtain ⟨B, hB⟩ : ∃ B, w1.heap.size = B := ⟨_, rfl⟩
  have HBo := Lib.hid (show ∀ g off, ov = some ⟨g, off, none⟩ → 0 < l.length → g < B from fun g off e hne => by
    obtain ⟨g', e1, -, h2, -⟩ := HO.out.cell' (k := 0) (by omega)
    rw [e] at e1; cases e1; omega)
  have HBw := Lib.hid (show w.heap.size ≤ B from by rw [← hB]; exact HC.out.size)
  go_loopw [9] (fun j wr => ∃ (k : Nat) (lw : List Value), j = .int .i64 k ∧ k ≤ l.length ∧ lw.length = l.length ∧ OwnRecs wr w.heap.size 90 4 (.slice ov l.length cv) (List.zipWith pkC l lw) ∧ (∀ (i : Nat) (p : Pk) (u : Value), i < k → l[i]? = some p → lw[i]? = some u → LysAt wr (fun b => B ≤ b ∧ b < wr.heap.size) u p.man.layers) ∧ (∀ i, k ≤ i → lw[i]? = lv[i]?) ∧ Chg (fun _ => False) w wr ∧ B ≤ wr.heap.size) (fun j _ => l.length - (intOf j).toNat)
  · exact ⟨0, lv, rfl, Nat.zero_le _, hlv, HO.out, by intro i p u h; omega, fun _ _ => rfl, HC.out, by omega⟩
  clear hB
  obtain ⟨k, lw, rfl, hk, hwl, ho2, hdone, hrest, hc2, hBr⟩ := hrel
  have hzw : (List.zipWith pkC l lw).length = l.length := by rw [List.length_zipWith]; omega
  have HO2 := Lib.hid ho2
  have HD := Lib.hid hdone
  have HRe := Lib.hid hrest
  have HC2 := Lib.hid hc2
  have HBr := Lib.hid hBr
  clear ho2 hdone hrest hc2 HO HC hBr
  by_cases hlt : k < l.length
  · have hki : (k : Int) < (l.length : Int) := by omega
    obtain ⟨p, hp⟩ : ∃ p, l[k]? = some p := ⟨l[k], List.getElem?_eq_getElem hlt⟩
    obtain ⟨u, hu⟩ : ∃ u, lv[k]? = some u := ⟨lv[k]'(by omega), List.getElem?_eq_getElem _⟩
    have huw : lw[k]? = some u := by rw [HRe.out k (Nat.le_refl _), hu]
    have hlyk := (HLy.out k p u hp hu).fresh HC2.out
    obtain ⟨la, lc, rfl, h3, -, -, -⟩ := hlyk.is
    obtain ⟨g, e1, hgb, hgl, hcell, hfz⟩ := HO2.out.cell' (k := k) (by rw [hzw]; exact hlt)
    obtain rfl := e1
    have hRk : (List.zipWith pkC l lw)[k]'(by rw [hzw]; exact hlt) = pkC p (.slice la p.man.layers.length lc) := by
      have h1 := List.getElem?_eq_getElem (l := List.zipWith pkC l lw) (i := k) (by rw [hzw]; exact hlt)
      rw [List.getElem?_zipWith, hp, huw] at h1
      exact (Option.some.inj h1).symm
    rw [hRk] at hcell
    have d3 : wr.cell? ⟨g, k * 4 + 3, none⟩ = some (.slice la p.man.layers.length lc) := hcell 3 _ rfl
    have hcl := clone_refs wr la lc (p.man.layers.map rfC) h3 (one_rf _) (by rw [List.length_map]; exact HLL.out p (List.mem_of_getElem? hp))
    rw [List.length_map] at hcl
    obtain ⟨nl, hnl⟩ : ∃ nl, p.man.layers.length = nl := ⟨_, rfl⟩
    rw [hnl] at d3 hcl
    have HD3 := Lib.hid d3
    have HFz := Lib.hid (hfz (k * 4 + 3))
    have HCl := Lib.hid hcl
    have HP := Lib.hid hp
    have HDg := Lib.hid hlyk.dig
    have HNl := Lib.hid hnl
    have HGb := Lib.hid hgb
    have HGB := Lib.hid (HBo.out g 0 rfl (by omega))
    clear hp hu huw hlyk h3 hRk hcell hfz hgb hgl hcl hnl
    go_wp2_with (go_at_call 90; refine HCl.out.mono ?_; rintro e w3 ⟨v3, rfl, ho3, hc3⟩
                 obtain ⟨lv3, lcv, rfl, hl3, hm3⟩ := ho3.slice
                 rw [List.length_map, HNl.out] at hl3 ho3 ⊢
                 have k3 : w3.cell? ⟨g, k * 4 + 1 + 2, none⟩ = some (.slice la nl lc) := hc3.cell HD3.out id
                 have z3 : w3.frozen? ⟨g, k * 4 + 1 + 2, none⟩ = false := ((HO2.out.kept hc3 (fun _ _ h => h)).cell' (k := k) (by rw [hzw]; exact hlt)).elim (fun g' h => by obtain ⟨e1, -, -, -, h5⟩ := h; cases e1; exact h5 _)
                 have HO3 := Lib.hid ho3
                 have HC3 := Lib.hid hc3
                 have HL3 := Lib.hid (And.intro hl3 hm3)
                 clear ho3 hc3 hl3 hm3)
    obtain ⟨w4, hw4⟩ : ∃ w4, w3.setCell ⟨g, k * 4 + 3, none⟩ (.slice lv3 nl lcv) = w4 := ⟨_, rfl⟩
    have hcs : Chg (· = g) w3 w4 := by rw [← hw4]; exact Chg.setCell (S := (· = g)) (Chg.refl _ _) (fun _ => rfl) _
    have ho4 : OwnRecs w4 w.heap.size 90 4 (.slice (some ⟨g, 0, none⟩) l.length cv) (List.zipWith pkC l (lw.set k (.slice lv3 nl lcv))) := by
      have h := HO2.out.kept HC3.out (fun _ _ h => h)
      rw [← hzw] at h
      rw [← hw4, ← zip_set (by omega)]
      have h2 := h.set (j := 3) (by omega) (.slice lv3 nl lcv) (k := k)
      rw [hzw] at h2
      exact h2
    have hsz : wr.heap.size ≤ w3.heap.size := HC3.out.size
    have hsz4 : w3.heap.size ≤ w4.heap.size := hcs.size
    have hg4 : Chg (fun _ => False) w w4 := (HC2.out.trans' HC3.out).new hcs (fun i e => by have := HGb.out; omega)
    refine ⟨⟨k + 1, lw.set k (.slice lv3 nl lcv), by go_num, hlt, by rw [List.length_set]; omega, ?_, fun i q u hi hq hu => ?_, fun i hi => ?_, ?_, ?_⟩, meas_step hlt⟩
    · show OwnRecs (w3.setCell ⟨g, k * 4 + 3, none⟩ (.slice lv3 nl lcv)) _ _ _ _ _
      rw [hw4]; exact ho4
    · show LysAt (w3.setCell ⟨g, k * 4 + 3, none⟩ (.slice lv3 nl lcv)) _ u q.man.layers
      rw [hw4]
      rw [List.getElem?_set] at hu
      by_cases hik : k = i
      · subst hik
        rw [if_pos rfl, if_pos (by omega)] at hu
        obtain rfl := (Option.some.inj hu)
        have hqp : q = p := by have := HP.out; rw [hq] at this; exact Option.some.inj this
        subst hqp
        have hin : InF (fun b => wr.heap.size ≤ b ∧ b < w3.heap.size) lv3 nl := in_of_own HO3.out (by rw [List.length_map]; exact HNl.out) (fun b h1 h2 => ⟨h1, h2⟩)
        refine ⟨⟨lv3, lcv, by rw [HNl.out], rows_keptF (rows_of_own HO3.out) hcs hin (by rw [List.length_map]; exact HNl.out) (fun b hb e => ?_), fun hn b off ho => ?_, by rw [HNl.out]; exact HL3.out.1, HL3.out.2⟩, HDg.out⟩
        · have := HGB.out; have := HBr.out; have := hb.1; omega
        · obtain ⟨h1, h2⟩ := hin (by rw [← HNl.out]; exact hn) b off ho
          have h3 := HBr.out
          show B ≤ b ∧ b < w4.heap.size
          omega
      · rw [if_neg hik] at hu
        refine ((HD.out i q u (by omega) hq hu).kept (HC3.out.mono (fun _ _ h => h.elim) |>.trans' hcs : Chg (· = g) wr w4) (fun b hb e => by have := HGB.out; have := hb.1; omega)).wide (fun b hb => ?_)
        have h1 := hb.1
        have h2 := hb.2
        show B ≤ b ∧ b < w4.heap.size
        omega
    · rw [List.getElem?_set, if_neg (by omega), HRe.out i (by omega)]
    · show Chg _ w (w3.setCell ⟨g, k * 4 + 3, none⟩ (.slice lv3 nl lcv))
      rw [hw4]; exact hg4
    · show B ≤ (w3.setCell ⟨g, k * 4 + 3, none⟩ (.slice lv3 nl lcv)).heap.size
      rw [hw4]
      have := HBr.out; omega
  · have hki : ¬ (k : Int) < (l.length : Int) := by omega
    have HKl := Lib.hid (show k = l.length by omega)
    go_wp2_with fail
    go_ret
    have hkl := HKl.out
    have hBw := HBw.out
    refine ⟨.slice ov l.length cv, rfl, ⟨⟨ov, cv, lw, rfl, hwl, rows_of_own HO2.out, in_of_own HO2.out hzw (fun b h1 h2 => ⟨h1, h2⟩), fun i p u hp hu => ?_, HLC.out.1, HLC.out.2⟩, HTx.out⟩, HC2.out⟩
    have hil := (List.getElem?_eq_some_iff.1 hp).1
    exact (HD.out i p u (by omega) hp hu).wide (fun b hb => ⟨by have := hb.1; omega, hb.2⟩)

/-! ### numbers -/
/-- Numbers as a slice. -/
def NumsAt (w : World) (v : Value) (l : List Nat) : Prop := SlAt w v (l.map (fun n : Nat => Value.int .i64 (n : Int)))

theorem index_is (w : World) {v : Value} {l : List Nat} (h : NumsAt w v l) (hl : l.length ≤ 1000000) (t : Int) :
    Calls Tryz.prog 91 #[v, .int .i64 t] w fun e w' => ∃ k : Int, e = .returned (.int .i64 k) ∧ ((∃ n ∈ l, (n : Int) = t) → 0 ≤ k) ∧ ((¬ ∃ n ∈ l, (n : Int) = t) → k = -1) ∧ w = w' := by
  obtain ⟨oa, cap, rfl, -⟩ := id h
  rw [List.length_map] at h ⊢
  have H := Lib.hid h
  clear h
  go_enter Tryz.func91, Tryz.ntmps91
  go_wp2_with fail
  go_loopw [8] (fun j wr => ∃ k : Nat, j = .int .i64 k ∧ k ≤ l.length ∧ (∀ n ∈ l.take k, (n : Int) ≠ t) ∧ w = wr) (fun j _ => l.length - (intOf j).toNat)
  · exact ⟨0, rfl, Nat.zero_le _, by simp, rfl⟩
  obtain ⟨k, rfl, hk, hno, rfl⟩ := hrel
  have HNo := Lib.hid hno
  clear hno
  by_cases hlt : k < l.length
  · have hki : (k : Int) < (l.length : Int) := by omega
    obtain ⟨b, off, rfl, -, hcell⟩ := H.out.cell (k := k) (by rw [List.length_map]; exact hlt)
    rw [List.getElem_map] at hcell
    obtain ⟨n, hn⟩ : ∃ n, l[k] = n := ⟨_, rfl⟩
    have HN := Lib.hid (show l[k]? = some n by rw [List.getElem?_eq_getElem hlt, hn])
    rw [hn] at hcell
    clear hn
    by_cases he : t = (n : Int)
    · subst he
      have HEx := Lib.hid (show ∃ m ∈ l, (m : Int) = (n : Int) from ⟨n, List.mem_of_getElem? HN.out, rfl⟩)
      go_wp2_with fail
      go_ret
      exact ⟨k, rfl, fun _ => by omega, fun h => absurd HEx.out h, rfl⟩
    · have heb : (t == (n : Int)) = false := by simpa using he
      have HNe := Lib.hid he
      clear he
      go_wp2_with fail
      refine ⟨⟨k + 1, by go_num, hlt, fun m hm => ?_, trivial⟩, meas_step hlt⟩
      rw [List.take_add_one, HN.out, Option.toList_some, List.mem_append, List.mem_singleton] at hm
      rcases hm with hm | rfl
      · exact HNo.out m hm
      · exact fun e => HNe.out e.symm
  · have hki : ¬ (k : Int) < (l.length : Int) := by omega
    obtain rfl : k = l.length := by omega
    go_wp2_with fail
    go_ret
    have hno := HNo.out
    rw [List.take_length] at hno
    exact ⟨-1, rfl, by (first | exact fun ⟨n, h1, h2⟩ => absurd h2 (hno n h1) | exact fun n h1 h2 => absurd h2 (hno n h1)), fun _ => rfl, rfl⟩

theorem has_is (w : World) {v : Value} {l : List Nat} (h : NumsAt w v l) (hl : l.length ≤ 1000000) (t : Int) :
    Calls Tryz.prog 50 #[v, .int .i64 t] w fun e w' => e = .returned (.bool (decide (∃ n ∈ l, (n : Int) = t))) ∧ w = w' := by
  have HI := Lib.hid (index_is w h hl t)
  obtain ⟨oa, cap, rfl, -⟩ := id h
  rw [List.length_map] at *
  clear h
  by_cases hm : ∃ n ∈ l, (n : Int) = t
  · have HM := Lib.hid hm
    rw [decide_eq_true hm]
    clear hm
    go_enter Tryz.func50, Tryz.ntmps50
    go_wp2_with (go_at_call 91; refine HI.out.mono ?_; rintro e w1 ⟨k, rfl, hk, -, rfl⟩; have hk := hk HM.out)
    go_ret
    exact ⟨rfl, rfl⟩
  · have HM := Lib.hid hm
    rw [decide_eq_false hm]
    clear hm
    go_enter Tryz.func50, Tryz.ntmps50
    go_wp2_with (go_at_call 91; refine HI.out.mono ?_; rintro e w1 ⟨k, rfl, -, hk, rfl⟩; obtain rfl := hk HM.out)
    go_ret
    exact ⟨rfl, rfl⟩

end Go.Proofs.YtbjagmlbamjdbaaGreat.roots
end

/-
  rootdb: manifest.Encode of a manifest that may be; a package's bytes.
-/
section
set_option linter.unusedSimpArgs false
set_option linter.unusedVariables false
namespace Go.Proofs.YtbjagmlbamjdbaaGreat.roots
open Go.RowKit Go.Maps Go.My Go.ChangeMaps disks bufs wals kvs
set_option maxRecDepth 100000

variable {w w' : World}

def nameT (s : Txt) : Txt := UInt8.ofNat s.length :: s
def headT (nm vr : Txt) (k : Nat) : Txt := [86, 77, 1] ++ (([nm, vr].take k).map nameT).flatten
theorem headT_len {nm vr : Txt} (h1 : nm.length ≤ 16) (h2 : vr.length ≤ 16) (k : Nat) : (headT nm vr k).length ≤ 37 := by
  unfold headT
  rcases k with _ | _ | k
  · simp
  · simp [nameT]; omega
  · simp [nameT]; omega
theorem mencF_head (m : Mf) : mencF m = (headT m.name m.ver 2 ++ [UInt8.ofNat m.layers.length]) ++ laysB m.layers := by
  unfold mencF headT nameT
  simp
theorem laysB_take {L : List Rf} {k : Nat} {x : Rf} (h : L[k]? = some x) : laysB (L.take (k + 1)) = laysB (L.take k) ++ (x.sum ++ varB x.size.toNat) := by
  unfold laysB
  rw [List.take_add_one, h, Option.toList_some, List.map_append, List.flatten_append]
  simp [layB]

theorem own_ne {base n b : Nat} {e t : TypeId} {v : Value} {xs : List Value} {cs : Array Value} (h : w.ownsRow base e 1 v n xs) (hb : w.heap[b]? = some (.cells cs t (0, 0))) (ht : e ≠ t) : ∀ g, v.ownBlock = some g → g ≠ b := by
  intro g hg e
  subst e
  rcases h.2 with ⟨rfl, h0⟩ | ⟨g', cap, cur, rfl, _, hh, _⟩
  · simp [Value.ownBlock] at hg
  · simp only [Value.ownBlock, Option.some.injEq] at hg
    subst hg
    rw [hh] at hb
    simp only [Option.some.injEq, Obj.cells.injEq] at hb
    exact ht hb.2.1

/-- An append to bytes that have no room. -/
theorem append_full {s0 base m cap : Nat} {xs ys : Txt} {oa : Option Addr} (hb : ∀ j v, (cellsB xs)[j]? = some v → w.cell? ((⟨s0, 0, none⟩ : Addr).add j) = some v) (hs : SlAt w (.slice oa m cap) (cellsB ys)) (hy : ys ≠ []) (hbase : base ≤ w.heap.size) (hl : xs.length + ys.length ≤ 1000) (ty : TypeId) :
    ∃ v' w', (Builtin.append_ #[101, 101] ty #[.slice (some ⟨s0, 0, none⟩) xs.length xs.length, .slice oa m cap]).run Tryz.prog w = .ok v' w' ∧ w'.ownsRow base 5 1 v' (xs ++ ys).length (cellsB (xs ++ ys)) ∧ Chg (fun _ => False) w w' := by
  obtain ⟨i, hi, hz, hsz, hby⟩ := u8_parts
  have hyl := List.length_pos_iff.2 hy
  obtain ⟨b, off, rfl, hm, -⟩ := hs.cell (k := 0) (by rw [cellsB_length]; exact hyl)
  rw [cellsB_length] at hm
  subst hm
  have hnews : ∀ j v, (cellsB ys)[j]? = some v → w.cell? ((⟨b, off, none⟩ : Addr).add j) = some v := fun j v hv => by
    obtain ⟨oa', cap', h1, -, h3⟩ := hs
    simp only [Value.slice.injEq] at h1
    obtain ⟨rfl, -, -⟩ := h1
    have h4 := h3 b off rfl j v hv
    rw [show (⟨b, off, none⟩ : Addr).add j = ⟨b, off + j, none⟩ from by unfold Addr.add; by_cases e1 : j = 0 <;> simp [e1]]
    exact h4
  have hr := run_append_grow (P := Tryz.prog) w 101 ty 5 i (.int .u8 0) Tryz.underlying101 hi hz ⟨s0, 0, none⟩ xs.length xs.length (cellsB xs) (by rw [cellsB_length, hsz]; omega) hb ⟨b, off, none⟩ ys.length cap (cellsB ys) (by rw [cellsB_length, hsz]; omega) hnews (by omega) (by omega) (growslice_fits (by omega) (by rw [hby]; omega))
  have hlen : (cellsB xs ++ cellsB ys).length = xs.length + ys.length := by rw [List.length_append, cellsB_length, cellsB_length]
  refine ⟨_, _, hr, ?_, ((Chg.refl _ _).drew).alloc _⟩
  rw [List.length_append, show cellsB (xs ++ ys) = cellsB xs ++ cellsB ys by simp [cellsB]]
  refine ⟨by rw [hlen]; omega, .inr ⟨w.heap.size, _, _, rfl, hbase, heap_alloc_new w.drew _, grownCap_ge w _ _ _, grownCap_le_maxLen w _ _ _ (by unfold maxLen; omega), ?_, ?_⟩⟩
  · have := grownCap_ge w (xs.length + ys.length) xs.length 5
    simp only [Array.size_append, List.size_toArray, size_zeroCells, Value.cells, cellsB_length, List.length_cons, List.length_nil]
    omega
  · simp only [Array.toList_append]
    rw [Nat.mul_one, ← hlen]
    exact List.take_left

set_option maxHeartbeats 2000000 in
theorem encode_is (w : World) (m : Mf) {F : Nat → Prop} {v : Value} (h : LysAt w F v m.layers) (hm : mchkF m = 0) :
    Calls Tryz.prog 148 #[.agg #[strV m.name, strV m.ver, v]] w fun e w' => ∃ u, e = .returned (.tuple #[u, .int .i64 0]) ∧ w'.ownsRow w.heap.size 5 1 u (mencF m).length (cellsB (mencF m)) ∧ Chg (fun _ => False) w w' := by
  have hok := mchkF_ok hm
  rw [mencF_head m]
  obtain ⟨nm, vr, L⟩ := m
  simp only at h hok ⊢
  have n1 := nameB_len hok.name
  have n2 := nameB_len hok.ver
  have n3 := hok.few
  simp only at n1 n2 n3
  have HSz := Lib.hid hok.sizes
  have HHd := Lib.hid (headT_len n1.2 n2.2)
  obtain ⟨oa, cap, rfl, hr, -, -, -⟩ := id h.is
  have HD := Lib.hid h.dig
  obtain ⟨b, off, rfl⟩ := hr.spot (by intro e; rw [List.map_eq_nil_iff] at e; have := hok.some; rw [e] at this; simp at this)
  have H := Lib.hid hr
  obtain ⟨sn, hsn⟩ : ∃ s, strV nm = .string s := ⟨_, rfl⟩
  obtain ⟨sv, hsv⟩ : ∃ s, strV vr = .string s := ⟨_, rfl⟩
  have hcx := ((Chg.refl (fun _ => False) w)).alloc (.cells #[.string sn, .string sv, .slice (some ⟨b, off, none⟩) L.length cap] 88)
  have hmk := mcheck_is (w.alloc (.cells #[.string sn, .string sv, .slice (some ⟨b, off, none⟩) L.length cap] 88)) ⟨nm, vr, L⟩ (h.fresh hcx) (by unfold maxLen; simp only; omega) (by unfold maxLen; simp only; omega)
  rw [hm, hsn, hsv] at hmk
  rw [hsn, hsv]
  obtain ⟨B, hB⟩ : ∃ B, headT nm vr 2 ++ [UInt8.ofNat L.length] ++ laysB L = B := ⟨_, rfl⟩
  rw [hB]
  have HB := Lib.hid hB
  clear hB
  have HBx := Lib.hid (block_alloc_new w (.cells #[.string sn, .string sv, .slice (some ⟨b, off, none⟩) L.length cap] 88))
  have HMk := Lib.hid hmk
  have HCx := Lib.hid hcx
  have HNm := Lib.hid (And.intro hsn (And.intro hsv (And.intro n1 n2)))
  have hL0 : (0 : Int) ≤ (L.length : Int) := by omega
  have hL8 : (L.length : Int) ≤ 8 := by omega
  clear hok hr h hsn hsv hcx hmk n1 n2 hm
  go_enter Tryz.func148, Tryz.ntmps148
  go_wp2_with (first
    | (go_at_call 41; refine HMk.out.mono ?_; rintro e w1 ⟨rfl, hc1⟩
       have hb1 := hc1.at HBx.out id
       have c0 : w1.cell? ⟨w.heap.size, 0, none⟩ = some (.string sn) := cell_of_block hb1 rfl
       have c1 : w1.cell? ⟨w.heap.size, 1, none⟩ = some (.string sv) := cell_of_block hb1 rfl
       have hlt1 := lt_of_block hb1
       have HB1 := Lib.hid hb1
       have HC1 := Lib.hid (HCx.out.trans' hc1)
       have f0 : (w1.alloc (.cells #[.int .u8 86, .int .u8 77, .int .u8 1] 5 (3, 4))).cell? ⟨w.heap.size, 0, none⟩ = some (.string sn) := ((Chg.refl (fun _ => False) w1).alloc _).cell c0 id
       have f1 : (w1.alloc (.cells #[.int .u8 86, .int .u8 77, .int .u8 1] 5 (3, 4))).cell? ⟨w.heap.size, 1, none⟩ = some (.string sv) := ((Chg.refl (fun _ => False) w1).alloc _).cell c1 id
       clear hb1 hc1))
  have hcv := Lib.run_convert_bytes_const (P := Tryz.prog) w1 101 5 #[.int .u8 86, .int .u8 77, .int .u8 1] 3 3 Tryz.underlying101 Tryz.underlying5
  have hcv : (convert 101 101 (.slice (some ⟨w1.heap.size, 0, none⟩) 3 3)).run Tryz.prog (w1.alloc (.cells #[.int .u8 86, .int .u8 77, .int .u8 1] 5)) = .ok (.slice (some ⟨w1.heap.size, 0, none⟩) 3 3) (w1.alloc (.cells #[.int .u8 86, .int .u8 77, .int .u8 1] 5 (3, 4))) := hcv
  rw [hcv]
  simp only [Result.andThen]
  rw [Oper.upon_value]
  clear hcv
  go_wp2_with fail
  trace_state
  obtain ⟨w2, hw2⟩ : ∃ w2, (w1.alloc (.cells #[.int .u8 86, .int .u8 77, .int .u8 1] 5 (3, 4))).alloc (.cells #[.string sn, .string sv] 9) = w2 := ⟨_, rfl⟩
  have h2a : w2.heap[w1.heap.size]? = some (.cells #[.int .u8 86, .int .u8 77, .int .u8 1] 5 (3, 4)) := by rw [← hw2]; exact at2_0
  have h2b : w2.heap[w1.heap.size + 1]? = some (.cells #[.string sn, .string sv] 9 (0, 0)) := by rw [← hw2]; exact at2_1
  have hc2 : Chg (fun _ => False) w1 w2 := by rw [← hw2]; exact chg2
  rw [hw2]
  have HB2 := Lib.hid h2b
  have HBx2 := Lib.hid (hc2.at HB1.out id)
  have HC2 := Lib.hid (HC1.out.trans' hc2)
  have hrow0 : w2.heap[w1.heap.size]? = some (.cells #[.int .u8 86, .int .u8 77, .int .u8 1] 5 (3, 4)) := h2a
  have HRow0 := Lib.hid hrow0
  have HLt1 := Lib.hid hlt1
  clear h2a h2b hc2 hrow0 hw2 c0 c1 f0 f1 hlt1
  obtain ⟨sb, hsb⟩ : ∃ sb, w1.heap.size + 1 = sb := ⟨_, rfl⟩
  obtain ⟨s0, hs0⟩ : ∃ s0, w1.heap.size = s0 := ⟨_, rfl⟩
  rw [hsb] at HB2 ⊢
  rw [hs0] at HRow0 HLt1 ⊢
  obtain ⟨bx, hbx⟩ : ∃ bx, w.heap.size = bx := ⟨_, rfl⟩
  rw [hbx] at HBx2 HLt1 ⊢
  clear hsb hs0
  go_loopw [5, 23] (fun u j wr => ∃ (k : Nat) (ou : Option Addr) (nu cu : Nat), j = .int .i64 k ∧ u = .slice ou nu cu ∧ k ≤ 2 ∧ ((1 ≤ k ∧ wr.ownsRow bx 5 1 (.slice ou nu cu) (headT nm vr k).length (cellsB (headT nm vr k))) ∨ (k = 0 ∧ Value.slice ou nu cu = .slice (some ⟨s0, 0, none⟩) 3 3 ∧ wr.heap[s0]? = some (.cells #[.int .u8 86, .int .u8 77, .int .u8 1] 5 (3, 4)))) ∧ Chg (fun _ => False) w wr ∧ wr.heap[sb]? = some (.cells #[.string sn, .string sv] 9 (0, 0)) ∧ wr.heap[bx]? = some (.cells #[.string sn, .string sv, .slice (some ⟨b, off, none⟩) L.length cap] 88 (0, 0)) ) (fun _ j _ => 2 - (intOf j).toNat)
  · exact ⟨0, _, _, _, rfl, rfl, by omega, Or.inr ⟨rfl, rfl, HRow0.out⟩, HC2.out, HB2.out, HBx2.out⟩
  clear HRow0 HC2 HB2 HBx2
  obtain ⟨k, ou, nu, cu, rfl, rfl, hk, ho, hc, hsbk, hbxk⟩ := hrel
  have hN := HNm.out
  have hhl := HHd.out k
  have HC := Lib.hid hc
  by_cases hlt : k < 2
  · have hki : (k : Int) < 2 := by omega
    obtain ⟨X, sX, hX, hcX, hXl, hXt⟩ : ∃ (X : Txt) (sX : ByteArray), strV X = .string sX ∧ (#[Value.string sn, Value.string sv] : Array Value)[k]? = some (.string sX) ∧ X.length ≤ 16 ∧ headT nm vr (k + 1) = headT nm vr k ++ [UInt8.ofNat X.length] ++ X := by
      rcases (by omega : k = 0 ∨ k = 1) with rfl | rfl
      · exact ⟨nm, sn, hN.1, rfl, hN.2.2.1.2, by simp [headT, nameT]⟩
      · exact ⟨vr, sv, hN.2.1, rfl, hN.2.2.2.2, by simp [headT, nameT]⟩
    have cX : wr.cell? ⟨sb, k, none⟩ = some (.string sX) := cell_of_block hsbk hcX
    have hXs := strV_string X sX hX
    have hsz := str_size X sX hX
    have hxd : sX.data.toList = X := by rw [hXs]
    obtain ⟨N, hNn⟩ : ∃ N, X.length = N := ⟨_, rfl⟩
    rw [hNn] at hXl hXt hsz
    have hN0 : (0 : Int) ≤ (N : Int) := by omega
    have hNm : (N : Int) % 256 = (N : Int) := by omega
    have hca : Chg (fun _ => False) wr (wr.alloc (.cells #[.int .u8 (N : Int)] 5)) := (Chg.refl _ _).alloc _
    have hs2 : SlAt (wr.alloc (.cells #[.int .u8 (N : Int)] 5)) (.slice (some ⟨wr.heap.size, 0, none⟩) 1 1) (cellsB [UInt8.ofNat N]) := by
      have := SlAt.of_own (own_of_block (w := wr.alloc (.cells #[.int .u8 (N : Int)] 5)) (base := 0) (n := 1) at1 (Nat.zero_le _) rfl (by unfold maxLen; omega))
      simp only [cellsB, List.map_cons, List.map_nil, toNat_ofNat_lt (show N < 256 by omega)]
      exact this
    have hbxs := lt_of_block hbxk
    obtain ⟨v3, w3, hr3, ho3, hs3, hb3, hc3⟩ : ∃ v3 w3, (Builtin.append_ #[101, 101] 101 #[.slice ou nu cu, .slice (some ⟨wr.heap.size, 0, none⟩) 1 1]).run Tryz.prog (wr.alloc (.cells #[.int .u8 (N : Int)] 5)) = .ok v3 w3 ∧ w3.ownsRow bx 5 1 v3 (headT nm vr k ++ [UInt8.ofNat N]).length (cellsB (headT nm vr k ++ [UInt8.ofNat N])) ∧ w3.heap[sb]? = some (.cells #[.string sn, .string sv] 9 (0, 0)) ∧ w3.heap[bx]? = some (.cells #[.string sn, .string sv, .slice (some ⟨b, off, none⟩) L.length cap] 88 (0, 0)) ∧ Chg (fun _ => False) w w3 := by
      rcases ho with ⟨-, ho⟩ | ⟨rfl, hu, h0⟩
      · have hn1 := own_ne ho hsbk (by decide)
        have hn2 := own_ne ho hbxk (by decide)
        obtain ⟨v3, w3, hr3, ho3, hg3⟩ := append_slice (own_kept ho hca) hs2 (by have := hca.size; omega) (by simp; omega) 101
        exact ⟨v3, w3, hr3, ho3, hg3.at (hca.at hsbk id) (fun e => hn1 _ e.symm rfl), hg3.at (hca.at hbxk id) (fun e => hn2 _ e.symm rfl), (hc.trans' hca).new hg3 (fun i e => by have := (ho.lt i e.symm).1; omega)⟩
      · cases hu
        obtain ⟨v3, w3, hr3, ho3, hg3⟩ := append_full (s0 := s0) (base := bx) (xs := headT nm vr 0) (w := wr.alloc (.cells #[.int .u8 (N : Int)] 5)) (fun j v hv => by
          rw [show (⟨s0, 0, none⟩ : Addr).add j = ⟨s0, j, none⟩ from by unfold Addr.add; by_cases e1 : j = 0 <;> simp [e1]]
          exact cell_of_block (hca.at h0 id) (by simpa [headT, cellsB] using hv)) hs2 (by simp) (by have := hca.size; omega) (by simp [headT]) 101
        exact ⟨v3, w3, hr3, ho3, hg3.at (hca.at hsbk id) id, hg3.at (hca.at hbxk id) id, (hc.trans' hca).trans' hg3⟩
    have hm1 := own_ne ho3 hs3 (by decide)
    have hm2 := own_ne ho3 hb3 (by decide)
    obtain ⟨M3, hM3⟩ : ∃ M, (headT nm vr k ++ [UInt8.ofNat N]).length = M := ⟨_, rfl⟩
    rw [hM3] at ho3
    obtain ⟨o3, p3, hv3⟩ := own_slice ho3
    have hbxs3 := lt_of_block hb3
    obtain ⟨v4, w4, hr4, ho4, hg4⟩ := append_string (s := sX) ho3 (by omega) (by simp only [List.length_append, List.length_singleton]; omega) 101
    have hs4 := hg4.at hs3 (fun e => hm1 _ e.symm rfl)
    have hb4 := hg4.at hb3 (fun e => hm2 _ e.symm rfl)
    have hc4 : Chg (fun _ => False) w w4 := hc3.new hg4 (fun i e => by have := (ho3.lt i e.symm).1; omega)
    rw [hxd, ← hXt] at ho4
    subst hv3
    obtain ⟨M4, hM4⟩ : ∃ M, (headT nm vr (k + 1)).length = M := ⟨_, rfl⟩
    rw [hM4] at ho4
    obtain ⟨o4, p4, hv4⟩ := own_slice ho4
    subst hv4
    have ho4 : w4.ownsRow bx 5 1 (.slice o4 M4 p4) (headT nm vr (k + 1)).length (cellsB (headT nm vr (k + 1))) := by rw [hM4]; exact ho4
    have HR3 := Lib.hid hr3
    have HR4 := Lib.hid hr4
    have HRes := Lib.hid (And.intro (Or.inl ⟨(by omega : 1 ≤ k + 1), ho4⟩ : (1 ≤ k + 1 ∧ _) ∨ (k + 1 = 0 ∧ Value.slice o4 M4 p4 = .slice (some ⟨s0, 0, none⟩) 3 3 ∧ w4.heap[s0]? = some (.cells #[.int .u8 86, .int .u8 77, .int .u8 1] 5 (3, 4)))) (And.intro hc4 (And.intro hs4 hb4)))
    clear hM3 hM4 hca hs2 hr3 ho3 hs3 hb3 hm1 hm2 hc3 hr4 ho4 hg4 hs4 hb4 hc4 ho hc hsbk hbxk hN hX hcX hXt hXs hxd hNn hbxs hbxs3
    go_wp2_with (first
      | (at_builtin; refine Lib.wpList_append_run _ rfl _ _ _ _ rfl _ _ rfl rfl _ _ HR3.out ?_)
      | (at_builtin; refine Lib.wpList_append_run _ rfl _ _ _ _ rfl _ _ rfl rfl _ _ HR4.out ?_))
    exact ⟨⟨k + 1, _, _, _, by go_num, rfl, hlt, HRes.out⟩, by simp [intOf]; omega⟩
  · have hki : ¬ (k : Int) < 2 := by omega
    obtain rfl : k = 2 := by omega
    have ho : wr.ownsRow bx 5 1 (.slice ou nu cu) (headT nm vr 2).length (cellsB (headT nm vr 2)) := by
      rcases ho with ⟨-, ho⟩ | ⟨h, -⟩
      · exact ho
      · omega
    have c2 : wr.cell? ⟨bx, 2, none⟩ = some (.slice (some ⟨b, off, none⟩) L.length cap) := cell_of_block hbxk rfl
    obtain ⟨N, hNn⟩ : ∃ N, L.length = N := ⟨_, rfl⟩
    have hn2 := own_ne ho hbxk (by decide)
    have hNm : (N : Int) % 256 = (N : Int) := by omega
    have hca : Chg (fun _ => False) wr (wr.alloc (.cells #[.int .u8 (N : Int)] 5)) := (Chg.refl _ _).alloc _
    have hs2 : SlAt (wr.alloc (.cells #[.int .u8 (N : Int)] 5)) (.slice (some ⟨wr.heap.size, 0, none⟩) 1 1) (cellsB [UInt8.ofNat N]) := by
      have := SlAt.of_own (own_of_block (w := wr.alloc (.cells #[.int .u8 (N : Int)] 5)) (base := 0) (n := 1) at1 (Nat.zero_le _) rfl (by unfold maxLen; omega))
      simp only [cellsB, List.map_cons, List.map_nil, toNat_ofNat_lt (show N < 256 by omega)]
      exact this
    have hbxs := lt_of_block hbxk
    obtain ⟨v3, w3, hr3, ho3, hg3⟩ := append_slice (own_kept ho hca) hs2 (by have := hca.size; omega) (by simp; omega) 101
    have hb3 := hg3.at (hca.at hbxk id) (fun e => hn2 _ e.symm rfl)
    have hc3 : Chg (fun _ => False) w w3 := (hc.trans' hca).new hg3 (fun i e => by have := (ho.lt i e.symm).1; omega)
    have c3 : w3.cell? ⟨bx, 2, none⟩ = some (.slice (some ⟨b, off, none⟩) L.length cap) := cell_of_block hb3 rfl
    obtain ⟨M3, hM3⟩ : ∃ M, (headT nm vr 2 ++ [UInt8.ofNat N]).length = M := ⟨_, rfl⟩
    have hM3b : M3 ≤ 38 := by rw [← hM3, List.length_append, List.length_singleton]; omega
    rw [hM3] at ho3
    obtain ⟨o3, p3, hv3⟩ := own_slice ho3
    subst hv3
    have HM3 := Lib.hid hM3
    have ho3 : w3.ownsRow bx 5 1 (.slice o3 M3 p3) (headT nm vr 2 ++ [UInt8.ofNat N]).length (cellsB (headT nm vr 2 ++ [UInt8.ofNat N])) := by rw [hM3]; exact ho3
    have HR3 := Lib.hid hr3
    have HO3 := Lib.hid ho3
    have HC3 := Lib.hid hc3
    have HB3 := Lib.hid (lt_of_block hb3)
    have HN2 := Lib.hid hNn
    rw [hNn] at c2 c3 hL0 hL8 n3 ⊢
    clear hca hs2 hr3 ho3 hg3 hb3 hc3 hn2 ho hc hsbk hbxk hN hNn hbxs hhl HC HHd
    go_wp2_with (first
      | (at_builtin; refine Lib.wpList_append_run _ rfl _ _ _ _ rfl _ _ rfl rfl _ _ HR3.out ?_))
    obtain ⟨P0, hP0⟩ : ∃ P0, headT nm vr 2 ++ [UInt8.ofNat N] = P0 := ⟨_, rfl⟩
    rw [hP0] at HO3 HM3
    clear HR3
    go_loopw [5, 46] (fun u j wr => ∃ (k : Nat) (ou : Option Addr) (nu cu : Nat), j = .int .i64 k ∧ u = .slice ou nu cu ∧ k ≤ N ∧ wr.ownsRow bx 5 1 (.slice ou nu cu) (P0 ++ laysB (L.take k)).length (cellsB (P0 ++ laysB (L.take k))) ∧ Chg (fun _ => False) w wr ∧ bx < wr.heap.size) (fun _ j _ => N - (intOf j).toNat)
    · exact ⟨0, _, _, _, rfl, rfl, Nat.zero_le _, by simpa [laysB] using HO3.out, HC3.out, HB3.out⟩
    clear HO3 HC3 HB3 c2 c3
    obtain ⟨k, ou, nu, cu, rfl, rfl, hk, ho, hc, hbs⟩ := hrel
    have HO := Lib.hid ho
    have HC := Lib.hid hc
    have HBs := Lib.hid hbs
    clear ho hc hbs
    by_cases hlt : k < N
    · have hki : (k : Int) < (N : Int) := by omega
      have hNn := HN2.out
      obtain ⟨x, hx⟩ : ∃ x, L[k]? = some x := ⟨L[k]'(by omega), List.getElem?_eq_getElem _⟩
      have hb32 : x.sum.length = 32 := HD.out x (List.mem_of_getElem? hx)
      obtain ⟨z0, z1⟩ := HSz.out x (List.mem_of_getElem? hx)
      obtain ⟨z, hz⟩ : ∃ z : Nat, x.size = (z : Int) := ⟨x.size.toNat, by omega⟩
      have hlay : laysB (L.take (k + 1)) = laysB (L.take k) ++ (x.sum ++ varB z) := by rw [laysB_take hx, hz]; rfl
      have hpl : (P0 ++ laysB (L.take k)).length ≤ 400 := by
        have h1 := laysB_len (L.take k) (fun y hy => HD.out y (List.mem_of_mem_take hy))
        have h2 : (L.take k).length ≤ 8 := by rw [List.length_take]; omega
        have h3 := HM3.out
        rw [List.length_append]
        omega
      have hlen : (rfC x).length = 33 := by simp [rfC, cellsB_length, hb32]
      have hrng : wr.rangeAt b (off + k * 33) (rfC x) := fun j v hj => (H.out.kept HC.out (fun _ _ h => h)).cell b off rfl k (rfC x) j v (by rw [List.getElem?_map, hx]; rfl) hj
      have hone : ∀ v ∈ rfC x, v.oneCell' = true := by
        intro v hv
        simp only [rfC, cellsB, List.mem_append, List.mem_map, List.mem_singleton] at hv
        rcases hv with ⟨y, -, rfl⟩ | rfl <;> rfl
      have HRng := Lib.hid hrng
      have HOne := Lib.hid hone
      have HLen := Lib.hid hlen
      have HDl := Lib.hid (show (cellsB x.sum).length = 32 by rw [cellsB_length, hb32])
      obtain ⟨row, hrow⟩ : ∃ row, rfC x = row := ⟨_, rfl⟩
      rw [hrow] at HRng HOne HLen
      have HRow := Lib.hid hrow
      have HLay := Lib.hid hlay
      have HPl := Lib.hid hpl
      clear hx hlen hrng hone hrow hlay hpl z0 hNn
      have hba := block_alloc_new wr (.cells row.toArray 98)
      have hca : Chg (fun _ => False) wr (wr.alloc (.cells row.toArray 98)) := (Chg.refl _ _).alloc _
      have hsA : (wr.alloc (.cells row.toArray 98)).heap.size = wr.heap.size + 1 := World.size_alloc _ _
      obtain ⟨wA, hwA⟩ : ∃ wA, wr.alloc (.cells row.toArray 98) = wA := ⟨_, rfl⟩
      rw [hwA] at hba hca hsA
      have a32 : wA.cell? ⟨wr.heap.size, 32, none⟩ = some (.int .i64 (z : Int)) := cell_of_block hba (by rw [List.getElem?_toArray, ← HRow.out, rfC, List.getElem?_append_right (by rw [HDl.out]; exact Nat.le_refl _), HDl.out, hz]; rfl)
      have hrd : wA.rangeAt wr.heap.size 0 (cellsB x.sum) := fun j v hj => by
        rw [Nat.zero_add]
        refine cell_of_block hba ?_
        rw [List.getElem?_toArray, ← HRow.out, rfC, List.getElem?_append_left (List.getElem?_eq_some_iff.1 hj).1]
        exact hj
      have hsl : ∀ W, Chg (fun k => some k = (Value.slice ou nu cu).ownBlock) wA W → SlAt W (.slice (some ⟨wr.heap.size, 0, none⟩) 32 32) (cellsB x.sum) := fun W hW =>
        ⟨some ⟨wr.heap.size, 0, none⟩, 32, by rw [HDl.out], fun _ => ⟨_, _, rfl⟩, fun b' off' ho' i y hy => by
          cases ho'
          exact hW.cell (hrd i y hy) (fun e => absurd (HO.out.lt wr.heap.size e.symm).2 (Nat.lt_irrefl _))⟩
      rw [hz] at z1
      have hz1 : z ≤ 2147483647 := by omega
      have hzm : IntKind.u64.wrap (z : Int) = (z : Int) := by rw [IntKind.wrap_u64]; omega
      have HZm := Lib.hid hzm
      have HBa := Lib.hid hba
      have HA32 := Lib.hid a32
      have HCA := Lib.hid hca
      have HSA := Lib.hid hsA
      have HSl := Lib.hid hsl
      have HVar := Lib.hid (fun W => var_big W z (by omega))
      clear hzm hba hca hsA hrd hsl hz z1 hb32
      go_wp2_with (first
        | (refine wpList_load_mid rfl 98 _ rfl b (off + k * 33) rfl row _ HRng.out Tryz.underlying98 rfl (size_ref.trans (by rw [HLen.out])) ?_)
        | (refine wpList_store_new rfl 98 _ _ rfl row.toArray rfl rfl (size_ref.trans (by rw [List.size_toArray, HLen.out])) (by rw [show row.toArray.size = 33 from by rw [List.size_toArray, HLen.out]]; rfl) (all_oneCell_toArray HOne.out) ?_))
      rw [hwA]
      clear hwA
      have hown : ∀ g, some g = (Value.slice ou nu cu).ownBlock → g < wr.heap.size := fun g hg => (HO.out.lt g hg.symm).2
      have HOwn := Lib.hid hown
      have hd : Chg (fun _ => False) wA wA.drew := (Chg.refl _ _).drew
      have HDr := Lib.hid hd
      have HLw := Lib.hid (show w.heap.size ≤ bx from by rw [hbx]; exact Nat.le_refl _)
      clear hown hd
      refine wp_region_noPanic ?_
      refine wp_region_held_drew (S := (fun w' => w'.cell? ⟨wr.heap.size, 32, none⟩ = some (.int .i64 (z : Int)))) (by kernel_rfl) (HA32.out) (fun hHeld => ?_)
      refine take_list (i := 0) (v := ?_) rfl (by kernel_rfl) (by kernel_rfl) (by kernel_rfl) (fun _ _ _ h => h) (Or.inl ⟨by rfl, fun w hSw => ?_⟩) hHeld ?_
      rotate_left
      · (have hSw1 := hSw; go_simp)
        try with_reducible rfl
      simp only [Act.put, List.setIfInBounds_toArray, List.set_cons_zero, List.set_cons_succ]
      refine take_list (i := 1) (v := ?_) rfl (by kernel_rfl) (by kernel_rfl) (by kernel_rfl) (fun _ _ _ h => h) (Or.inl ⟨by rfl, fun w hSw => ?_⟩) hHeld ?_
      rotate_left
      · (have hSw1 := hSw; go_simp)
        try with_reducible rfl
      simp only [Act.put, List.setIfInBounds_toArray, List.set_cons_zero, List.set_cons_succ]
      refine take_list (i := 2) (v := ?_) rfl (by kernel_rfl) (by kernel_rfl) (by kernel_rfl) (fun _ _ _ h => h) (Or.inl ⟨by rfl, fun w hSw => ?_⟩) hHeld ?_
      rotate_left
      · (have hSw1 := hSw; go_simp)
        try with_reducible rfl
      simp only [Act.put, List.setIfInBounds_toArray, List.set_cons_zero, List.set_cons_succ]
      refine take_list (i := 4) (v := ?_) rfl (by kernel_rfl) (by kernel_rfl) (by kernel_rfl) (fun _ _ _ h => h) (Or.inl ⟨by rfl, fun w hSw => ?_⟩) hHeld ?_
      rotate_left
      · (have hSw1 := hSw; go_simp)
        try with_reducible rfl
      simp only [Act.put, List.setIfInBounds_toArray, List.set_cons_zero, List.set_cons_succ]
      refine take_list (i := 5) (v := ?_) rfl (by kernel_rfl) (by kernel_rfl) (by kernel_rfl) (fun _ _ _ h => h) (Or.inl ⟨by rfl, fun w hSw => ?_⟩) hHeld ?_
      rotate_left
      · (have hSw1 := hSw; go_simp)
        try with_reducible rfl
      simp only [Act.put, List.setIfInBounds_toArray, List.set_cons_zero, List.set_cons_succ]
      refine take_list (i := 6) (v := ?_) rfl (by kernel_rfl) (by kernel_rfl) (by kernel_rfl) (fun _ _ _ h => h) (Or.inl ⟨by rfl, fun w hSw => ?_⟩) hHeld ?_
      rotate_left
      · (have hSw1 := hSw; go_simp)
        try with_reducible rfl
      simp only [Act.put, List.setIfInBounds_toArray, List.set_cons_zero, List.set_cons_succ]
      refine wpAnyH_ready (rs := [3]) (by kernel_rfl) (by simp) (one_list (i := 3) rfl (by rfl) (fun K hK => ?_) AllReadyH.nil)
      · obtain ⟨v3, w3, hap, ho3, hg3⟩ := append_slice (own_kept HO.out (HCA.out.trans' HDr.out)) (HSl.out _ (HDr.out.mono (fun _ _ h => h.elim))) (by have := HBs.out; have := (HCA.out.trans' HDr.out).size; omega) (by have := HPl.out; have := HDl.out; rw [cellsB_length] at this; omega) 101
        have q3 := hg3.cell (HDr.out.cell HA32.out id) (fun e => absurd (HOwn.out _ e) (Nat.lt_irrefl _))
        have hc3 : Chg (fun _ => False) w w3 := (HC.out.trans' (HCA.out.trans' HDr.out)).new hg3 (fun i e => by have := (HO.out.lt i e.symm).1; have := HLw.out; omega)
        obtain ⟨M3, hM3⟩ : ∃ M, (P0 ++ laysB (L.take k) ++ x.sum).length = M := ⟨_, rfl⟩
        have hM3b : M3 ≤ 432 := by rw [← hM3, List.length_append]; have := HPl.out; have := HDl.out; rw [cellsB_length] at this; omega
        rw [hM3] at ho3
        obtain ⟨o3, p3, hv3⟩ := own_slice ho3
        subst hv3
        have hbb3 := hg3.at (HDr.out.at HBa.out id) (fun e => absurd (HOwn.out _ e) (Nat.lt_irrefl _))
        have HBb3 := Lib.hid hbb3
        have hb3 : bx < w3.heap.size := by have h1 := (HCA.out.trans' HDr.out).size; have h2 := hg3.size; have := HBs.out; omega
        have HO3 := Lib.hid ho3
        have HC3 := Lib.hid hc3
        have HQ3 := Lib.hid q3
        have HB3 := Lib.hid hb3
        refine oper_append _ _ _ rfl rfl rfl hap ?_
        clear hap ho3 hg3 q3 hc3 hb3 hbb3
        refine hK _ _ (HQ3.out) (fun hA1 => ?_)
        try simp only [Act.put, List.setIfInBounds_toArray, List.set_cons_zero, List.set_cons_succ]
        refine wpAnyH_ready (rs := [7]) (by kernel_rfl) (by simp) (one_list (i := 7) rfl (by rfl) (fun K hK => ?_) AllReadyH.nil)
        go_simp
        rw [HZm.out]
        refine (HVar.out w3).mono ?_
        rintro e w4 ⟨v4, rfl, ho4, hc4⟩
        obtain ⟨M4, hM4⟩ : ∃ M, (varB z).length = M := ⟨_, rfl⟩
        have hM4b : M4 ≤ 10 := by rw [← hM4]; exact (varB_length z).1
        rw [hM4] at ho4
        obtain ⟨o4, p4, hv4⟩ := own_slice ho4
        subst hv4
        have q4 := hc4.cell HQ3.out id
        obtain ⟨v5, w5, hap, ho5, hg5⟩ := append_slice (own_kept HO3.out hc4) (SlAt.of_own ho4) (by have := HB3.out; have := hc4.size; omega) (by rw [hM3, hM4]; omega) 101
        have q5 : w5.cell? ⟨wr.heap.size, 32, none⟩ = some (.int .i64 (z : Int)) := hg5.cell q4 (fun e => own_ne (own_kept HO3.out hc4) (hc4.at HBb3.out id) (by decide) _ e.symm rfl)
        have hc5 : Chg (fun _ => False) w w5 := (HC3.out.trans' hc4).new hg5 (fun i e => by have := (HO3.out.lt i e.symm).1; have := HLw.out; omega)
        obtain ⟨M5, hM5⟩ : ∃ M, (P0 ++ laysB (L.take k) ++ x.sum ++ varB z).length = M := ⟨_, rfl⟩
        rw [hM5] at ho5
        obtain ⟨o5, p5, hv5⟩ := own_slice ho5
        subst hv5
        have hfin : w5.ownsRow bx 5 1 (.slice o5 M5 p5) (P0 ++ laysB (L.take (k + 1))).length (cellsB (P0 ++ laysB (L.take (k + 1)))) := by
          rw [HLay.out, ← List.append_assoc, ← List.append_assoc, hM5]; exact ho5
        have hb5 : bx < w5.heap.size := by have := (HC3.out.trans' hc4).size; have := hg5.size; have := HB3.out; have := hc4.size; omega
        have HFin := Lib.hid (And.intro hfin (And.intro hc5 hb5))
        have HQ4 := Lib.hid q4
        have HQ5 := Lib.hid q5
        have HAp := Lib.hid hap
        clear ho4 hc4 hM4 q4 hap ho5 hg5 q5 hc5 hM5 hfin hb5
        refine hK _ _ (HQ4.out) (fun hA2 => ?_)
        try simp only [Act.put, List.setIfInBounds_toArray, List.set_cons_zero, List.set_cons_succ]
        refine wpAnyH_ready (rs := [8]) (by kernel_rfl) (by simp) (one_list (i := 8) rfl (by rfl) (fun K hK => ?_) AllReadyH.nil)
        refine oper_append _ _ _ rfl rfl rfl HAp.out ?_
        refine hK _ _ (HQ5.out) (fun hA3 => ?_)
        try simp only [Act.put, List.setIfInBounds_toArray, List.set_cons_zero, List.set_cons_succ]
        refine take_list (i := 9) (v := ?_) rfl (by kernel_rfl) (by kernel_rfl) (by kernel_rfl) (fun _ _ _ h => h) (Or.inl ⟨by rfl, fun w hSw => ?_⟩) hA3 ?_
        rotate_left
        · (skip; go_simp)
          try with_reducible rfl
        simp only [Act.put, List.setIfInBounds_toArray, List.set_cons_zero, List.set_cons_succ]
        refine wpAnyH_done (by kernel_rfl) ?_ _
        refine NoPanic.normal ?_
        go_wp2_with fail
        exact ⟨⟨k + 1, _, _, _, by go_num, rfl, hlt, HFin.out⟩, by simp [intOf]; omega⟩
    · have hki : ¬ (k : Int) < (N : Int) := by omega
      have hkN : k = L.length := by rw [HN2.out]; omega
      have ho := HO.out
      rw [hkN, List.take_length] at ho
      have HO2 := Lib.hid ho
      clear hkN ho
      go_wp2_with fail
      go_ret2
      have hB := HB.out
      rw [HN2.out, hP0] at hB
      refine ⟨_, rfl, ?_, HC.out⟩
      rw [← hB]
      exact HO2.out

end Go.Proofs.YtbjagmlbamjdbaaGreat.roots
end

/-
  kv: Open of what is no disk, or cannot be opened.
-/
section
set_option linter.unusedSimpArgs false
set_option linter.unusedVariables false
namespace Go.Proofs.YtbjagmlbamjdbaaGreat.kvs
open Go.RowKit Go.Maps Go.My Go.ChangeMaps disks bufs wals
set_option maxRecDepth 100000

variable {w w' : World}

end Go.Proofs.YtbjagmlbamjdbaaGreat.kvs
end

/-
  rootdb: a package's bytes; none, asked; roots that no call made.
-/
section
set_option linter.unusedSimpArgs false
set_option linter.unusedVariables false
namespace Go.Proofs.YtbjagmlbamjdbaaGreat.roots
open Go.RowKit Go.Maps Go.My Go.ChangeMaps disks bufs wals kvs
set_option maxRecDepth 100000

variable {w w' : World}

theorem bytes_is (w : World) (p : Pk) {F : Nat → Prop} {v : Value} (h : LysAt w F v p.man.layers) (hm : mchkF p.man = 0) (ho : 1 ≤ p.owner ∧ p.owner ≤ 8) :
    Calls Tryz.prog 95 #[.agg #[.int .i64 p.owner, strV p.man.name, strV p.man.ver, v]] w fun e w' => e = .returned (strV (pencF p)) ∧ Chg (fun _ => False) w w' := by
  obtain ⟨ow, nm, vr, L⟩ := p
  simp only at h ho hm ⊢
  obtain ⟨o, rfl⟩ : ∃ o : Nat, ow = (o : Int) := ⟨ow.toNat, by omega⟩
  have hpe : pencF ⟨(o : Int), nm, vr, L⟩ = [UInt8.ofNat o] ++ mencF ⟨nm, vr, L⟩ := by unfold pencF; simp
  rw [hpe]
  obtain ⟨oa, cap, rfl, -⟩ := id h.is
  obtain ⟨sn, hsn⟩ : ∃ s, strV nm = .string s := ⟨_, rfl⟩
  obtain ⟨sv, hsv⟩ : ∃ s, strV vr = .string s := ⟨_, rfl⟩
  have hcx := ((Chg.refl (fun _ => False) w)).alloc (.cells #[.int .i64 (o : Int), .string sn, .string sv, .slice oa L.length cap] 90)
  have hen := encode_is (w.alloc (.cells #[.int .i64 (o : Int), .string sn, .string sv, .slice oa L.length cap] 90)) ⟨nm, vr, L⟩ (h.fresh hcx) hm
  simp only at hen
  rw [hsn, hsv] at hen
  rw [hsn, hsv]
  have HBx := Lib.hid (block_alloc_new w (.cells #[.int .i64 (o : Int), .string sn, .string sv, .slice oa L.length cap] 90))
  have hml : (mencF ⟨nm, vr, L⟩).length ≤ 400 := by
    have h1 := (pencF_len (p := ⟨(o : Int), nm, vr, L⟩) h.dig hm).1
    have h2 := (mchkF_ok hm).few
    rw [hpe] at h1
    simp only [List.length_append, List.length_singleton] at h1 h2
    omega
  obtain ⟨B, hB⟩ : ∃ B, mencF ⟨nm, vr, L⟩ = B := ⟨_, rfl⟩
  rw [hB] at hen hml ⊢
  have HEn := Lib.hid hen
  have HCx := Lib.hid hcx
  have hom : (o : Int) % 256 = (o : Int) := by omega
  obtain ⟨t, ht⟩ : ∃ t, strV [UInt8.ofNat o] = .string t := ⟨_, rfl⟩
  obtain ⟨s, hs⟩ : ∃ s, strV B = .string s := ⟨_, rfl⟩
  have hts : strV ([UInt8.ofNat o] ++ B) = .string (t ++ s) := by
    rw [strV_string _ t ht, strV_string _ s hs, str_append]; rfl
  have htz : t.size = 1 := str_size _ t ht
  have hsz : s.size ≤ 400 := by rw [str_size B s hs]; exact hml
  have hct : ∀ W : World, (convert 101 9 (.slice (some ⟨W.heap.size, 0, none⟩) 1 1)).run Tryz.prog (W.alloc (.cells #[.int .u8 (o : Int)] 5)) = .ok (.string t) (W.alloc (.cells #[.int .u8 (o : Int)] 5)) := fun W => by
    rw [← ht]
    refine conv_own (b := [UInt8.ofNat o]) (n := 1) (base := 0) ?_
    have := own_of_block (w := W.alloc (.cells #[.int .u8 (o : Int)] 5)) (base := 0) (n := 1) at1 (Nat.zero_le _) rfl (by unfold maxLen; omega)
    simp only [cellsB, List.map_cons, List.map_nil, toNat_ofNat_lt (show o < 256 by omega)]
    exact this
  have HCt := Lib.hid hct
  have HS := Lib.hid hs
  rw [hts]
  clear hct hts ht hs hen hcx hsn hsv h hB hm hpe
  go_enter Tryz.func95, Tryz.ntmps95
  go_wp2_with (first
    | (go_at_call 148; refine HEn.out.mono ?_; rintro e w1 ⟨v1, rfl, ho1, hc1⟩
       obtain ⟨o1, p1, hv1⟩ := own_slice ho1
       subst hv1
       have hb1 := hc1.at HBx.out id
       have d0 : w1.cell? ⟨w.heap.size, 0, none⟩ = some (.int .i64 (o : Int)) := cell_of_block hb1 rfl
       have hct := HCt.out w1
       have hca := (Chg.refl (fun _ => False) w1).alloc (.cells #[.int .u8 (o : Int)] 5)
       have hcs : (convert 101 9 (.slice o1 B.length p1)).run Tryz.prog (w1.alloc (.cells #[.int .u8 (o : Int)] 5)) = .ok (.string s) (w1.alloc (.cells #[.int .u8 (o : Int)] 5)) := by
         rw [← HS.out]; exact conv_own (own_kept ho1 hca)
       have HC := Lib.hid ((HCx.out.trans' hc1).trans' hca)
       clear hb1 hc1 hca ho1))
  go_ret
  exact ⟨rfl, HC.out⟩

/-! ### roots that no call made -/
def NoRoot (w : World) (p : Option Addr) : Prop := p = none ∨ ∃ T, p = some ⟨T, 0, none⟩ ∧ w.cell? ⟨T, 0, none⟩ = some (.pointer none)
theorem NoRoot.kept {p : Option Addr} (h : NoRoot w p) (hc : Chg (fun _ => False) w w') : NoRoot w' p := by
  rcases h with h | ⟨T, h1, h2⟩
  · exact Or.inl h
  · exact Or.inr ⟨T, h1, hc.cell h2 id⟩

end Go.Proofs.YtbjagmlbamjdbaaGreat.roots
end
