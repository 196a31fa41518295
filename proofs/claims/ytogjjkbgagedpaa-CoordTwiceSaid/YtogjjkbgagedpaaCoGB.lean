/-
  coord, of any plans: packages in memory of their own.
-/
import Derived.Test.YtogjjkbgagedpaaCoGA
namespace Go.Proofs.Ytogjjkbgagedpaa.coordg
open Go.RowKit Go.Maps Go.My Go.ChangeMaps coords
set_option maxRecDepth 100000

variable {w w' : World} {c q x qa : Nat} {F F' Fc : Nat → Prop} {lim : Int} {m : List (Int × Nat)} {E : EV} {pv : Value}

theorem own_no (w : World) (e : TypeId) (n : Nat) : (w.alloc (.cells #[] e)).ownsRow w.heap.size e n (.slice (some ⟨w.heap.size, 0, none⟩) 0 0) 0 [] := by
  have := World.ownsRow_lit (base := w.heap.size) (e := e) (size := n) w #[] 0 (by simp) (by unfold maxLen; omega) (by simp)
  simpa using this

theorem info_pack : (Try.prog.info? 94).map (fun i => (i.zero, i.size, i.bytes)) = some (some (.agg #[.int .i64 0, .string ByteArray.empty, .string ByteArray.empty, .slice none 0 0]), 4, 64) := by kernel_rfl
theorem info_ref : (Try.prog.info? 127).map (fun i => (i.zero, i.size, i.bytes)) = some (some (.agg (List.replicate 32 (Value.int .u8 0) ++ [Value.int .i64 0]).toArray), 33, 40) := by kernel_rfl

theorem rows_flat {n : Nat} {oa : Option Addr} {l : List (List Value)} (h : RowsAt w n oa l) (hn : 0 < n) {a : Addr} (ha : oa = some a) : ∀ j u, l.flatten[j]? = some u → w.cell? (a.add j) = some u := by
  intro j u hu
  have hr : ∀ r ∈ l, r.length = n := fun r hr => by obtain ⟨i, hi⟩ := List.getElem?_of_mem hr; exact h.row i r hi
  have hlen := flat_length n l hr
  have hj : j < l.length * n := by rw [← hlen]; exact (List.getElem?_eq_some_iff.1 hu).1
  have hne : l ≠ [] := by intro e; subst e; simp at hj
  obtain ⟨b, off, e⟩ := h.spot hne
  rw [e] at ha
  cases ha
  have hd : j = (j / n) * n + j % n := by have := Nat.div_add_mod j n; rw [Nat.mul_comm] at this; omega
  have hjn := Nat.mod_lt j hn
  rw [hd, flat_get n l hr (j / n) (j % n) hjn] at hu
  cases hk : l[j / n]? with
  | none => rw [hk] at hu; simp at hu
  | some r =>
    rw [hk, Option.bind_some] at hu
    have := h.cell b off e (j / n) r (j % n) u hk hu
    rw [show off + j / n * n + j % n = off + j from by omega] at this
    rw [show (⟨b, off, none⟩ : Addr).add j = ⟨b, off + j, none⟩ from by unfold Addr.add; by_cases e1 : j = 0 <;> simp [e1]]
    exact this


set_option maxHeartbeats 1000000 in
theorem clone_packs (w : World) (oa : Option Addr) (cap : Nat) (l : List (List Value)) (h : RowsAt w 4 oa l) (h1 : ∀ x ∈ l.flatten, x.oneCell' = true) (hl : l.length ≤ 20) :
    Calls Try.prog 74 #[.slice oa l.length cap] w fun e w' => ∃ v, e = .returned v ∧ OwnRecs w' w.heap.size 94 4 v l ∧ Chg (fun _ => False) w w' := by
  obtain ⟨i0, hI0⟩ := info_parts info_pack
  have HI0 := Lib.hid hI0
  have hnil := fun w' => run_eql_slice_nil (P := Try.prog) w' 22 _ oa l.length cap Try.underlying22
  have heach : ∀ r ∈ l, r.length = 4 := fun r hr => by obtain ⟨i, hi⟩ := List.getElem?_of_mem hr; exact h.row i r hi
  have H := Lib.hid h
  have HE := Lib.hid heach
  have H1 := Lib.hid h1
  clear h hI0 heach h1
  cases oa with
  | none =>
    have hl0 : l = [] := by
      cases l with
      | nil => rfl
      | cons a l => obtain ⟨b, off, e⟩ := H.out.spot (by simp); cases e
    subst hl0
    clear hnil
    have hnil := fun w' => run_eql_slice_nil (P := Try.prog) w' 22 _ none 0 cap Try.underlying22
    show Calls Try.prog 74 #[.slice none 0 cap] w _
    go_enter Try.func74, Try.ntmps74
    go_wp2_with fail
    go_ret
    exact ⟨_, rfl, OwnRecs.nil _ _ _ _, Chg.refl _ _⟩
  | some a =>
    have hcells : ∀ j u, l.flatten[j]? = some u → (w.alloc (.cells #[] 94)).cell? (a.add j) = some u := fun j u hu => ((Chg.refl (fun _ => False) w).alloc _).cell (rows_flat H.out (by omega) rfl j u hu) id
    have HCells := Lib.hid hcells
    have HFl := Lib.hid (flat_length 4 l HE.out)
    clear hcells
    go_enter Try.func74, Try.ntmps74
    go_wp2_with (first
      | (at_builtin; (refine wpList_append_own_at _ rfl _ _ 22 rfl w.heap.size 94 i0 (.agg #[.int .i64 0, .string ByteArray.empty, .string ByteArray.empty, .slice none 0 0]) 4 64 Try.underlying22 HI0.out.1 HI0.out.2.1 HI0.out.2.2.1 HI0.out.2.2.2 rfl (by decide) _ _ _ rfl (own_no w _ _) a l.length cap l.flatten rfl HFl.out HCells.out H1.out (by unfold maxLen; omega) (by omega) (by simp only [World.size_alloc]; omega) ?_)))
    intro v' w2 ho hg _ _
    have HO := Lib.hid ho
    have HG := Lib.hid hg
    clear ho hg
    go_wp2_with fail
    go_ret
    refine ⟨_, rfl, ⟨by simpa using HO.out, HE.out⟩, ?_⟩
    exact ((Chg.refl _ _).alloc _).trans (Chg.of_grown HG.out) (fun i hi hk => by simp [Value.ownBlock] at hk; omega)

set_option maxHeartbeats 1000000 in
theorem clone_refs (w : World) (oa : Option Addr) (cap : Nat) (l : List (List Value)) (h : RowsAt w 33 oa l) (h1 : ∀ x ∈ l.flatten, x.oneCell' = true) (hl : l.length ≤ 20) :
    Calls Try.prog 75 #[.slice oa l.length cap] w fun e w' => ∃ v, e = .returned v ∧ OwnRecs w' w.heap.size 127 33 v l ∧ Chg (fun _ => False) w w' := by
  obtain ⟨i0, hI0⟩ := info_parts info_ref
  have HI0 := Lib.hid hI0
  have hnil := fun w' => run_eql_slice_nil (P := Try.prog) w' 90 _ oa l.length cap Try.underlying90
  have heach : ∀ r ∈ l, r.length = 33 := fun r hr => by obtain ⟨i, hi⟩ := List.getElem?_of_mem hr; exact h.row i r hi
  have H := Lib.hid h
  have HE := Lib.hid heach
  have H1 := Lib.hid h1
  clear h hI0 heach h1
  cases oa with
  | none =>
    have hl0 : l = [] := by
      cases l with
      | nil => rfl
      | cons a l => obtain ⟨b, off, e⟩ := H.out.spot (by simp); cases e
    subst hl0
    clear hnil
    have hnil := fun w' => run_eql_slice_nil (P := Try.prog) w' 90 _ none 0 cap Try.underlying90
    show Calls Try.prog 75 #[.slice none 0 cap] w _
    go_enter Try.func75, Try.ntmps75
    go_wp2_with fail
    go_ret
    exact ⟨_, rfl, OwnRecs.nil _ _ _ _, Chg.refl _ _⟩
  | some a =>
    have hcells : ∀ j u, l.flatten[j]? = some u → (w.alloc (.cells #[] 127)).cell? (a.add j) = some u := fun j u hu => ((Chg.refl (fun _ => False) w).alloc _).cell (rows_flat H.out (by omega) rfl j u hu) id
    have HCells := Lib.hid hcells
    have HFl := Lib.hid (flat_length 33 l HE.out)
    clear hcells
    go_enter Try.func75, Try.ntmps75
    go_wp2_with (first
      | (at_builtin; (refine wpList_append_own_at _ rfl _ _ 90 rfl w.heap.size 127 i0 (.agg (List.replicate 32 (Value.int .u8 0) ++ [Value.int .i64 0]).toArray) 33 40 Try.underlying90 HI0.out.1 HI0.out.2.1 HI0.out.2.2.1 HI0.out.2.2.2 rfl (by decide) _ _ _ rfl (own_no w _ _) a l.length cap l.flatten rfl HFl.out HCells.out H1.out (by unfold maxLen; omega) (by omega) (by simp only [World.size_alloc]; omega) ?_)))
    intro v' w2 ho hg _ _
    have HO := Lib.hid ho
    have HG := Lib.hid hg
    clear ho hg
    go_wp2_with fail
    go_ret
    refine ⟨_, rfl, ⟨by simpa using HO.out, HE.out⟩, ?_⟩
    exact ((Chg.refl _ _).alloc _).trans (Chg.of_grown HG.out) (fun i hi hk => by simp [Value.ownBlock] at hk; omega)

end Go.Proofs.Ytogjjkbgagedpaa.coordg
