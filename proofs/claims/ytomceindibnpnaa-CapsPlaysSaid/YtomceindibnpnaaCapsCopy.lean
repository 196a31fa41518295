/-
  caps: maps.Clone and Copy.
-/
import Derived.Test.YtomceindibnpnaaCapsLists
import Derived.Laws.Externs
import Derived.Deep.RegionHeld3
namespace Go.Proofs.Ytomceindibnpnaa
open Go.RowKit Go.Maps Go.My

section
variable {P : Program} (w : World)
theorem run_assert_map (t xT k e : TypeId) (v : Value) (h : P.underlying t = some (.map k e)) : (Instr.typeAssert (.iface t v) xT t false).run P w = .ok v w := by
  simp [Instr.typeAssert, run_underlying h, go_sem, Result.andThen]
theorem run_clone_ext {r : Nat} {es : Array MapEntry} {clock : Nat} (t : TypeId) (hb : w.heap[r]? = some (.map es clock)) :
    (Extern.MapsClone.clone #[.iface t (.map (some r))]).run P w = .ok (.iface t (.map (some w.heap.size))) (w.alloc (.map es clock)) := by
  have e : Extern.MapsClone.clone #[.iface t (.map (some r))] = (getObj r >>= fun o => match o with
      | .map entries clock => (newObj (.map entries clock) >>= fun n => pure (.iface t (.map (some n))))
      | _ => stuck "maps.clone: a map expected") := rfl
  rw [e]
  simp [MapKept.run_getObj_map hb, Result.andThen, go_sem]
end

set_option maxRecDepth 100000 in
theorem clone_q (b : Nat) (es : Array MapEntry) (clock : Nat) (w : World) (hb : w.heap[b]? = some (.map es clock)) :
    Calls Try.prog 52 #[.map (some b)] w fun e w' => e = .returned (.map (some w.heap.size)) ∧ w' = w.alloc (.map es clock) := by
  have hq := fun w => run_eql_map_nil (P := Try.prog) w 99 _ _ (some b) Try.underlying99
  have Hb := Lib.hid hb
  clear hb
  go_enter Try.func52, Try.ntmps52
  go_wp2_with fail

  rw [run_callFunc_extern Try.func73 (by kernel_rfl) (by kernel_rfl) (by kernel_rfl) (e := Extern.MapsClone.clone) (by kernel_rfl), run_clone_ext w 99 Hb.out]
  simp only [Result.andThen]
  rw [Oper.upon_value]
  go_wp2
  rw [run_assert_map _ 99 20 _ _ _ Try.underlying99]
  simp only [Result.andThen]
  rw [Oper.upon_value]
  go_wp2
  go_ret
  exact ⟨rfl, rfl⟩

set_option maxRecDepth 100000 in
theorem clone_g (b : Nat) (es : Array MapEntry) (clock : Nat) (w : World) (hb : w.heap[b]? = some (.map es clock)) :
    Calls Try.prog 53 #[.map (some b)] w fun e w' => e = .returned (.map (some w.heap.size)) ∧ w' = w.alloc (.map es clock) := by
  have hq := fun w => run_eql_map_nil (P := Try.prog) w 100 _ _ (some b) Try.underlying100
  have Hb := Lib.hid hb
  clear hb
  go_enter Try.func53, Try.ntmps53
  go_wp2_with fail

  rw [run_callFunc_extern Try.func73 (by kernel_rfl) (by kernel_rfl) (by kernel_rfl) (e := Extern.MapsClone.clone) (by kernel_rfl), run_clone_ext w 100 Hb.out]
  simp only [Result.andThen]
  rw [Oper.upon_value]
  go_wp2
  rw [run_assert_map _ 100 20 _ _ _ Try.underlying100]
  simp only [Result.andThen]
  rw [Oper.upon_value]
  go_wp2
  go_ret
  exact ⟨rfl, rfl⟩


theorem copied_qg {w : World} {T B q g : Nat} {Q : List (Int × Int)} {G : List ((Int × Int) × Bool)} (h : TabAt w T B q g Q G) {es1 es2 : Array MapEntry} {k1 k2 : Nat} (hq : w.heap[q]? = some (.map es1 k1)) (hg : w.heap[g]? = some (.map es2 k2)) :
    TabAt (((((w.alloc (.map es1 k1)).alloc (.map es2 k2)).alloc (.cells #[.map (some w.heap.size), .map (some (w.heap.size + 1))] 102)).alloc (.cells #[.pointer (some ⟨w.heap.size + 1 + 1, 0, none⟩)] 51)).drew) (w.heap.size + 1 + 1 + 1) (w.heap.size + 1 + 1) w.heap.size (w.heap.size + 1) Q G ∧ Chg (fun _ => False) w (((((w.alloc (.map es1 k1)).alloc (.map es2 k2)).alloc (.cells #[.map (some w.heap.size), .map (some (w.heap.size + 1))] 102)).alloc (.cells #[.pointer (some ⟨w.heap.size + 1 + 1, 0, none⟩)] 51)).drew) ∧ w.heap.size ≤ w.heap.size + 1 + 1 + 1 ∧ w.heap.size ≤ w.heap.size + 1 + 1 ∧ w.heap.size ≤ w.heap.size ∧ w.heap.size ≤ (w.heap.size + 1) := by
  refine ⟨⟨?_, ?_, h.quotas.copied hq ?_, h.grants.copied hg ?_, by omega⟩, ((((Chg.refl _ _).alloc _).alloc _).alloc _).alloc _ |>.drew, by omega, by omega, by omega, by omega⟩
  all_goals (simp only [heap_drew, heap_alloc_get, World.size_alloc, if_true]; repeat (first | rw [if_pos (by omega)] | rw [if_neg (by omega)]))

theorem copied_gq {w : World} {T B q g : Nat} {Q : List (Int × Int)} {G : List ((Int × Int) × Bool)} (h : TabAt w T B q g Q G) {es1 es2 : Array MapEntry} {k1 k2 : Nat} (hq : w.heap[q]? = some (.map es1 k1)) (hg : w.heap[g]? = some (.map es2 k2)) :
    TabAt (((((w.alloc (.map es2 k2)).alloc (.map es1 k1)).alloc (.cells #[.map (some (w.heap.size + 1)), .map (some w.heap.size)] 102)).alloc (.cells #[.pointer (some ⟨w.heap.size + 1 + 1, 0, none⟩)] 51)).drew) (w.heap.size + 1 + 1 + 1) (w.heap.size + 1 + 1) (w.heap.size + 1) w.heap.size Q G ∧ Chg (fun _ => False) w (((((w.alloc (.map es2 k2)).alloc (.map es1 k1)).alloc (.cells #[.map (some (w.heap.size + 1)), .map (some w.heap.size)] 102)).alloc (.cells #[.pointer (some ⟨w.heap.size + 1 + 1, 0, none⟩)] 51)).drew) ∧ w.heap.size ≤ w.heap.size + 1 + 1 + 1 ∧ w.heap.size ≤ w.heap.size + 1 + 1 ∧ w.heap.size ≤ (w.heap.size + 1) ∧ w.heap.size ≤ w.heap.size := by
  refine ⟨⟨?_, ?_, h.quotas.copied hq ?_, h.grants.copied hg ?_, by omega⟩, ((((Chg.refl _ _).alloc _).alloc _).alloc _).alloc _ |>.drew, by omega, by omega, by omega, by omega⟩
  all_goals (simp only [heap_drew, heap_alloc_get, World.size_alloc, if_true]; repeat (first | rw [if_pos (by omega)] | rw [if_neg (by omega)]))

set_option maxRecDepth 100000 in
set_option maxHeartbeats 1000000 in
theorem copy_any (w : World) (T B q g : Nat) (Q G) (h : TabAt w T B q g Q G) :
    Calls Try.prog 25 #[.pointer (some ⟨T, 0, none⟩)] w fun e w' => ∃ T' B' q' g', e = .returned (.pointer (some ⟨T', 0, none⟩)) ∧ TabAt w' T' B' q' g' Q G ∧ Chg (fun _ => False) w w' ∧ w.heap.size ≤ T' ∧ w.heap.size ≤ B' ∧ w.heap.size ≤ q' ∧ w.heap.size ≤ g' := by
  have c0 : w.cell? ⟨T, 0, none⟩ = some (.pointer (some ⟨B, 0, none⟩)) := cell_of_block h.tab rfl
  have c1 : w.cell? ⟨B, 0, none⟩ = some (.map (some q)) := cell_of_block h.book rfl
  have c2 : w.cell? ⟨B, 1, none⟩ = some (.map (some g)) := cell_of_block h.book rfl
  obtain ⟨es1, k1, hq, -⟩ := id h.quotas
  obtain ⟨es2, k2, hg, -⟩ := id h.grants
  have H := Lib.hid h
  have Hq := Lib.hid hq
  have Hg := Lib.hid hg
  clear h hq hg
  go_enter Try.func25, Try.ntmps25
  go_wp2_with (go_at_call 49; refine (none_no _ _ _ _ _ _ _ H.out).mono ?_; rintro e w' ⟨rfl, rfl⟩)
  have ht := lt_of_block H.out.tab
  have hb := lt_of_block H.out.book
  have d0 : ∀ o, (w.alloc o).cell? ⟨T, 0, none⟩ = some (.pointer (some ⟨B, 0, none⟩)) := fun o => by rw [World.cell?_alloc_lt _ _ _ ht]; exact c0
  have d1 : ∀ o, (w.alloc o).cell? ⟨B, 0, none⟩ = some (.map (some q)) := fun o => by rw [World.cell?_alloc_lt _ _ _ hb]; exact c1
  have d2 : ∀ o, (w.alloc o).cell? ⟨B, 1, none⟩ = some (.map (some g)) := fun o => by rw [World.cell?_alloc_lt _ _ _ hb]; exact c2
  go_region_held3 (fun w' => w'.cell? ⟨T, 0, none⟩ = some (.pointer (some ⟨B, 0, none⟩)) ∧ w'.cell? ⟨B, 0, none⟩ = some (.map (some q)) ∧ w'.cell? ⟨B, 1, none⟩ = some (.map (some g))) (refine ⟨?_, ?_, ?_⟩ <;> ((repeat (first | rw [World.cell?_drew] | rw [World.cell?_alloc_lt _ _ _ (by simp only [World.size_alloc, World.size_drew]; omega)])); assumption))
    (first
    | (go_at_call 52; refine (clone_q q es1 k1 _ (by first | exact Hq.out | (rw [heap_alloc_get, if_neg (by have := lt_of_block Hq.out; omega)]; exact Hq.out) | exact (Hq.out : w.drew.heap[q]? = _) | (show (w.alloc _).heap[q]? = _; rw [heap_alloc_get, if_neg (by have := lt_of_block Hq.out; omega)]; exact Hq.out))).mono ?_; rintro e w' ⟨rfl, rfl⟩)
    | (go_at_call 53; refine (clone_g g es2 k2 _ (by first | exact Hg.out | (rw [heap_alloc_get, if_neg (by have := lt_of_block Hg.out; omega)]; exact Hg.out) | exact (Hg.out : w.drew.heap[g]? = _) | (show (w.alloc _).heap[g]? = _; rw [heap_alloc_get, if_neg (by have := lt_of_block Hg.out; omega)]; exact Hg.out))).mono ?_; rintro e w' ⟨rfl, rfl⟩))
  all_goals go_wp2_with fail
  all_goals go_ret
  all_goals first
    | exact ⟨w.heap.size + 1 + 1 + 1, w.heap.size + 1 + 1, w.heap.size, w.heap.size + 1, rfl, copied_qg H.out Hq.out Hg.out⟩
    | exact ⟨w.heap.size + 1 + 1 + 1, w.heap.size + 1 + 1, w.heap.size + 1, w.heap.size, rfl, copied_gq H.out Hq.out Hg.out⟩

end Go.Proofs.Ytomceindibnpnaa
