/-
  disk: through, Fuse, Write.
-/
import Derived.Test.YtomceindibnpnaaDisk
import Derived.Test.YtomceindibnpnaaDiskActs
import Derived.Deep.RegionHeld3
import Derived.Maps.AppendAt
namespace Go.Proofs.Ytomceindibnpnaa.disks
open Go.RowKit Go.Maps Go.My
set_option maxRecDepth 100000

variable {w w' : World} {d q : Nat} {F F' : Nat → Prop} {X X' : DV} {bv : Value} {m : List (Int × (Value × List Blk))}

theorem setD2 (h : DiskIs w d F X bv q m) (f : Int) : Chg (· = d) w (w.setCell ⟨d, 2, none⟩ (.int .i64 f)) ∧ DiskIs (w.setCell ⟨d, 2, none⟩ (.int .i64 f)) d F { X with fuse := f } bv q m := by
  have hc : Chg (· = d) w (w.setCell ⟨d, 2, none⟩ (.int .i64 f)) := Chg.setCell (S := (· = d)) (Chg.refl _ _) (fun _ => rfl) _
  refine ⟨hc, h.putD f X.down X.done hc ?_⟩
  rw [block_setCell (h.head.trans rfl)]; rfl

theorem setD3 (h : DiskIs w d F X bv q m) (b : Bool) : Chg (· = d) w (w.setCell ⟨d, 3, none⟩ (.bool b)) ∧ DiskIs (w.setCell ⟨d, 3, none⟩ (.bool b)) d F { X with down := b } bv q m := by
  have hc : Chg (· = d) w (w.setCell ⟨d, 3, none⟩ (.bool b)) := Chg.setCell (S := (· = d)) (Chg.refl _ _) (fun _ => rfl) _
  refine ⟨hc, h.putD X.fuse b X.done hc ?_⟩
  rw [block_setCell (h.head.trans rfl)]; rfl

theorem setD4 (h : DiskIs w d F X bv q m) (n : Int) : Chg (· = d) w (w.setCell ⟨d, 4, none⟩ (.int .i64 n)) ∧ DiskIs (w.setCell ⟨d, 4, none⟩ (.int .i64 n)) d F { X with done := n } bv q m := by
  have hc : Chg (· = d) w (w.setCell ⟨d, 4, none⟩ (.int .i64 n)) := Chg.setCell (S := (· = d)) (Chg.refl _ _) (fun _ => rfl) _
  refine ⟨hc, h.putD X.fuse X.down n hc ?_⟩
  rw [block_setCell (h.head.trans rfl)]; rfl

theorem through_any (w : World) (h : DiskIs w d F X bv q m) (hf : X.fuse ≤ 9223372036854775807) : Calls Try.prog 62 #[.pointer (some ⟨d, 0, none⟩)] w fun e w' => e = .returned (.bool (decide (X.fuse ≠ 0))) ∧ DiskIs w' d F X.burn bv q m ∧ Chg (· = d) w w' := by
  have c2 : w.cell? ⟨d, 2, none⟩ = some (.int .i64 X.fuse) := cell_of_block h.head rfl
  have c4 : w.cell? ⟨d, 4, none⟩ = some (.int .i64 X.done) := cell_of_block h.head rfl
  have c3 : w.cell? ⟨d, 3, none⟩ = some (.bool X.down) := cell_of_block h.head rfl
  have z2 : w.frozen? ⟨d, 2, none⟩ = false := free_of_block h.head
  have z3 : w.frozen? ⟨d, 3, none⟩ = false := free_of_block h.head
  have z4 : w.frozen? ⟨d, 4, none⟩ = false := free_of_block h.head
  have H := Lib.hid h
  clear h
  go_enter Try.func62, Try.ntmps62
  go_wp2_with fail
  · go_ret
    have e : X.fuse = 0 := by simpa using ‹(X.fuse == 0) = true›
    obtain ⟨h1, h2⟩ := setD3 H.out true
    exact ⟨by simp [e], by rw [DV.burn, if_pos e]; exact h2, h1⟩
  · go_ret
    have e : X.fuse ≠ 0 := by simpa using ‹(X.fuse == 0) = false›
    obtain ⟨h1, h2⟩ := setD2 H.out (X.fuse - 1)
    obtain ⟨h3, h4⟩ := setD4 h2 (wrap64 (X.done + 1))
    exact ⟨by simp [e], by rw [DV.burn, if_neg e, if_pos (by assumption)]; exact h4, h1.trans' h3⟩
  · go_ret
    have e : X.fuse ≠ 0 := by simpa using ‹(X.fuse == 0) = false›
    obtain ⟨h1, h2⟩ := setD4 H.out (wrap64 (X.done + 1))
    exact ⟨by simp [e], by rw [DV.burn, if_neg e, if_neg (by omega)]; exact h2, h1⟩

def fuseC (X : DV) (n : Int) : Int := if X.down then 15 else if n < 0 then 2 else 0
def DV.set (X : DV) (n : Int) : DV := if X.down ∨ n < 0 then X else { X with fuse := n }

theorem DiskIs.pos (h : DiskIs w d F X bv q m) : 0 < X.B.length := by have := h.any; cases hX : X.B with | nil => exact absurd hX this | cons a l => simp

theorem asked0 (h : DiskIs w d F X bv q m) : askedC X 0 = if X.down then 15 else 0 := by
  have := h.pos
  unfold askedC
  split
  · rfl
  · rw [if_pos ⟨by omega, by omega⟩]

theorem fuse_any (w : World) (h : DiskIs w d F X bv q m) (n : Int) : Calls Try.prog 39 #[.pointer (some ⟨d, 0, none⟩), .int .i64 n] w fun e w' => e = .returned (.int .i64 (fuseC X n)) ∧ DiskIs w' d F (X.set n) bv q m ∧ Chg (· = d) w w' := by
  have c2 : w.cell? ⟨d, 2, none⟩ = some (.int .i64 X.fuse) := cell_of_block h.head rfl
  have z2 : w.frozen? ⟨d, 2, none⟩ = false := free_of_block h.head
  have ha := asked0 h
  have H := Lib.hid h
  have HA := Lib.hid ha
  clear h ha
  go_enter Try.func39, Try.ntmps39
  go_wp2_with (go_at_call 61; refine (asked_any _ ⟨_, _, _, H.out⟩ _).mono ?_; rw [HA.out]; rintro e w' ⟨rfl, rfl⟩; cases hd : X.down)
  all_goals go_ret
  · have hn : n < 0 := by assumption
    exact ⟨by simp [fuseC, hd, hn], by rw [DV.set, if_pos (Or.inr hn)]; exact H.out, Chg.refl _ _⟩
  · have hn : ¬ n < 0 := by omega
    exact ⟨by simp [fuseC, hd, hn], by rw [DV.set, if_neg (by simp [hd, hn])]; exact (setD2 H.out n).2, (setD2 H.out n).1⟩
  · exact ⟨by simp [fuseC, hd], by rw [DV.set, if_pos (Or.inl hd)]; exact H.out, Chg.refl _ _⟩



end Go.Proofs.Ytomceindibnpnaa.disks
