/-
  veneerref09: Read, the walk.
-/
import Derived.Test.YtomceindibnpnaaDiskRefWr
namespace Go.Proofs.Ytomceindibnpnaa.disks
open Go.RowKit Go.Maps Go.My Go.ChangeMaps
set_option maxRecDepth 100000

variable {w w' : World} {r : Nat} {F F' : Nat → Prop} {R R' : RV} {bv lv : Value}

def refReadC (R : RV) (i : Int) : Int := if R.down then 15 else if i < 0 ∨ (R.B.length : Int) ≤ i then 2 else 0

theorem refread_any (w : World) (h : RefIs w r F R bv lv) (i : Int) (hS : R.S.length < 1000000) :
    Calls Try.prog 69 #[.pointer (some ⟨r, 0, none⟩), .int .i64 i] w fun e w' => e = .returned (.tuple #[if refReadC R i = 0 then strV (R.at i.toNat (-1)) else .string ⟨#[]⟩, .int .i64 (refReadC R i)]) ∧ w = w' := by
  have c0 : w.cell? ⟨r, 0, none⟩ = some bv := cell_of_block h.head rfl
  have c3 : w.cell? ⟨r, 3, none⟩ = some (.bool R.down) := cell_of_block h.head rfl
  obtain ⟨oab, cb, rfl⟩ := own_slice h.rows
  have H := Lib.hid h
  clear h
  cases hd : R.down with
  | true =>
    rw [hd] at c3
    have hr : refReadC R i = 15 := by rw [refReadC, if_pos hd]
    rw [hr]
    go_enter Try.func69, Try.ntmps69
    go_wp2_with fail
    go_ret2
    exact ⟨rfl, rfl⟩
  | false =>
    rw [hd] at c3
    by_cases h0 : i < 0
    · have hr : refReadC R i = 2 := by rw [refReadC, if_neg (by simp [hd]), if_pos (Or.inl h0)]
      rw [hr]
      go_enter Try.func69, Try.ntmps69
      go_wp2_with fail
      go_ret2
      exact ⟨rfl, rfl⟩
    · by_cases h1 : (R.B.length : Int) ≤ i
      · have hr : refReadC R i = 2 := by rw [refReadC, if_neg (by simp [hd]), if_pos (Or.inr h1)]
        rw [hr]
        go_enter Try.func69, Try.ntmps69
        go_wp2_with fail
        go_ret2
        exact ⟨rfl, rfl⟩
      · obtain ⟨k, rfl⟩ : ∃ k : Nat, i = (k : Int) := ⟨i.toNat, by omega⟩
        have hk : k < R.B.length := by omega
        have hr : refReadC R k = 0 := by rw [refReadC, if_neg (by simp [hd]), if_neg (by omega)]
        rw [hr, if_pos rfl, Int.toNat_natCast]
        go_enter Try.func69, Try.ntmps69
        go_wp2_with (first
          | (go_at_call 78; refine (at_any _ H.out k hk (-1) hS).mono ?_; rintro e w1 ⟨rfl, rfl⟩))
        go_ret2
        exact ⟨rfl, rfl⟩

end Go.Proofs.Ytomceindibnpnaa.disks
