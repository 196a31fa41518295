/-
  veneerref09: the document's disk: its state; burn, Set.
-/
import Derived.Test.YtomceindibnpnaaDiskBegun
namespace Go.Proofs.Ytomceindibnpnaa.disks
open Go.RowKit Go.Maps Go.My Go.ChangeMaps
set_option maxRecDepth 100000

/-- The document's disk: its blocks, the writes that wait in their order. -/
structure RV where
  B : List Blk
  S : List (Int × Blk)
  fuse : Int
  down : Bool
  done : Int

def sentC (p : Int × Blk) : List Value := [.int .i64 p.1, strV p.2]
def objR (bv lv : Value) (R : RV) : Obj := .cells #[bv, lv, .int .i64 R.fuse, .bool R.down, .int .i64 R.done] 120 (0, 0)

structure RefIs (w : World) (r : Nat) (F : Nat → Prop) (R : RV) (bv lv : Value) : Prop where
  head : w.heap[r]? = some (objR bv lv R)
  rows : w.ownsRow 0 9 1 bv R.B.length (R.B.map strV)
  sent : OwnRecs w 0 134 2 lv (R.S.map sentC)
  fr : F r
  fb : ∀ g, bv.ownBlock = some g → F g
  fl : ∀ g, lv.ownBlock = some g → F g
  lt : ∀ k, F k → k < w.heap.size

def RefAt (w : World) (r : Nat) (F : Nat → Prop) (R : RV) : Prop := ∃ bv lv, RefIs w r F R bv lv

variable {w w' : World} {r : Nat} {F F' : Nat → Prop} {R R' : RV} {bv lv : Value}

theorem RefIs.kept (h : RefIs w r F R bv lv) {S : Nat → Prop} (hc : Chg S w w') (hs : ∀ k, F k → ¬ S k) : RefIs w' r F R bv lv :=
  ⟨hc.at h.head (hs _ h.fr), row_kept h.rows hc (fun g hg => hs g (h.fb g hg)), h.sent.kept hc (fun g hg => hs g (h.fl g hg)), h.fr, h.fb, h.fl, fun k hk => Nat.lt_of_lt_of_le (h.lt k hk) hc.size⟩

theorem RefAt.kept (h : RefAt w r F R) {S : Nat → Prop} (hc : Chg S w w') (hs : ∀ k, F k → ¬ S k) : RefAt w' r F R := by
  obtain ⟨bv, lv, h⟩ := h; exact ⟨bv, lv, h.kept hc hs⟩

theorem types_ref : (120 : Nat) ≠ 9 ∧ (120 : Nat) ≠ 134 ∧ (9 : Nat) ≠ 134 := by decide

theorem RefIs.bne (h : RefIs w r F R bv lv) : bv.ownBlock ≠ some r := by
  intro hg
  obtain ⟨cur, hc⟩ := row_obj h.rows hg
  rw [h.head, objR] at hc
  simp only [Option.some.injEq, Obj.cells.injEq] at hc
  exact types_ref.1 hc.2.1

theorem RefIs.lne (h : RefIs w r F R bv lv) : lv.ownBlock ≠ some r := by
  intro hg
  obtain ⟨cur, hc⟩ := own_obj h.sent hg
  rw [h.head, objR] at hc
  simp only [Option.some.injEq, Obj.cells.injEq] at hc
  exact types_ref.2.1 hc.2.1

theorem RefIs.putR (h : RefIs w r F R bv lv) (f : Int) (u : Bool) (n : Int) (hc : Chg (· = r) w w') (ho : w'.heap[r]? = some (objR bv lv { R with fuse := f, down := u, done := n })) : RefIs w' r F { R with fuse := f, down := u, done := n } bv lv :=
  ⟨ho, row_kept h.rows hc (fun g hg e => h.bne (e ▸ hg)), h.sent.kept hc (fun g hg e => h.lne (e ▸ hg)), h.fr, h.fb, h.fl, fun k hk => Nat.lt_of_lt_of_le (h.lt k hk) hc.size⟩

theorem setR2 (h : RefIs w r F R bv lv) (f : Int) : Chg (· = r) w (w.setCell ⟨r, 2, none⟩ (.int .i64 f)) ∧ RefIs (w.setCell ⟨r, 2, none⟩ (.int .i64 f)) r F { R with fuse := f } bv lv := by
  have hc : Chg (· = r) w (w.setCell ⟨r, 2, none⟩ (.int .i64 f)) := Chg.setCell (S := (· = r)) (Chg.refl _ _) (fun _ => rfl) _
  refine ⟨hc, h.putR f R.down R.done hc ?_⟩
  rw [block_setCell (h.head.trans rfl)]; rfl

theorem setR3 (h : RefIs w r F R bv lv) (b : Bool) : Chg (· = r) w (w.setCell ⟨r, 3, none⟩ (.bool b)) ∧ RefIs (w.setCell ⟨r, 3, none⟩ (.bool b)) r F { R with down := b } bv lv := by
  have hc : Chg (· = r) w (w.setCell ⟨r, 3, none⟩ (.bool b)) := Chg.setCell (S := (· = r)) (Chg.refl _ _) (fun _ => rfl) _
  refine ⟨hc, h.putR R.fuse b R.done hc ?_⟩
  rw [block_setCell (h.head.trans rfl)]; rfl

theorem setR4 (h : RefIs w r F R bv lv) (n : Int) : Chg (· = r) w (w.setCell ⟨r, 4, none⟩ (.int .i64 n)) ∧ RefIs (w.setCell ⟨r, 4, none⟩ (.int .i64 n)) r F { R with done := n } bv lv := by
  have hc : Chg (· = r) w (w.setCell ⟨r, 4, none⟩ (.int .i64 n)) := Chg.setCell (S := (· = r)) (Chg.refl _ _) (fun _ => rfl) _
  refine ⟨hc, h.putR R.fuse R.down n hc ?_⟩
  rw [block_setCell (h.head.trans rfl)]; rfl

def RV.burn (R : RV) : RV := if R.fuse = 0 then { R with down := true } else { R with fuse := if 0 < R.fuse then R.fuse - 1 else R.fuse, done := wrap64 (R.done + 1) }

theorem burnR_any (w : World) (h : RefIs w r F R bv lv) (hf : R.fuse ≤ 9223372036854775807) : Calls Try.prog 77 #[.pointer (some ⟨r, 0, none⟩)] w fun e w' => e = .returned (.int .i64 (if R.fuse = 0 then 15 else 0)) ∧ RefIs w' r F R.burn bv lv ∧ Chg (· = r) w w' := by
  have c2 : w.cell? ⟨r, 2, none⟩ = some (.int .i64 R.fuse) := cell_of_block h.head rfl
  have c4 : w.cell? ⟨r, 4, none⟩ = some (.int .i64 R.done) := cell_of_block h.head rfl
  have c3 : w.cell? ⟨r, 3, none⟩ = some (.bool R.down) := cell_of_block h.head rfl
  have z2 : w.frozen? ⟨r, 2, none⟩ = false := free_of_block h.head
  have z3 : w.frozen? ⟨r, 3, none⟩ = false := free_of_block h.head
  have z4 : w.frozen? ⟨r, 4, none⟩ = false := free_of_block h.head
  have H := Lib.hid h
  clear h
  by_cases e : R.fuse = 0
  · have hz : (R.fuse == 0) = true := by simp [e]
    go_enter Try.func77, Try.ntmps77
    go_wp2_with fail
    go_ret
    obtain ⟨h1, h2⟩ := setR3 H.out true
    exact ⟨by simp [e], by rw [RV.burn, if_pos e]; exact h2, h1⟩
  · have hz : (R.fuse == 0) = false := by simp [e]
    by_cases hp : 0 < R.fuse
    · go_enter Try.func77, Try.ntmps77
      go_wp2_with fail
      go_ret
      obtain ⟨h1, h2⟩ := setR2 H.out (R.fuse - 1)
      obtain ⟨h3, h4⟩ := setR4 h2 (wrap64 (R.done + 1))
      exact ⟨by simp [e], by rw [RV.burn, if_neg e, if_pos hp]; exact h4, h1.trans' h3⟩
    · go_enter Try.func77, Try.ntmps77
      go_wp2_with fail
      go_ret
      obtain ⟨h1, h2⟩ := setR4 H.out (wrap64 (R.done + 1))
      exact ⟨by simp [e], by rw [RV.burn, if_neg e, if_neg (by omega)]; exact h2, h1⟩

def setC (R : RV) (n : Int) : Int := if R.down then 15 else if n < 0 then 2 else 0
def RV.set (R : RV) (n : Int) : RV := if R.down ∨ n < 0 then R else { R with fuse := n }

theorem setR_any (w : World) (h : RefIs w r F R bv lv) (n : Int) : Calls Try.prog 70 #[.pointer (some ⟨r, 0, none⟩), .int .i64 n] w fun e w' => e = .returned (.int .i64 (setC R n)) ∧ RefIs w' r F (R.set n) bv lv ∧ Chg (· = r) w w' := by
  have c2 : w.cell? ⟨r, 2, none⟩ = some (.int .i64 R.fuse) := cell_of_block h.head rfl
  have c3 : w.cell? ⟨r, 3, none⟩ = some (.bool R.down) := cell_of_block h.head rfl
  have z2 : w.frozen? ⟨r, 2, none⟩ = false := free_of_block h.head
  have H := Lib.hid h
  clear h
  cases hd : R.down with
  | true =>
    rw [hd] at c3
    go_enter Try.func70, Try.ntmps70
    go_wp2_with fail
    go_ret
    exact ⟨by simp [setC, hd], by rw [RV.set, if_pos (Or.inl hd)]; exact H.out, Chg.refl _ _⟩
  | false =>
    rw [hd] at c3
    by_cases hn : n < 0
    · go_enter Try.func70, Try.ntmps70
      go_wp2_with fail
      go_ret
      exact ⟨by simp [setC, hd, hn], by rw [RV.set, if_pos (Or.inr hn)]; exact H.out, Chg.refl _ _⟩
    · go_enter Try.func70, Try.ntmps70
      go_wp2_with fail
      go_ret
      obtain ⟨h1, h2⟩ := setR2 H.out n
      exact ⟨by simp [setC, hd, hn], by rw [RV.set, if_neg (by simp [hd, hn])]; exact h2, h1⟩

end Go.Proofs.Ytomceindibnpnaa.disks
