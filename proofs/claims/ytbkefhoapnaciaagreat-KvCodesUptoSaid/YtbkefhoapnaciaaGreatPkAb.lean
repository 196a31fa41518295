/-
  THE STATE OF A disk: durable blocks, and what waits by block, told without the heap; the footprint F of its blocks.
-/
import Derived.Test.YtbkefhoapnaciaaGreatPkAa
import Derived.Test.YtbkefhoapnaciaaGreatProg
import Derived.WalkLawsBesides
import Derived.BigQuiet
import Derived.Lib.LazyBuf
import Derived.Deep.QuietTactic
import Derived.Lib.Hide
import Derived.Laws.OwnMore
import Derived.Deep.RegionHeld3
import Derived.Maps.AppendAt
import Derived.Deep.WholeRow
import Derived.Great.BuildSlice

section
set_option linter.unusedSimpArgs false
set_option linter.unusedVariables false
namespace Go.Proofs.YtbkefhoapnaciaaGreat.disks
open Go.RowKit Go.Maps Go.My
set_option maxRecDepth 100000

abbrev Blk := List UInt8
def cellsB (l : Blk) : List Value := l.map (fun b => .int .u8 b.toNat)
theorem cellsB_length (l : Blk) : (cellsB l).length = l.length := by simp [cellsB]

def iKey : KeyEnc Tryz.prog 3 Int where
  enc := encI
  ok k := (Lit.int .i64 k).wf = true
  keyed := int_keyed Tryz.underlying3
  reads k hk := ⟨_, keyOf_int_mk Tryz.underlying3 hk⟩
  inj k k' h := by simpa [encI] using h

structure DV where
  B : List Blk
  L : Nat → List Blk
  fuse : Int
  down : Bool
  done : Int

def objD (bv : Value) (q : Nat) (X : DV) : Obj := .cells #[bv, .map (some q), .int .i64 X.fuse, .bool X.down, .int .i64 X.done] 62 (0, 0)

structure DiskIs (w : World) (d : Nat) (F : Nat → Prop) (X : DV) (bv : Value) (q : Nat) (m : List (Int × (Value × List Blk))) : Prop where
  head : w.heap[d]? = some (objD bv q X)
  rows : OwnRecs w 0 107 64 bv (X.B.map cellsB)
  any : X.B ≠ []
  wmap : MapIs iKey Prod.fst w q m
  lists : ∀ p ∈ m, OwnRecs w 0 107 64 p.2.1 (p.2.2.map cellsB) ∧ p.2.2 ≠ [] ∧ 0 ≤ p.1 ∧ p.1 < X.B.length
  waits : ∀ i : Nat, X.L i = ((mget m (i : Int)).map (·.2)).getD []
  off : ∀ p ∈ m, p.2.1.ownBlock ≠ bv.ownBlock
  apart : ∀ p ∈ m, ∀ p' ∈ m, p.1 ≠ p'.1 → p.2.1.ownBlock ≠ p'.2.1.ownBlock
  fd : F d
  fq : F q
  fb : ∀ g, bv.ownBlock = some g → F g
  fm : ∀ p ∈ m, ∀ g, p.2.1.ownBlock = some g → F g
  lt : ∀ k, F k → k < w.heap.size
  size : X.B.length ≤ 4096

def DiskAt (w : World) (d : Nat) (F : Nat → Prop) (X : DV) : Prop := ∃ bv q m, DiskIs w d F X bv q m

variable {w w' : World} {d q : Nat} {F F' : Nat → Prop} {X X' : DV} {bv : Value} {m : List (Int × (Value × List Blk))}

theorem DiskIs.kept (h : DiskIs w d F X bv q m) {S : Nat → Prop} (hc : Chg S w w') (hs : ∀ k, F k → ¬ S k) : DiskIs w' d F X bv q m :=
  ⟨hc.at h.head (hs _ h.fd), h.rows.kept hc (fun k hk => hs _ (h.fb k hk)), h.any, h.wmap.kept hc (hs _ h.fq), fun p hp => ⟨(h.lists p hp).1.kept hc (fun k hk => hs _ (h.fm p hp k hk)), (h.lists p hp).2⟩,
    h.waits, h.off, h.apart, h.fd, h.fq, h.fb, h.fm, fun k hk => Nat.lt_of_lt_of_le (h.lt k hk) hc.size, h.size⟩

theorem DiskAt.kept (h : DiskAt w d F X) {S : Nat → Prop} (hc : Chg S w w') (hs : ∀ k, F k → ¬ S k) : DiskAt w' d F X := by
  obtain ⟨bv, q, m, h⟩ := h; exact ⟨bv, q, m, h.kept hc hs⟩

theorem DiskAt.fresh (h : DiskAt w d F X) (hc : Chg (fun _ => False) w w') : DiskAt w' d F X := h.kept hc (fun _ _ h => h)

theorem DiskIs.wide (h : DiskIs w d F X bv q m) (hs : ∀ k, F k → F' k) (hl : ∀ k, F' k → k < w.heap.size) : DiskIs w d F' X bv q m :=
  ⟨h.head, h.rows, h.any, h.wmap, h.lists, h.waits, h.off, h.apart, hs _ h.fd, hs _ h.fq, fun g hg => hs _ (h.fb g hg), fun p hp g hg => hs _ (h.fm p hp g hg), hl, h.size⟩

theorem DiskAt.wide (h : DiskAt w d F X) (hs : ∀ k, F k → F' k) (hl : ∀ k, F' k → k < w.heap.size) : DiskAt w d F' X := by
  obtain ⟨bv, q, m, h⟩ := h; exact ⟨bv, q, m, h.wide hs hl⟩

theorem own_obj {w : World} {base : Nat} {e : TypeId} {n : Nat} {v : Value} {l : List (List Value)} (h : OwnRecs w base e n v l) {g : Nat} (hg : v.ownBlock = some g) : ∃ cur, w.heap[g]? = some (.cells cur e (0, 0)) := by
  rcases h.row.2 with ⟨rfl, h0⟩ | ⟨g', cap, cur, rfl, _, hh, _⟩
  · simp [Value.ownBlock] at hg
  · simp only [Value.ownBlock, Option.some.injEq] at hg
    subst hg
    exact ⟨cur, hh⟩

theorem DiskIs.d_ne_q (h : DiskIs w d F X bv q m) : d ≠ q := by
  obtain ⟨es, clock, hb, _⟩ := h.wmap
  rintro rfl
  rw [h.head, objD] at hb; cases hb

theorem types_ne : (62 : Nat) ≠ 107 := by decide

theorem row_ne_d {l : List (List Value)} {v : Value} (h : DiskIs w d F X bv q m) (hr : OwnRecs w 0 107 64 v l) : v.ownBlock ≠ some d := by
  intro hg
  obtain ⟨cur, hc⟩ := own_obj hr hg
  rw [h.head, objD] at hc
  simp only [Option.some.injEq, Obj.cells.injEq] at hc
  exact types_ne hc.2.1

theorem row_ne_q {l : List (List Value)} {v : Value} (h : DiskIs w d F X bv q m) (hr : OwnRecs w 0 107 64 v l) : v.ownBlock ≠ some q := by
  intro hg
  obtain ⟨cur, hc⟩ := own_obj hr hg
  obtain ⟨es, clock, hb, _⟩ := h.wmap
  rw [hb] at hc; cases hc

/-- The record's own three numbers change. -/
theorem DiskIs.putD (h : DiskIs w d F X bv q m) (f : Int) (u : Bool) (n : Int) (hc : Chg (· = d) w w') (ho : w'.heap[d]? = some (objD bv q { X with fuse := f, down := u, done := n })) : DiskIs w' d F { X with fuse := f, down := u, done := n } bv q m :=
  ⟨ho, h.rows.kept hc (fun _ hk e => row_ne_d h h.rows (e ▸ hk)), h.any, h.wmap.kept hc (fun e => h.d_ne_q e.symm), fun p hp => ⟨(h.lists p hp).1.kept hc (fun _ hk e => row_ne_d h (h.lists p hp).1 (e ▸ hk)), (h.lists p hp).2⟩,
    h.waits, h.off, h.apart, h.fd, h.fq, h.fb, h.fm, fun k hk => Nat.lt_of_lt_of_le (h.lt k hk) hc.size, h.size⟩

/-- The slice of blocks, and its length. -/
theorem DiskIs.sl (h : DiskIs w d F X bv q m) : ∃ g cap, bv = .slice (some ⟨g, 0, none⟩) X.B.length cap ∧ X.B.length ≤ cap := by
  obtain ⟨oa, cap, h1, h2, _⟩ := h.rows.slice
  have hne : 0 < (X.B.map cellsB).length := by have := h.any; cases hX : X.B with | nil => exact absurd hX this | cons a l => simp
  obtain ⟨g, cap', e1, e2, _⟩ := h.rows.cell hne
  exact ⟨g, cap', by rw [e1]; simp, by simpa using e2⟩

theorem none_no (w : World) (h : DiskAt w d F X) : Calls Tryz.prog 55 #[.pointer (some ⟨d, 0, none⟩)] w fun e w' => e = .returned (.bool false) ∧ w = w' := by
  obtain ⟨bv, q, m, h⟩ := h
  obtain ⟨g, cap, rfl, _⟩ := h.sl
  have c0 := cell_of_block h.head (i := 0) rfl
  have hq := fun w n c => run_eql_slice_nil (P := Tryz.prog) w 59 _ (some ⟨g, 0, none⟩) n c Tryz.underlying59
  clear h
  go_enter Tryz.func55, Tryz.ntmps55
  go_wp2
  go_ret
  exact ⟨rfl, rfl⟩

def askedC (X : DV) (i : Int) : Int := if X.down then 15 else if 0 ≤ i ∧ i < X.B.length then 0 else 2

theorem asked_any (w : World) (h : DiskAt w d F X) (i : Int) : Calls Tryz.prog 54 #[.pointer (some ⟨d, 0, none⟩), .int .i64 i] w fun e w' => e = .returned (.int .i64 (askedC X i)) ∧ w = w' := by
  have H := Lib.hid h
  obtain ⟨bv, q, m, h⟩ := h
  obtain ⟨g, cap, rfl, _⟩ := h.sl
  have c0 := cell_of_block h.head (i := 0) rfl
  have c3 := cell_of_block h.head (i := 3) rfl
  clear h
  cases hd : X.down
  all_goals rw [hd] at c3
  all_goals go_enter Tryz.func54, Tryz.ntmps54
  all_goals go_wp2_with (go_at_call 55; refine (none_no _ H.out).mono ?_; rintro e w' ⟨rfl, rfl⟩)
  all_goals go_ret
  all_goals refine ⟨?_, rfl⟩
  all_goals first | (simp [askedC, *]; done) | (simp [askedC, hd]; omega)

theorem blocks_any (w : World) (h : DiskAt w d F X) : Calls Tryz.prog 63 #[.pointer (some ⟨d, 0, none⟩)] w fun e w' => e = .returned (.int .i64 X.B.length) ∧ w = w' := by
  have H := Lib.hid h
  obtain ⟨bv, q, m, h⟩ := h
  obtain ⟨g, cap, rfl, _⟩ := h.sl
  have c0 := cell_of_block h.head (i := 0) rfl
  clear h
  go_enter Tryz.func63, Tryz.ntmps63
  go_wp2_with (go_at_call 55; refine (none_no _ H.out).mono ?_; rintro e w' ⟨rfl, rfl⟩)
  go_ret
  exact ⟨rfl, rfl⟩

theorem up_any (w : World) (h : DiskAt w d F X) : Calls Tryz.prog 27 #[.pointer (some ⟨d, 0, none⟩)] w fun e w' => e = .returned (.bool (!X.down)) ∧ w = w' := by
  have H := Lib.hid h
  obtain ⟨bv, q, m, h⟩ := h
  have c3 := cell_of_block h.head (i := 3) rfl
  clear h
  go_enter Tryz.func27, Tryz.ntmps27
  go_wp2_with (go_at_call 55; refine (none_no _ H.out).mono ?_; rintro e w' ⟨rfl, rfl⟩)
  go_ret
  exact ⟨rfl, rfl⟩

/-- A write or a flush asks for its turn. -/
def DV.burn (X : DV) : DV := if X.fuse = 0 then { X with down := true } else { X with fuse := if 0 < X.fuse then X.fuse - 1 else X.fuse, done := wrap64 (X.done + 1) }

end Go.Proofs.YtbkefhoapnaciaaGreat.disks
end

/-
  disk: integers as arguments, what the kernel knows of the program.
-/
section
set_option linter.unusedSimpArgs false
set_option linter.unusedVariables false
namespace Go.Proofs.YtbkefhoapnaciaaGreat.disks
open Go.ChangeShapes Go.WideShapes Go.RowKit Go.My Go.Deep

theorem laidOut : laidOutB Tryz.prog = true := by kernel_rfl
theorem own : ownKnob Tryz.prog.godebug = none := by kernel_rfl
theorem cells_int : Tryz.prog.cellsOf 3 = 1 := by kernel_rfl
theorem cells_ints : Tryz.prog.cellsOf 64 = 1 := by kernel_rfl

def inR (a : Int) : Prop := -9223372036854775808 ≤ a ∧ a ≤ 9223372036854775807
theorem inR_wf {a : Int} (h : inR a) : (Lit.int .i64 a).wf = true := WalkArith.wf_i64 h
theorem wf_inR {a : Int} (h : (Lit.int .i64 a).wf = true) : inR a := by have := bounds_i64 h; exact ⟨by omega, by omega⟩

set_option maxRecDepth 100000 in
theorem open_ints {H : Type} {enc : TypeId × Value → H} {W : World} {v : Value} {d : DataW H} {ps : List MemPlace} {r : Reach} {b0 : Nat}
    (hv : Value.okWide Tryz.prog W r b0 64 v) (h : DataW.Trod enc Tryz.prog W 0 (fun _ => true) true 64 v d ps) :
    ∃ zs : List Int, SlAt W v (zs.map (Value.int .i64)) ∧ (∀ z ∈ zs, inR z) ∧ zs.length ≤ maxLen := by
  obtain ⟨oa, l, cap, rfl, h1, h2, h3, h4⟩ := open_rows Tryz.underlying64 cells_int (by omega) hv h
  obtain ⟨zs, rfl, hz⟩ := trod_ints Tryz.underlying3 h4
  refine ⟨zs, ?_, fun z hm => wf_inR (hz z hm), by simpa using Nat.le_trans h1 h2⟩
  have := h3.flat cap
  rw [flat_one] at this
  exact this

end Go.Proofs.YtbkefhoapnaciaaGreat.disks
end

/-
  disk: through, Fuse, Write.
-/
section
set_option linter.unusedSimpArgs false
set_option linter.unusedVariables false
namespace Go.Proofs.YtbkefhoapnaciaaGreat.disks
open Go.RowKit Go.Maps Go.My
set_option maxRecDepth 100000

variable {w w' : World} {d q : Nat} {F F' : Nat → Prop} {X X' : DV} {bv : Value} {m : List (Int × (Value × List Blk))}

theorem setD2 (h : DiskIs w d F X bv q m) (f : Int) : Chg (· = d) w (w.setCell ⟨d, 2, none⟩ (.int .i64 f)) ∧ DiskIs (w.setCell ⟨d, 2, none⟩ (.int .i64 f)) d F { X with fuse := f } bv q m := by
  have hc : Chg (· = d) w (w.setCell ⟨d, 2, none⟩ (.int .i64 f)) := Chg.setCell (S := (· = d)) (Chg.refl _ _) (fun _ => rfl) _
  refine ⟨hc, h.putD f X.down X.done hc ?_⟩
  rw [block_setCell (h.head.trans rfl)]; rfl

theorem setD3 (h : DiskIs w d F X bv q m) (b : Bool) : Chg (· = d) w (w.setCell ⟨d, 3, none⟩ (.bool b)) ∧ DiskIs (w.setCell ⟨d, 3, none⟩ (.bool b)) d F { X with down := b } bv q m := by
  have hc : Chg (· = d) w (w.setCell ⟨d, 3, none⟩ (.bool b)) := Chg.setCell (S := (· = d)) (Chg.refl _ _) (fun _ => rfl) _
  refine ⟨hc, h.putD X.fuse b X.done hc ?_⟩
  rw [block_setCell (h.head.trans rfl)]; rfl

theorem setD4 (h : DiskIs w d F X bv q m) (n : Int) : Chg (· = d) w (w.setCell ⟨d, 4, none⟩ (.int .i64 n)) ∧ DiskIs (w.setCell ⟨d, 4, none⟩ (.int .i64 n)) d F { X with done := n } bv q m := by
  have hc : Chg (· = d) w (w.setCell ⟨d, 4, none⟩ (.int .i64 n)) := Chg.setCell (S := (· = d)) (Chg.refl _ _) (fun _ => rfl) _
  refine ⟨hc, h.putD X.fuse X.down n hc ?_⟩
  rw [block_setCell (h.head.trans rfl)]; rfl

theorem through_any (w : World) (h : DiskIs w d F X bv q m) (hf : X.fuse ≤ 9223372036854775807) : Calls Tryz.prog 95 #[.pointer (some ⟨d, 0, none⟩)] w fun e w' => e = .returned (.bool (decide (X.fuse ≠ 0))) ∧ DiskIs w' d F X.burn bv q m ∧ Chg (· = d) w w' := by
  have c2 : w.cell? ⟨d, 2, none⟩ = some (.int .i64 X.fuse) := cell_of_block h.head rfl
  have c4 : w.cell? ⟨d, 4, none⟩ = some (.int .i64 X.done) := cell_of_block h.head rfl
  have c3 : w.cell? ⟨d, 3, none⟩ = some (.bool X.down) := cell_of_block h.head rfl
  have z2 : w.frozen? ⟨d, 2, none⟩ = false := free_of_block h.head
  have z3 : w.frozen? ⟨d, 3, none⟩ = false := free_of_block h.head
  have z4 : w.frozen? ⟨d, 4, none⟩ = false := free_of_block h.head
  have H := Lib.hid h
  clear h
  go_enter Tryz.func95, Tryz.ntmps95
  go_wp2_with fail
  · go_ret
    have e : X.fuse = 0 := by simpa using ‹(X.fuse == 0) = true›
    obtain ⟨h1, h2⟩ := setD3 H.out true
    exact ⟨by simp [e], by rw [DV.burn, if_pos e]; exact h2, h1⟩
  · go_ret
    have e : X.fuse ≠ 0 := by simpa using ‹(X.fuse == 0) = false›
    obtain ⟨h1, h2⟩ := setD2 H.out (X.fuse - 1)
    obtain ⟨h3, h4⟩ := setD4 h2 (wrap64 (X.done + 1))
    exact ⟨by simp [e], by rw [DV.burn, if_neg e, if_pos (by assumption)]; exact h4, h1.trans' h3⟩
  · go_ret
    have e : X.fuse ≠ 0 := by simpa using ‹(X.fuse == 0) = false›
    obtain ⟨h1, h2⟩ := setD4 H.out (wrap64 (X.done + 1))
    exact ⟨by simp [e], by rw [DV.burn, if_neg e, if_neg (by omega)]; exact h2, h1⟩

def fuseC (X : DV) (n : Int) : Int := if X.down then 15 else if n < 0 then 2 else 0
def DV.set (X : DV) (n : Int) : DV := if X.down ∨ n < 0 then X else { X with fuse := n }

theorem DiskIs.pos (h : DiskIs w d F X bv q m) : 0 < X.B.length := by have := h.any; cases hX : X.B with | nil => exact absurd hX this | cons a l => simp

theorem asked0 (h : DiskIs w d F X bv q m) : askedC X 0 = if X.down then 15 else 0 := by
  have := h.pos
  unfold askedC
  split
  · rfl
  · rw [if_pos ⟨by omega, by omega⟩]

theorem fuse_any (w : World) (h : DiskIs w d F X bv q m) (n : Int) : Calls Tryz.prog 26 #[.pointer (some ⟨d, 0, none⟩), .int .i64 n] w fun e w' => e = .returned (.int .i64 (fuseC X n)) ∧ DiskIs w' d F (X.set n) bv q m ∧ Chg (· = d) w w' := by
  have c2 : w.cell? ⟨d, 2, none⟩ = some (.int .i64 X.fuse) := cell_of_block h.head rfl
  have z2 : w.frozen? ⟨d, 2, none⟩ = false := free_of_block h.head
  have ha := asked0 h
  have H := Lib.hid h
  have HA := Lib.hid ha
  clear h ha
  go_enter Tryz.func26, Tryz.ntmps26
  go_wp2_with (go_at_call 54; refine (asked_any _ ⟨_, _, _, H.out⟩ _).mono ?_; rw [HA.out]; rintro e w' ⟨rfl, rfl⟩; cases hd : X.down)
  all_goals go_ret
  · have hn : n < 0 := by assumption
    exact ⟨by simp [fuseC, hd, hn], by rw [DV.set, if_pos (Or.inr hn)]; exact H.out, Chg.refl _ _⟩
  · have hn : ¬ n < 0 := by omega
    exact ⟨by simp [fuseC, hd, hn], by rw [DV.set, if_neg (by simp [hd, hn])]; exact (setD2 H.out n).2, (setD2 H.out n).1⟩
  · exact ⟨by simp [fuseC, hd], by rw [DV.set, if_pos (Or.inl hd)]; exact H.out, Chg.refl _ _⟩



end Go.Proofs.YtbkefhoapnaciaaGreat.disks
end

/-
  disk: Read.
-/
section
set_option linter.unusedSimpArgs false
set_option linter.unusedVariables false
namespace Go.Proofs.YtbkefhoapnaciaaGreat.disks
open Go.RowKit Go.Maps Go.My
set_option maxRecDepth 100000

variable {w w' : World} {d q : Nat} {F F' : Nat → Prop} {X X' : DV} {bv : Value} {m : List (Int × (Value × List Blk))}

theorem info_u8' : (Tryz.prog.info? 5).map (fun i => (i.zero, i.size, i.bytes)) = some (some (.int .u8 0), 1, 1) := by kernel_rfl
theorem info_block : (Tryz.prog.info? 107).map (fun i => (i.zero, i.size, i.bytes)) = some (some (.agg (Array.replicate 64 (.int .u8 0))), 64, 64) := by kernel_rfl
theorem size_block : (Tryz.prog.info? 107).map (·.size) = some 64 := by kernel_rfl
theorem zero_blocks (w : World) : (zeroValue 59).run Tryz.prog w = .ok (.slice none 0 0) w := by kernel_rfl

theorem one_cellsB (b : Blk) : ∀ v ∈ cellsB b, v.oneCell' = true := by
  intro v hv
  simp only [cellsB, List.mem_map] at hv
  obtain ⟨x, _, rfl⟩ := hv
  rfl

def DV.cur (X : DV) (i : Nat) : Blk := ((X.L i).getLast?).getD (X.B[i]?.getD [])

theorem DiskIs.wide64 (h : DiskIs w d F X bv q m) : ∀ b ∈ X.B, b.length = 64 := fun b hb => by
  have := h.rows.each (cellsB b) (List.mem_map_of_mem hb)
  rwa [cellsB_length] at this

theorem rows_range {v : Value} {l : List Blk} (h : OwnRecs w 0 107 64 v (l.map cellsB)) {k : Nat} (hk : k < l.length) :
    ∃ g cap, v = .slice (some ⟨g, 0, none⟩) l.length cap ∧ g < w.heap.size ∧ w.rangeAt g (k * 64) (cellsB l[k]) ∧ (∀ j, w.frozen? ⟨g, j, none⟩ = false) := by
  obtain ⟨g, cap, h1, _, _, h2, h3, h4⟩ := h.cell (k := k) (by simpa using hk)
  exact ⟨g, cap, by simpa using h1, h2, fun j x hx => h3 j x (by simpa using hx), h4⟩

/-- What the map answers. -/
theorem DiskIs.looked (h : DiskIs w d F X bv q m) (i : Nat) : ∃ v, lookRes false (.slice none 0 0) Prod.fst (mget m (i : Int)) = v ∧ OwnRecs w 0 107 64 v ((X.L i).map cellsB) := by
  rw [h.waits i]
  cases hm : mget m (i : Int) with
  | none => exact ⟨_, rfl, OwnRecs.nil _ _ _ _⟩
  | some p =>
    have hp : ((i : Int), p) ∈ m := by
      unfold mget at hm
      simp only [Option.map_eq_some_iff] at hm
      obtain ⟨r, h1, rfl⟩ := hm
      have h2 := List.find?_some h1
      simp only [decide_eq_true_eq] at h2
      rw [← h2]
      exact List.mem_of_find?_eq_some h1
    exact ⟨_, rfl, (h.lists _ hp).1⟩

theorem own_empty (w : World) (A : Obj) : ((w.alloc A).alloc (.cells #[] 5)).ownsRow w.heap.size 5 1 (.slice (some ⟨w.heap.size + 1, 0, none⟩) 0 0) 0 [] := by
  have := World.ownsRow_lit (base := w.heap.size) (e := 5) (size := 1) (w.alloc A) #[] 0 (by simp) (by unfold maxLen; omega) rfl
  simpa using this

theorem cells_there (w : World) (l : Blk) (t : TypeId) (B : Obj) : ∀ j u, (cellsB l)[j]? = some u → ((w.alloc (.cells (cellsB l).toArray t)).alloc B).cell? ((⟨w.heap.size, 0, none⟩ : Addr).add j) = some u := by
  intro j u hu
  have h1 := cells_new w (cellsB l) t j u hu
  exact ((Chg.refl (fun _ => False) (w.alloc (.cells (cellsB l).toArray t))).alloc B).cell h1 id

set_option maxHeartbeats 4000000 in
theorem read_any (w : World) (h : DiskIs w d F X bv q m) (i : Int) (hi : inR i) :
    Calls Tryz.prog 62 #[.pointer (some ⟨d, 0, none⟩), .int .i64 i] w fun e w' => ∃ v, e = .returned (.tuple #[v, .int .i64 (askedC X i)]) ∧
      w'.ownsRow w.heap.size 5 1 v (if askedC X i = 0 then 64 else 0) (cellsB (if askedC X i = 0 then X.cur i.toNat else [])) ∧ Chg (fun _ => False) w w' := by
  obtain ⟨i0, hI0⟩ := info_parts info_u8'
  have HI0 := Lib.hid hI0
  clear hI0
  by_cases ha : askedC X i = 0
  · obtain ⟨k, rfl, hk⟩ : ∃ k : Nat, i = (k : Int) ∧ k < X.B.length := by
      unfold askedC at ha
      split at ha
      · omega
      · split at ha
        · exact ⟨i.toNat, by omega, by omega⟩
        · omega
    rw [if_pos ha, if_pos ha, ha]
    obtain ⟨g, cap, rfl, hg, hr, -⟩ := rows_range h.rows hk
    have c0 : w.cell? ⟨d, 0, none⟩ = some (.slice (some ⟨g, 0, none⟩) X.B.length cap) := cell_of_block h.head rfl
    have c1 : w.cell? ⟨d, 1, none⟩ = some (.map (some q)) := cell_of_block h.head rfl
    have hbs : (cellsB X.B[k]).toArray.size = 64 := by rw [List.size_toArray, cellsB_length, h.wide64 _ (List.getElem_mem _)]
    have Hbs := Lib.hid hbs
    clear hbs
    have b1 : ∀ c, (w.alloc (.cells c 107)).cell? ⟨d, 1, none⟩ = some (.map (some q)) := fun c => ((Chg.refl (fun _ => False) w).alloc _).cell c1 id
    obtain ⟨u, hu, hou⟩ := h.looked k
    have H := Lib.hid h
    have HR := Lib.hid hr
    have hk' : (k : Int) < (X.B.length : Int) := by omega
    have Hu := Lib.hid hu
    clear h hr hu
    rcases List.eq_nil_or_concat (X.L k) with hL | ⟨l, b, hL⟩
    · have hcur : X.cur k = X.B[k] := by simp [DV.cur, hL, hk]
      rw [hL] at hou
      obtain ⟨oa, cap', rfl, -⟩ := hou.slice
      clear hou
      go_enter Tryz.func62, Tryz.ntmps62
      go_wp2_with (first
        | (go_at_call 54; refine (asked_any _ ⟨_, _, _, H.out⟩ _).mono ?_; rw [ha]; rintro e w' ⟨rfl, rfl⟩)
        | (refine wpList_load_mid rfl 107 _ rfl g (k * 64) rfl (cellsB X.B[k]) _ HR.out Tryz.underlying107 rfl (by rw [size_block, cellsB_length, H.out.wide64 _ (List.getElem_mem _)]) ?_)
        | (refine wpList_store_new rfl 107 _ _ rfl (cellsB X.B[k]).toArray rfl rfl (size_block.trans (by rw [Hbs.out])) (by rw [Hbs.out] <;> rfl) (all_oneCell_toArray (one_cellsB _)) ?_)
        | (at_lookup; refine wpList_look (H.out.kept ((Chg.refl (fun _ => False) w).alloc _) (fun _ _ h => h)).wmap rfl _ _ _ _ rfl _ Tryz.underlying60 (zero_blocks _) rfl (k : Int) rfl (inR_wf hi) Hu.out ?_)
        | (at_builtin; refine wpList_append_own_at _ rfl _ _ 76 rfl w.heap.size 5 i0 (.int .u8 0) 1 1 Tryz.underlying76 HI0.out.1 HI0.out.2.1 HI0.out.2.2.1 HI0.out.2.2.2 rfl (by decide) _ _ _ rfl (own_empty _ _) ⟨w.heap.size, 0, none⟩ 64 64 (cellsB X.B[k]) rfl ?c1 ?c2 ?c3 ?c4 ?c5 ?c6 ?_))
      case c1 => rw [cellsB_length, H.out.wide64 _ (List.getElem_mem _)]
      case c2 => exact cells_there _ _ _ _
      case c3 => exact one_cellsB _
      case c4 => unfold maxLen; omega
      case c5 => omega
      case c6 => simp only [World.size_alloc]; omega
      intro v' w2 ho hg _ _
      go_wp2_with fail
      go_ret2
      refine ⟨v', rfl, ?_, ?_⟩
      · rw [Int.toNat_natCast, hcur]; exact ho
      · exact (((Chg.refl _ _).alloc _).alloc _).trans (Chg.of_grown hg) (fun i hi hk => by simp [Value.ownBlock] at hk; omega)
    · have hcur : X.cur k = b := by simp [DV.cur, hL, List.concat_eq_append]
      rw [hL, List.concat_eq_append] at hou
      have hb : b.length = 64 := by
        have := hou.each (cellsB b) (by simp)
        rwa [cellsB_length] at this
      have hlw : wrap64 (l.length : Int) = (l.length : Int) := by
        obtain ⟨_, _, _, h1, h2⟩ := hou.slice
        unfold maxLen at h2
        simp only [List.length_map, List.length_append, List.length_cons, List.length_nil] at h1
        exact IntWalk.wrap64_in _ (by omega)
      obtain ⟨g2, cap2, rfl, hg2, hr2, -⟩ := rows_range hou (k := l.length) (by simp)
      have hr3 : (w.rangeAt g2 (l.length * 64) (cellsB b)) := by simpa using hr2
      have hr4 : ∀ c, (w.alloc (.cells c 107)).rangeAt g2 (l.length * 64) (cellsB b) := fun c j x hx => ((Chg.refl (fun _ => False) w).alloc _).cell (hr3 j x hx) id
      have HR2 := Lib.hid hr4
      have hbs2 : (cellsB b).toArray.size = 64 := by rw [List.size_toArray, cellsB_length, hb]
      have Hbs2 := Lib.hid hbs2
      have Hb := Lib.hid hb
      simp only [List.length_append, List.length_cons, List.length_nil, Nat.zero_add] at Hu
      clear hou hr2 hr3 hr4 hbs2 hb
      go_enter Tryz.func62, Tryz.ntmps62
      go_wp2_with (first
        | (go_at_call 54; refine (asked_any _ ⟨_, _, _, H.out⟩ _).mono ?_; rw [ha]; rintro e w' ⟨rfl, rfl⟩)
        | (refine wpList_load_mid rfl 107 _ rfl g (k * 64) rfl (cellsB X.B[k]) _ HR.out Tryz.underlying107 rfl (by rw [size_block, cellsB_length, H.out.wide64 _ (List.getElem_mem _)]) ?_)
        | (refine wpList_load_mid rfl 107 _ rfl g2 (l.length * 64) rfl (cellsB b) _ (HR2.out _) Tryz.underlying107 rfl (by rw [size_block, cellsB_length, Hb.out]) ?_)
        | (refine wpList_store_new rfl 107 _ _ rfl (cellsB X.B[k]).toArray rfl rfl (size_block.trans (by rw [Hbs.out])) (by rw [Hbs.out] <;> rfl) (all_oneCell_toArray (one_cellsB _)) ?_)
        | (refine wpList_store_new rfl 107 _ _ rfl (cellsB b).toArray rfl rfl (size_block.trans (by rw [Hbs2.out])) (Hbs.out.trans Hbs2.out.symm) (all_oneCell_toArray (one_cellsB _)) ?_)
        | (at_lookup; refine wpList_look (H.out.kept ((Chg.refl (fun _ => False) w).alloc _) (fun _ _ h => h)).wmap rfl _ _ _ _ rfl _ Tryz.underlying60 (zero_blocks _) rfl (k : Int) rfl (inR_wf hi) Hu.out ?_)
        | (at_builtin; refine wpList_append_own_at _ rfl _ _ 76 rfl w.heap.size 5 i0 (.int .u8 0) 1 1 Tryz.underlying76 HI0.out.1 HI0.out.2.1 HI0.out.2.2.1 HI0.out.2.2.2 rfl (by decide) _ _ _ rfl (own_empty _ _) ⟨w.heap.size, 0, none⟩ 64 64 (cellsB b) rfl ?c1 ?c2 ?c3 ?c4 ?c5 ?c6 ?_))
      case c1 => rw [cellsB_length, Hb.out]
      case c2 => exact cells_there _ _ _ _
      case c3 => exact one_cellsB _
      case c4 => unfold maxLen; omega
      case c5 => omega
      case c6 => simp only [World.size_alloc]; omega
      intro v' w2 ho hg _ _
      go_wp2_with fail
      go_ret2
      refine ⟨v', rfl, ?_, ?_⟩
      · rw [Int.toNat_natCast, hcur]; exact ho
      · exact (((Chg.refl _ _).alloc _).alloc _).trans (Chg.of_grown hg) (fun i hi hk => by simp [Value.ownBlock] at hk; omega)
  · rw [if_neg ha, if_neg ha]
    have Ha := Lib.hid ha
    have H := Lib.hid h
    have hne : (askedC X i != 0) = true := by simpa using ha
    clear h ha
    go_enter Tryz.func62, Tryz.ntmps62
    go_wp2_with (go_at_call 54; refine (asked_any _ ⟨_, _, _, H.out⟩ _).mono ?_; rintro e w' ⟨rfl, rfl⟩)
    go_ret2
    exact ⟨_, rfl, World.ownsRow_nil _ _ _ _, Chg.refl _ _⟩

end Go.Proofs.YtbkefhoapnaciaaGreat.disks
end

/-
  disk: Write.
-/
section
set_option linter.unusedSimpArgs false
set_option linter.unusedVariables false
namespace Go.Proofs.YtbkefhoapnaciaaGreat.disks
open Go.RowKit Go.Maps Go.My
set_option maxRecDepth 100000

variable {w w' : World} {d q : Nat} {F F' : Nat → Prop} {X X' : DV} {bv : Value} {m : List (Int × (Value × List Blk))}

theorem foldl_set (c : List Value) : ∀ (k : Nat) (pre : List Value) (post : List Value), pre.length = k → c.length ≤ post.length →
    (c.zipIdx k).foldl (fun (cs : Array Value) (x : Value × Nat) => cs.setIfInBounds (0 + x.2) x.1) (pre ++ post).toArray = (pre ++ c ++ post.drop c.length).toArray := by
  induction c with
  | nil => intro k pre post _ _; simp
  | cons u c ih =>
    intro k pre post hk hl
    cases post with
    | nil => simp at hl
    | cons z post =>
      have h1 : ((pre ++ z :: post).toArray).setIfInBounds (0 + k) u = ((pre ++ [u]) ++ post).toArray := by
        rw [List.setIfInBounds_toArray, Nat.zero_add, List.set_append_right _ _ (by omega), hk, Nat.sub_self, List.set_cons_zero]
        simp
      simp only [List.zipIdx_cons, List.foldl_cons]
      rw [h1, ih (k + 1) (pre ++ [u]) post (by simp [hk]) (by simpa using hl)]
      simp

theorem run_build_block (w : World) (b : Blk) (hb : b.length = 64) :
    (Instr.buildSlice 59 1 #[(0, .agg (cellsB b).toArray)]).run Tryz.prog w = .ok (.slice (some ⟨w.heap.size, 0, none⟩) 1 1) (w.alloc (.cells (cellsB b).toArray 107)) := by
  obtain ⟨i0, h1, h2, h3, h4⟩ := info_parts info_block
  have hl : (cellsB b).length = 64 := by rw [cellsB_length, hb]
  refine run_buildSlice w 59 107 1 _ _ i0 _ Tryz.underlying59 h1 h2 (by rw [h3]; omega) (by rw [h3]; omega) ?_
  rw [h3]
  have hz : ∀ f : Nat → Value, ((Array.range (1 * 64)).map f) = ([] ++ (List.range 64).map f).toArray := fun f => by apply Array.toList_inj.1; simp
  rw [hz]
  simp only [Instr.fill, Value.cells, List.size_toArray, hl, Nat.zero_mul]
  rw [if_neg (by simp)]
  congr 1
  rw [← Array.foldl_toList, Array.toList_zipIdx, List.toList_toArray, foldl_set (cellsB b) 0 [] _ rfl (by simp [hl])]
  rw [List.drop_eq_nil_of_le (by simp [hl])]
  simp

theorem mem_mput {K V : Type} [DecidableEq K] {m : List (K × V)} {k : K} {v : V} {p : K × V} (h : p ∈ mput m k v) : p = (k, v) ∨ (p ∈ m ∧ p.1 ≠ k) := by
  unfold mput at h
  split at h
  · obtain ⟨r, hr, rfl⟩ := List.mem_map.1 h
    split
    · exact Or.inl rfl
    · exact Or.inr ⟨hr, by assumption⟩
  · rename_i hn
    rcases List.mem_append.1 h with h | h
    · refine Or.inr ⟨h, fun e => hn ?_⟩
      unfold mget
      rw [Option.isSome_map, List.find?_isSome]
      exact ⟨p, h, by simpa using e⟩
    · exact Or.inl (by simpa using h)

theorem own_some {w : World} {base : Nat} {e : TypeId} {n : Nat} {v : Value} {l : List (List Value)} (h : OwnRecs w base e n v l) (hl : l ≠ []) : ∃ g, v.ownBlock = some g ∧ g < w.heap.size := by
  obtain ⟨g, cap, rfl, _, _, h2, _⟩ := h.cell (k := 0) (List.length_pos_iff.2 hl)
  exact ⟨g, rfl, h2⟩

def grow (F : Nat → Prop) (w w' : World) : Nat → Prop := fun j => F j ∨ (w.heap.size ≤ j ∧ j < w'.heap.size)

def DV.put (X : DV) (k : Nat) (b : Blk) : DV := { X with L := fun j => if j = k then X.L j ++ [b] else X.L j }

theorem DiskIs.looked' (h : DiskIs w d F X bv q m) (i : Nat) : ∃ v, lookRes false (.slice none 0 0) Prod.fst (mget m (i : Int)) = v ∧ OwnRecs w 0 107 64 v ((X.L i).map cellsB) ∧
    (v.ownBlock = none ∨ ((i : Int), (v, X.L i)) ∈ m) := by
  rw [h.waits i]
  cases hm : mget m (i : Int) with
  | none => exact ⟨_, rfl, OwnRecs.nil _ _ _ _, Or.inl rfl⟩
  | some p =>
    have hp : ((i : Int), p) ∈ m := by
      unfold mget at hm
      simp only [Option.map_eq_some_iff] at hm
      obtain ⟨r, h1, rfl⟩ := hm
      have h2 := List.find?_some h1
      simp only [decide_eq_true_eq] at h2
      rw [← h2]
      exact List.mem_of_find?_eq_some h1
    exact ⟨_, rfl, (h.lists _ hp).1, Or.inr hp⟩

/-- A write's end: the list of block k has one more, in the same block of the heap or in a new one; the map has it. -/
theorem DiskIs.putL (h : DiskIs w d F X bv q m) {k : Nat} (hk : k < X.B.length) {u v' : Value} (hu : u.ownBlock = none ∨ ((k : Int), (u, X.L k)) ∈ m) {b : Blk} {w2 w3 : World}
    (hg : Chg (fun j => some j = u.ownBlock) w w2) (ho : OwnRecs w2 0 107 64 v' ((X.L k ++ [b]).map cellsB)) (hv : v'.ownBlock = u.ownBlock ∨ ∃ g, w.heap.size ≤ g ∧ v'.ownBlock = some g)
    (hm : MapIs iKey Prod.fst w3 q (mput m (k : Int) (v', X.L k ++ [b]))) (hc : Chg (· = q) w2 w3) : DiskIs w3 d (grow F w w3) (X.put k b) bv q (mput m (k : Int) (v', X.L k ++ [b])) := by
  obtain ⟨g', hg', hlt'⟩ := own_some ho (by simp)
  have huB : ∀ g, bv.ownBlock = some g → u.ownBlock ≠ some g := by
    intro g hb e
    rcases hu with hu | hu
    · rw [hu] at e; cases e
    · exact h.off _ hu (e.trans hb.symm)
  have hud : u.ownBlock ≠ some d := by
    intro e
    rcases hu with hu | hu
    · rw [hu] at e; cases e
    · exact row_ne_d h (h.lists _ hu).1 e
  have huq : u.ownBlock ≠ some q := by
    intro e
    rcases hu with hu | hu
    · rw [hu] at e; cases e
    · exact row_ne_q h (h.lists _ hu).1 e
  have hup : ∀ p ∈ m, p.1 ≠ (k : Int) → ∀ g, p.2.1.ownBlock = some g → u.ownBlock ≠ some g := by
    intro p hp hne g hb e
    rcases hu with hu | hu
    · rw [hu] at e; cases e
    · exact h.apart _ hp _ hu hne (hb.trans e.symm)
  have huF : ∀ g, u.ownBlock = some g → F g := by
    intro g e
    rcases hu with hu | hu
    · rw [hu] at e; cases e
    · exact h.fm _ hu g e
  have hsz : w.heap.size ≤ w3.heap.size := Nat.le_trans hg.size hc.size
  have hg3 : g' < w3.heap.size := Nat.lt_of_lt_of_le hlt' hc.size
  have hF' : grow F w w3 g' := by
    rcases hv with hv | ⟨g, h1, h2⟩
    · exact Or.inl (huF g' (hv.symm.trans hg'))
    · rw [hg'] at h2; cases h2; exact Or.inr ⟨h1, hg3⟩
  have hgq : g' ≠ q := by
    rintro rfl
    obtain ⟨cur, h1⟩ := own_obj ho hg'
    obtain ⟨es, clock, h2, _⟩ := h.wmap
    rw [hg.at h2 (fun e => huq e.symm)] at h1
    cases h1
  have hnew : ∀ g, F g → u.ownBlock ≠ some g → g' ≠ g := by
    rintro g hFg hne rfl
    rcases hv with hv | ⟨g, h1, h2⟩
    · exact hne (hv.symm.trans hg')
    · rw [hg'] at h2; cases h2
      have := h.lt _ hFg; omega
  refine ⟨hc.at (hg.at h.head (fun e => hud e.symm)) (fun e => h.d_ne_q e), (h.rows.kept hg (fun j hj e => huB j hj e.symm)).kept hc (fun j hj e => row_ne_q h h.rows (e ▸ hj)), h.any, hm, ?_, ?_, ?_, ?_, Or.inl h.fd, Or.inl h.fq, fun g hb => Or.inl (h.fb g hb), ?_, ?_, h.size⟩
  · intro p hp
    rcases mem_mput hp with rfl | ⟨hp, hne⟩
    · exact ⟨ho.kept hc (fun j hj e => by rw [hg'] at hj; cases hj; exact hgq e), by simp, by omega, by simpa [DV.put] using hk⟩
    · obtain ⟨h1, h2, h3, h4⟩ := h.lists p hp
      exact ⟨(h1.kept hg (fun j hj e => hup p hp hne j hj e.symm)).kept hc (fun j hj e => row_ne_q h h1 (e ▸ hj)), h2, h3, h4⟩
  · intro i
    rw [mget_mput]
    by_cases hi : i = k
    · subst hi; simp [DV.put]
    · have : (i : Int) ≠ (k : Int) := by omega
      rw [if_neg this]
      simp only [DV.put, if_neg hi]
      exact h.waits i
  · intro p hp
    rcases mem_mput hp with rfl | ⟨hp, hne⟩
    · intro e
      rw [hg'] at e
      exact hnew g' (h.fb _ e.symm) (huB g' e.symm) rfl
    · exact h.off p hp
  · intro p hp p' hp' hne
    rcases mem_mput hp with rfl | ⟨hp, hn1⟩
    · rcases mem_mput hp' with rfl | ⟨hp', hn2⟩
      · exact absurd rfl hne
      · intro e
        rw [hg'] at e
        exact hnew g' (h.fm _ hp' _ e.symm) (hup p' hp' hn2 g' e.symm) rfl
    · rcases mem_mput hp' with rfl | ⟨hp', hn2⟩
      · intro e
        rw [hg'] at e
        exact hnew g' (h.fm _ hp _ e) (hup p hp hn1 g' e) rfl
      · exact h.apart p hp p' hp' hne
  · intro p hp g hb
    rcases mem_mput hp with rfl | ⟨hp, hne⟩
    · rw [hg'] at hb; cases hb; exact hF'
    · exact Or.inl (h.fm p hp g hb)
  · rintro j (hj | hj)
    · exact Nat.lt_of_lt_of_le (h.lt j hj) hsz
    · exact hj.2

end Go.Proofs.YtbkefhoapnaciaaGreat.disks
end

/-
  disk: Write, the walk.
-/
section
set_option linter.unusedSimpArgs false
set_option linter.unusedVariables false
namespace Go.Proofs.YtbkefhoapnaciaaGreat.disks
open Go.RowKit Go.Maps Go.My Go.ChangeMaps
set_option maxRecDepth 100000

variable {w w' : World} {d q : Nat} {F F' : Nat → Prop} {X X' : DV} {bv : Value} {m : List (Int × (Value × List Blk))}

def writeC (X : DV) (i : Int) (n : Nat) : Int := if askedC X i ≠ 0 then askedC X i else if n ≠ 64 then 2 else if X.fuse = 0 then 15 else 0
def DV.write (X : DV) (i : Int) (b : Blk) : DV := if askedC X i ≠ 0 ∨ b.length ≠ 64 then X else if X.fuse = 0 then X.burn else X.burn.put i.toNat b

theorem DiskIs.grown (h : DiskIs w d F X bv q m) {w0 : World} (hs : w0.heap.size ≤ w.heap.size) : DiskAt w d (grow F w0 w) X :=
  ⟨bv, q, m, h.wide (fun _ h => Or.inl h) (by rintro k (hk | hk); exact h.lt k hk; exact hk.2)⟩

theorem take_list {P : Program} {md : Region.Mode} {l : List Oper} {Q : Exit → Go.Act → World → Prop} {S : World → Prop} {i : Nat} {oi : Oper} {v : Value} {fuel : Nat} {listed : Array Bool} {a : Go.Act} {w : World} (hi : l[i]? = some oi)
    (hs : Region.noSelect l.toArray = true) (hf : Region.free md l.toArray listed i = true) (hr : (Region.ready md l.toArray listed).contains i = true)
    (hQ : ∀ c a w, Q (.panic c) (a.put oi.dst v) w → Q (.panic c) a w) (hy : YieldsIf P l.toArray S oi v a) (hS : S w)
    (h : wpAnyH P md l.toArray Q S fuel (listed.setIfInBounds i true) (a.put oi.dst v) w) : wpAnyH P md l.toArray Q S (fuel + 1) listed a w :=
  wpAnyH_take (by simpa using hi) hs hf hr hQ hy hS h

theorem one_list {P : Program} {md : Region.Mode} {l : List Oper} {Q : Exit → Go.Act → World → Prop} {S : World → Prop} {i : Nat} {o : Oper} {rs : List Nat} {fuel : Nat} {listed : Array Bool} {a : Go.Act} {w : World} (hi : l[i]? = some o)
    (hw : Region.wanted o (yielded l.toArray a.tmps) = true)
    (h : ∀ K : Go.Act → World → Prop, (∀ a w, S w → (S w → wpAnyH P md l.toArray Q S fuel (listed.setIfInBounds i true) a w) → K a w) → Oper.wp P o a w K Q)
    (hs : AllReadyH P md l.toArray Q S fuel listed a w rs) : AllReadyH P md l.toArray Q S fuel listed a w (i :: rs) := by
  refine AllReadyH.cons (o := o) (by simpa using hi) (fun K hK => ?_) hs
  rw [if_pos hw]
  exact h K hK.out

theorem oper_append {P : Program} {o : Oper} {a : Go.Act} {w w' : World} {K : Go.Act → World → Prop} {Q : Exit → Go.Act → World → Prop} (s x : Operand) (t : TypeId)
    (ho : o.op = .call { callee := .builtin .append, args := #[s, x], argTypes := #[t, t] }) {v sv xv : Value} (hs : a.eval s = sv) (hx : a.eval x = xv)
    (hr : (Builtin.append_ #[t, t] o.type #[sv, xv]).run P w = .ok v w') (h : K (a.put o.dst v) w') : Oper.wp P o a w K Q := by
  unfold Oper.wp execOp
  simp only [ho, resolve, invoke, builtin, Sem.run_bind, Sem.run_pure, Result.andThen_ok, List.map_toArray, List.map_cons, List.map_nil, hs, hx, hr]
  exact h

set_option maxHeartbeats 4000000 in
theorem write_any (w : World) (h : DiskIs w d F X bv q m) (i : Int) (hi : inR i) (hf : X.fuse ≤ 9223372036854775807) (oa : Option Addr) (n cap : Nat) (b : Blk) (hb : SlAt w (.slice oa n cap) (cellsB b)) (hbf : ∀ a, oa = some a → ¬ F a.block) (hL : ∀ j, (X.L j).length < 1000000) :
    Calls Tryz.prog 85 #[.pointer (some ⟨d, 0, none⟩), .int .i64 i, .slice oa n cap] w fun e w' => e = .returned (.int .i64 (writeC X i b.length)) ∧ DiskAt w' d (grow F w w') (X.write i b) ∧ Chg F w w' := by
  obtain ⟨i0, hI0⟩ := info_parts info_block
  have HI0 := Lib.hid hI0
  clear hI0
  obtain rfl : n = b.length := by
    obtain ⟨_, _, h1, _⟩ := hb
    simp only [Value.slice.injEq] at h1
    rw [h1.2.1, cellsB_length]
  have H := Lib.hid h
  have HB := Lib.hid hb
  have HF := Lib.hid hbf
  have HL := Lib.hid hL
  by_cases ha : askedC X i = 0
  · obtain ⟨k, rfl, hk⟩ : ∃ k : Nat, i = (k : Int) ∧ k < X.B.length := by
      unfold askedC at ha
      split at ha
      · omega
      · split at ha
        · exact ⟨i.toNat, by omega, by omega⟩
        · omega
    by_cases hb64 : b.length = 64
    · obtain ⟨g, off, rfl⟩ : ∃ g off, oa = some ⟨g, off, none⟩ := by
        obtain ⟨oa', cap', h1, h2, -⟩ := hb
        simp only [Value.slice.injEq] at h1
        rw [h1.1]
        exact h2 (by intro e; have := congrArg List.length e; rw [cellsB_length, hb64] at this; simp at this)
      have hb65 : ((b.length : Int) != 64) = false := by rw [hb64]; rfl
      clear h hb hbf hL
      by_cases hz : X.fuse = 0
      · go_enter Tryz.func85, Tryz.ntmps85
        go_wp2_with (first
          | (go_at_call 54; refine (asked_any _ ⟨_, _, _, H.out⟩ _).mono ?_; rw [ha]; rintro e w' ⟨rfl, rfl⟩)
          | (go_at_call 95; refine (through_any _ H.out hf).mono ?_; simp only [hz, ne_eq, not_true_eq_false, decide_false]; rintro e w1 ⟨rfl, h1, hc1⟩))
        go_ret
        refine ⟨by simp [writeC, ha, hb64, hz], ?_, hc1.mono (fun j _ e => e ▸ H.out.fd)⟩
        rw [DV.write, if_neg (by simp [ha, hb64]), if_pos hz]
        exact h1.grown hc1.size
      · go_enter Tryz.func85, Tryz.ntmps85
        go_wp2_with (first
          | (go_at_call 54; refine (asked_any _ ⟨_, _, _, H.out⟩ _).mono ?_; rw [ha]; rintro e w' ⟨rfl, rfl⟩)
          | (go_at_call 95; refine (through_any _ H.out hf).mono ?_; simp only [hz, ne_eq, not_false_eq_true, decide_true]; rintro e w1 ⟨rfl, h1, hc1⟩))
        have hd1 : g ≠ d := fun e => HF.out _ rfl (by rw [show (⟨g, off, none⟩ : Addr).block = g from rfl, e]; exact H.out.fd)
        have hr : w1.rangeAt g off (cellsB b) := by
          obtain ⟨oa', cap', e1, -, e3⟩ := HB.out
          simp only [Value.slice.injEq] at e1
          intro j x hx
          exact hc1.cell (e3 g off e1.1.symm j x hx) (fun e => hd1 e)
        have hYL : X.burn.L = X.L := by rw [DV.burn, if_neg hz]
        have hYB : X.burn.B = X.B := by rw [DV.burn, if_neg hz]
        obtain ⟨u, hu, hou, hum⟩ := h1.looked' k
        rw [hYL] at hou hum
        have H1 := Lib.hid h1
        have HC1 := Lib.hid hc1
        obtain ⟨wb, hwb⟩ : ∃ wb, (w1.alloc (.cells (cellsB b).toArray 107)).drew = wb := ⟨_, rfl⟩
        have hcb : Chg (fun _ => False) w1 wb := by subst hwb; exact ((Chg.refl _ _).alloc _).drew
        have hsb : wb.heap.size = w1.heap.size + 1 := by subst hwb; exact World.size_alloc _ _
        have hlb : (cellsB b).length = 64 := by rw [cellsB_length, hb64]
        obtain ⟨v', w2, hap, ho, hg, -, hv⟩ := run_append_own_at (P := Tryz.prog) wb 0 59 59 107 i0 (.agg (Array.replicate 64 (.int .u8 0))) 64 64 Tryz.underlying59 HI0.out.1 HI0.out.2.1 HI0.out.2.2.1 HI0.out.2.2.2 (by simp [Value.cells]) (by omega)
          u _ _ (hou.kept hcb (fun _ _ h => h)).row ⟨w1.heap.size, 0, none⟩ 1 1 (cellsB b) (by rw [hlb]) (by subst hwb; exact cells_new w1 (cellsB b) _) (one_cellsB b) (by have := HL.out k; simp only [List.length_map]; unfold maxLen; omega) (by have := HL.out k; simp only [List.length_map]; omega) (by omega)
        have hO : OwnRecs w2 0 107 64 v' ((X.L k ++ [b]).map cellsB) := ⟨by simpa using ho, fun r hr => by
          rw [List.map_append, List.mem_append] at hr
          rcases hr with hr | hr
          · exact hou.each r hr
          · simp only [List.map_cons, List.map_nil, List.mem_singleton] at hr
            rw [hr]; exact hlb⟩
        have hC2 : Chg (fun j => some j = u.ownBlock) w1 w2 := Chg.trans' (hcb.mono (fun _ _ h => h.elim)) (Chg.of_grown hg)
        have huF : ∀ j, some j = u.ownBlock → F j := fun j e => by
          rcases hum with hum | hum
          · rw [hum] at e; cases e
          · exact H1.out.fm _ (by rw [← hYL] at hum; exact hum) j e.symm
        have huq : ¬ some q = u.ownBlock := fun e => row_ne_q H1.out hou e.symm
        have hud : ¬ some d = u.ownBlock := fun e => row_ne_d H1.out hou e.symm
        have hgF : ¬ F g := HF.out _ rfl
        have hgq : g ≠ q := fun e => hgF (e ▸ H.out.fq)
        have hgu : ¬ some g = u.ownBlock := fun e => hgF (huF g e)
        obtain ⟨ob, hput, hmap⟩ := (H1.out.wmap.kept hC2 huq).put Tryz.underlying60 (k : Int) (inR_wf hi) (v', X.L k ++ [b])
        have hput' : (Instr.mapUpdate 60 (.map (some q)) (.int .i64 k) v').run Tryz.prog w2 = .ok () (setBlock w2 q ob) := hput
        have hC3 : Chg (· = q) w2 (setBlock w2 q ob) := Chg.setBlock (S := (· = q)) (Chg.refl _ _) (fun _ => rfl) _
        have c1 : w1.cell? ⟨d, 1, none⟩ = some (.map (some q)) := cell_of_block H1.out.head rfl
        have k0 : w1.drew.cell? ⟨d, 1, none⟩ = some (.map (some q)) := c1
        have k1 := hcb.cell c1 id
        have k2 := hC2.cell c1 hud
        have k3 := hC3.cell k2 (fun e => H1.out.d_ne_q e)
        have r0 : w1.drew.rangeAt g off (cellsB b) := hr
        have r1 : wb.rangeAt g off (cellsB b) := fun j x hx => hcb.cell (hr j x hx) id
        have r2 : w2.rangeAt g off (cellsB b) := fun j x hx => hC2.cell (hr j x hx) hgu
        have r3 : (setBlock w2 q ob).rangeAt g off (cellsB b) := fun j x hx => hC3.cell (r2 j x hx) (fun e => hgq e)
        have hlk0 : (Instr.lookup 60 (.map (some q)) (.int .i64 k) false).run Tryz.prog w1.drew = .ok u w1.drew := by
          have := (H1.out.wmap.kept ((Chg.refl (fun _ => False) w1).drew) (fun h => h)).look Tryz.underlying60 (zero_blocks _) false (k : Int) (inR_wf hi)
          rw [hu] at this; exact this
        have hlk1 : (Instr.lookup 60 (.map (some q)) (.int .i64 k) false).run Tryz.prog wb = .ok u wb := by
          have := (H1.out.wmap.kept hcb (fun h => h)).look Tryz.underlying60 (zero_blocks _) false (k : Int) (inR_wf hi)
          rw [hu] at this; exact this
        have hsa : ∀ w', (Instr.arrayAt 107 (.slice (some ⟨g, off, none⟩) 64 cap)).run Tryz.prog w' = .ok (.pointer (some ⟨g, off, none⟩)) w' := fun w' => run_arrayAt _ _ _ 64 _ _ _ Tryz.underlying107 (by omega)
        have hfd : ∀ z : Array Value, z.size = 64 → List.foldl (fun (cs : Array Value) (x : Value × Nat) => cs.setIfInBounds x.snd x.fst) z (cellsB b).zipIdx = (cellsB b).toArray := fun z hz => by
          have := foldl_set (cellsB b) 0 [] z.toList rfl (by simp [hlb, hz])
          rw [show ([] ++ z.toList : List Value).toArray = z from by simp, List.drop_eq_nil_of_le (by simp [hlb, hz])] at this
          simpa using this
        have hty := Tryz.underlying107
        have hsz : (Tryz.prog.info? 107).map (·.size) = some (cellsB b).length := by rw [hlb]; exact size_block
        have hoc := one_cellsB b
        have hfin := H1.out.putL (by rw [hYB]; exact hk) (by rw [hYL]; exact hum) hC2 (by rw [hYL]; exact hO) (by rcases hv with hv | hv; exact Or.inl hv; exact Or.inr ⟨_, by omega, hv⟩) (by rw [hYL]; exact hmap) hC3
        have hAt : DiskAt (setBlock w2 q ob) d (grow F w (setBlock w2 q ob)) (X.write k b) := ⟨_, _, _, by
          rw [DV.write, if_neg (by simp [ha, hb64]), if_neg hz, Int.toNat_natCast]
          exact hfin.wide (by rintro j (hj | hj); exact Or.inl hj; exact Or.inr ⟨Nat.le_trans hc1.size hj.1, hj.2⟩) (by rintro j (hj | hj); exact hfin.lt j (Or.inl hj); exact hj.2)⟩
        have hChg : Chg F w (setBlock w2 q ob) := Chg.trans' (Chg.trans' (hc1.mono (fun j _ e => e ▸ H.out.fd)) (hC2.mono (fun j _ e => huF j e))) (hC3.mono (fun j _ e => e ▸ H1.out.fq))
        have HFin := Lib.hid (And.intro hAt hChg)
        clear hAt hChg
        clear hfin hC2 hC3 hput hmap h1 hc1 hu hou hum ho hg hv hO hr c1 huF huq hud hgF hgq hgu
        subst hwb
        refine wp_region_noPanic ?_
        refine wp_region_held_drew (S := fun w' => w'.cell? ⟨d, 1, none⟩ = some (.map (some q)) ∧ w'.rangeAt g off (cellsB b)) (by kernel_rfl) ⟨k0, r0⟩ (fun hHeld => ?_)
        refine take_list (i := 0) (v := ?_) rfl (by kernel_rfl) (by kernel_rfl) (by kernel_rfl) (fun _ _ _ h => h) (Or.inl ⟨by rfl, fun w hSw => ?_⟩) hHeld ?_
        rotate_left
        · (obtain ⟨hSw1, hSw2⟩ := hSw; go_simp)
          try with_reducible rfl
        simp only [Act.put, List.setIfInBounds_toArray, List.set_cons_zero, List.set_cons_succ]
        refine take_list (i := 1) (v := ?_) rfl (by kernel_rfl) (by kernel_rfl) (by kernel_rfl) (fun _ _ _ h => h) (Or.inl ⟨by rfl, fun w hSw => ?_⟩) hHeld ?_
        rotate_left
        · (obtain ⟨hSw1, hSw2⟩ := hSw; go_simp)
          try with_reducible rfl
        simp only [Act.put, List.setIfInBounds_toArray, List.set_cons_zero, List.set_cons_succ]
        refine take_list (i := 2) (v := ?_) rfl (by kernel_rfl) (by kernel_rfl) (by kernel_rfl) (fun _ _ _ h => h) (Or.inl ⟨by rfl, fun w hSw => ?_⟩) hHeld ?_
        rotate_left
        · (obtain ⟨hSw1, hSw2⟩ := hSw; go_simp)
          try with_reducible rfl
        simp only [Act.put, List.setIfInBounds_toArray, List.set_cons_zero, List.set_cons_succ]
        refine take_list (i := 3) (v := ?_) rfl (by kernel_rfl) (by kernel_rfl) (by kernel_rfl) (fun _ _ _ h => h) (Or.inl ⟨by rfl, fun w hSw => ?_⟩) hHeld ?_
        rotate_left
        · (obtain ⟨hSw1, hSw2⟩ := hSw; go_simp)
          try with_reducible rfl
        simp only [Act.put, List.setIfInBounds_toArray, List.set_cons_zero, List.set_cons_succ]
        refine take_list (i := 4) (v := ?_) rfl (by kernel_rfl) (by kernel_rfl) (by kernel_rfl) (fun _ _ _ h => h) (Or.inl ⟨by rfl, fun w hSw => ?_⟩) hHeld ?_
        rotate_left
        · (obtain ⟨hSw1, hSw2⟩ := hSw; go_simp)
          try with_reducible rfl
        simp only [Act.put, List.setIfInBounds_toArray, List.set_cons_zero, List.set_cons_succ]
        refine take_list (i := 5) (v := ?_) rfl (by kernel_rfl) (by kernel_rfl) (by kernel_rfl) (fun _ _ _ h => h) (Or.inl ⟨by rfl, fun w hSw => ?_⟩) hHeld ?_
        rotate_left
        · (obtain ⟨hSw1, hSw2⟩ := hSw; go_simp)
          try with_reducible rfl
        simp only [Act.put, List.setIfInBounds_toArray, List.set_cons_zero, List.set_cons_succ]
        refine take_list (i := 6) (v := ?_) rfl (by kernel_rfl) (by kernel_rfl) (by kernel_rfl) (fun _ _ _ h => h) (Or.inl ⟨by rfl, fun w hSw => ?_⟩) hHeld ?_
        rotate_left
        · (obtain ⟨hSw1, hSw2⟩ := hSw; go_simp)
          try with_reducible rfl
        simp only [Act.put, List.setIfInBounds_toArray, List.set_cons_zero, List.set_cons_succ]
        refine take_list (i := 7) (v := ?_) rfl (by kernel_rfl) (by kernel_rfl) (by kernel_rfl) (fun _ _ _ h => h) (Or.inl ⟨by rfl, fun w hSw => ?_⟩) hHeld ?_
        rotate_left
        · (obtain ⟨hSw1, hSw2⟩ := hSw; go_simp)
          try with_reducible rfl
        simp only [Act.put, List.setIfInBounds_toArray, List.set_cons_zero, List.set_cons_succ]
        refine take_list (i := 8) (v := ?_) rfl (by kernel_rfl) (by kernel_rfl) (by kernel_rfl) (fun _ _ _ h => h) (Or.inl ⟨by rfl, fun w hSw => ?_⟩) hHeld ?_
        rotate_left
        · (obtain ⟨hSw1, hSw2⟩ := hSw; go_simp)
          try with_reducible rfl
        simp only [Act.put, List.setIfInBounds_toArray, List.set_cons_zero, List.set_cons_succ]
        refine take_list (i := 9) (v := ?_) rfl (by kernel_rfl) (by kernel_rfl) (by kernel_rfl) (fun _ _ _ h => h) (Or.inl ⟨by rfl, fun w hSw => ?_⟩) hHeld ?_
        rotate_left
        · (obtain ⟨hSw1, hSw2⟩ := hSw; go_simp)
          try with_reducible rfl
        simp only [Act.put, List.setIfInBounds_toArray, List.set_cons_zero, List.set_cons_succ]
        refine take_list (i := 11) (v := ?_) rfl (by kernel_rfl) (by kernel_rfl) (by kernel_rfl) (fun _ _ _ h => h) (Or.inl ⟨by rfl, fun w hSw => ?_⟩) hHeld ?_
        rotate_left
        · (obtain ⟨hSw1, hSw2⟩ := hSw; go_simp)
          try with_reducible rfl
        simp only [Act.put, List.setIfInBounds_toArray, List.set_cons_zero, List.set_cons_succ]
        refine take_list (i := 12) (v := ?_) rfl (by kernel_rfl) (by kernel_rfl) (by kernel_rfl) (fun _ _ _ h => h) (Or.inl ⟨by rfl, fun w hSw => ?_⟩) hHeld ?_
        rotate_left
        · (obtain ⟨hSw1, hSw2⟩ := hSw; go_simp)
          try with_reducible rfl
        simp only [Act.put, List.setIfInBounds_toArray, List.set_cons_zero, List.set_cons_succ]
        refine take_list (i := 13) rfl (by kernel_rfl) (by kernel_rfl) (by kernel_rfl) (fun _ _ _ h => h) (yieldsIf_load_mid (by rfl) _ _ rfl _ _ rfl (cellsB b) _ (fun w h => h.2) hty rfl hsz) hHeld ?_
        simp only [Act.put, List.setIfInBounds_toArray, List.set_cons_zero, List.set_cons_succ]
        refine wpAnyH_ready (rs := [10, 14]) (by kernel_rfl) (by simp) (one_list (i := 10) rfl (by rfl) (fun K hK => ?_) (one_list (i := 14) rfl (by rfl) (fun K hK => ?_) AllReadyH.nil))
        · go_simp
          refine hK _ _ ⟨k0, r0⟩ (fun hHeld1 => ?_)
          try simp only [Act.put, List.setIfInBounds_toArray, List.set_cons_zero, List.set_cons_succ]
          refine wpAnyH_ready (rs := [14]) (by kernel_rfl) (by simp) (one_list (i := 14) rfl (by rfl) (fun K hK => ?_) AllReadyH.nil)
          go_simp
          refine hK _ _ ⟨k1, r1⟩ (fun hHeld1 => ?_)
          try simp only [Act.put, List.setIfInBounds_toArray, List.set_cons_zero, List.set_cons_succ]
          refine wpAnyH_ready (rs := [15]) (by kernel_rfl) (by simp) (one_list (i := 15) rfl (by rfl) (fun K hK => ?_) AllReadyH.nil)
          refine oper_append _ _ _ rfl rfl rfl hap ?_
          refine hK _ _ ⟨k2, r2⟩ (fun hHeld3 => ?_)
          simp only [Act.put, List.setIfInBounds_toArray, List.set_cons_zero, List.set_cons_succ]
          refine wpAnyH_ready (rs := [16]) (by kernel_rfl) (by simp) (one_list (i := 16) rfl (by rfl) (fun K hK => ?_) AllReadyH.nil)
          go_simp
          refine hK _ _ ⟨k3, r3⟩ (fun hHeld4 => ?_)
          try simp only [Act.put, List.setIfInBounds_toArray, List.set_cons_zero, List.set_cons_succ]
          refine wpAnyH_done (by kernel_rfl) ?_ _
          refine NoPanic.normal ?_
          go_wp2
          go_ret
          exact ⟨by simp [writeC, ha, hb64, hz], HFin.out⟩
        · go_simp
          refine hK _ _ ⟨k1, r1⟩ (fun hHeld1 => ?_)
          try simp only [Act.put, List.setIfInBounds_toArray, List.set_cons_zero, List.set_cons_succ]
          refine wpAnyH_ready (rs := [10]) (by kernel_rfl) (by simp) (one_list (i := 10) rfl (by rfl) (fun K hK => ?_) AllReadyH.nil)
          go_simp
          refine hK _ _ ⟨k1, r1⟩ (fun hHeld1 => ?_)
          try simp only [Act.put, List.setIfInBounds_toArray, List.set_cons_zero, List.set_cons_succ]
          refine wpAnyH_ready (rs := [15]) (by kernel_rfl) (by simp) (one_list (i := 15) rfl (by rfl) (fun K hK => ?_) AllReadyH.nil)
          refine oper_append _ _ _ rfl rfl rfl hap ?_
          refine hK _ _ ⟨k2, r2⟩ (fun hHeld3 => ?_)
          simp only [Act.put, List.setIfInBounds_toArray, List.set_cons_zero, List.set_cons_succ]
          refine wpAnyH_ready (rs := [16]) (by kernel_rfl) (by simp) (one_list (i := 16) rfl (by rfl) (fun K hK => ?_) AllReadyH.nil)
          go_simp
          refine hK _ _ ⟨k3, r3⟩ (fun hHeld4 => ?_)
          try simp only [Act.put, List.setIfInBounds_toArray, List.set_cons_zero, List.set_cons_succ]
          refine wpAnyH_done (by kernel_rfl) ?_ _
          refine NoPanic.normal ?_
          go_wp2
          go_ret
          exact ⟨by simp [writeC, ha, hb64, hz], HFin.out⟩
    · have hb65 : ((b.length : Int) != 64) = true := by simp; omega
      clear h hb hbf hL
      go_enter Tryz.func85, Tryz.ntmps85
      go_wp2_with (first
        | (go_at_call 54; refine (asked_any _ ⟨_, _, _, H.out⟩ _).mono ?_; rw [ha]; rintro e w' ⟨rfl, rfl⟩))
      go_ret
      refine ⟨by simp [writeC, ha, hb64], ?_, Chg.refl _ _⟩
      rw [DV.write, if_pos (Or.inr hb64)]
      exact H.out.grown (Nat.le_refl _)
  · have hne : (askedC X i != 0) = true := by simpa using ha
    clear h hb hbf hL
    go_enter Tryz.func85, Tryz.ntmps85
    go_wp2_with (first
      | (go_at_call 54; refine (asked_any _ ⟨_, _, _, H.out⟩ _).mono ?_; rintro e w' ⟨rfl, rfl⟩))
    go_ret
    refine ⟨by simp [writeC, ha], ?_, Chg.refl _ _⟩
    rw [DV.write, if_pos (Or.inl ha)]
    exact H.out.grown (Nat.le_refl _)

end Go.Proofs.YtbkefhoapnaciaaGreat.disks
end

/-
  disk: a whole block of the durable ones is set; the waiting ones are cleared.
-/
section
set_option linter.unusedSimpArgs false
set_option linter.unusedVariables false
namespace Go.Proofs.YtbkefhoapnaciaaGreat.disks
open Go.RowKit Go.Maps Go.My Go.ChangeMaps
set_option maxRecDepth 100000

variable {w w' : World} {d q : Nat} {F F' : Nat → Prop} {X X' : DV} {bv : Value} {m : List (Int × (Value × List Blk))}

theorem chg_setCells (g : Nat) : ∀ (vs : List Value) (o : Nat) (w : World), Chg (· = g) w (w.setCells g o vs)
  | [], _, w => Chg.refl _ w
  | v :: r, o, w => (Chg.setCell (S := (· = g)) (Chg.refl _ w) (fun _ => rfl) v).trans' (chg_setCells g r (o + 1) _)

theorem modify_list {α : Type} (l : List (List α)) (n : Nat) (h : ∀ r ∈ l, r.length = n) (k j : Nat) (v : α) (vs : List α) (hj : j < n) :
    (l.modify k (fun r => r.set j v)).modify k (fun r => r.take (j + 1) ++ vs ++ r.drop (j + 1 + vs.length)) = l.modify k (fun r => r.take j ++ (v :: vs) ++ r.drop (j + (v :: vs).length)) := by
  apply List.ext_getElem?
  intro i
  simp only [List.getElem?_modify]
  by_cases hk : k = i
  · subst hk
    cases hl : l[k]? with
    | none => simp
    | some r =>
      have hr := h r (List.mem_of_getElem? hl)
      simp only [if_true, Option.map_eq_map, Option.map_some, Option.some.injEq]
      have h1 : (r.set j v).take (j + 1) = r.take j ++ [v] := by
        rw [List.take_set, List.take_add_one, List.getElem?_eq_getElem (by omega), Option.toList_some, List.set_append_right _ _ (by rw [List.length_take]; omega)]
        have : (r.take j).length = j := by rw [List.length_take]; omega
        rw [this, Nat.sub_self]; rfl
      rw [h1, List.drop_set_of_lt (by omega)]
      simp [Nat.add_assoc, Nat.add_comm 1]
  · simp [hk]

theorem set_rows {base : Nat} {e : TypeId} {n : Nat} {g cap k : Nat} : ∀ (vs : List Value) (j : Nat) (w : World) (l : List (List Value)), j + vs.length ≤ n → OwnRecs w base e n (.slice (some ⟨g, 0, none⟩) l.length cap) l →
    OwnRecs (w.setCells g (k * n + j) vs) base e n (.slice (some ⟨g, 0, none⟩) l.length cap) (l.modify k (fun r => r.take j ++ vs ++ r.drop (j + vs.length)))
  | [], j, w, l, _, h => by
    have : l.modify k (fun r => r.take j ++ [] ++ r.drop (j + ([] : List Value).length)) = l := by
      apply List.ext_getElem?
      intro i
      simp only [List.getElem?_modify]
      split <;> simp
    rw [this]
    exact h
  | v :: vs, j, w, l, hj, h => by
    simp only [List.length_cons] at hj
    have h1 := h.set (k := k) (j := j) (by omega) v
    have h2 := set_rows (k := k) (n := n) (g := g) (cap := cap) (base := base) (e := e) vs (j + 1) (w.setCell ⟨g, k * n + j, none⟩ v) (l.modify k (fun r => r.set j v)) (by omega) (by simpa using h1)
    rw [modify_list l n h.each k j v vs (by omega)] at h2
    simp only [List.length_modify] at h2
    exact h2

theorem set_row {base : Nat} {e : TypeId} {n : Nat} {g cap k : Nat} (vs : List Value) (w : World) (l : List (List Value)) (hv : vs.length = n) (h : OwnRecs w base e n (.slice (some ⟨g, 0, none⟩) l.length cap) l) :
    OwnRecs (w.setCells g (k * n) vs) base e n (.slice (some ⟨g, 0, none⟩) l.length cap) (l.set k vs) := by
  have h1 := set_rows (k := k) vs 0 w l (by omega) h
  have : l.modify k (fun r => r.take 0 ++ vs ++ r.drop (0 + vs.length)) = l.set k vs := by
    apply List.ext_getElem?
    intro i
    simp only [List.getElem?_modify, List.getElem?_set]
    by_cases hk : k = i
    · subst hk
      simp only [if_true]
      cases hl : l[k]? with
      | none =>
        have := List.getElem?_eq_none_iff.1 hl
        simp; omega
      | some r =>
        have hr := h.each r (List.mem_of_getElem? hl)
        have := (List.getElem?_eq_some_iff.1 hl).1
        simp [this, List.drop_eq_nil_of_le (show r.length ≤ vs.length by omega)]
    · simp [hk]
  rw [this] at h1
  simpa using h1

theorem rows_there {g n cap : Nat} {l : List Blk} (h : OwnRecs w 0 107 64 (.slice (some ⟨g, 0, none⟩) n cap) (l.map cellsB)) {k : Nat} (hk : k < l.length) : w.there g (k * 64) 64 := by
  obtain ⟨g', cap', e1, _, hr, hf⟩ := rows_range h hk
  simp only [Value.slice.injEq, Option.some.injEq, Addr.mk.injEq] at e1
  obtain ⟨⟨rfl, -⟩, -⟩ := e1
  have hl : (cellsB l[k]).length = 64 := h.each _ (List.mem_map_of_mem (List.getElem_mem _))
  intro j hj
  refine ⟨?_, hf _⟩
  rw [hr j ((cellsB l[k])[j]'(by omega)) (List.getElem?_eq_getElem _)]
  rfl

/-- A block of the durable ones is set. -/
theorem DiskIs.setB {g cap : Nat} (h : DiskIs w d F X (.slice (some ⟨g, 0, none⟩) X.B.length cap) q m) (k : Nat) (b : Blk) (hb : b.length = 64) :
    DiskIs (w.setCells g (k * 64) (cellsB b)) d F { X with B := X.B.set k b } (.slice (some ⟨g, 0, none⟩) X.B.length cap) q m ∧ Chg (· = g) w (w.setCells g (k * 64) (cellsB b)) := by
  have hc := chg_setCells g (cellsB b) (k * 64) w
  have hr : OwnRecs w 0 107 64 (.slice (some ⟨g, 0, none⟩) (X.B.map cellsB).length cap) (X.B.map cellsB) := by simpa using h.rows
  have h1 := set_row (k := k) (cellsB b) w (X.B.map cellsB) (by rw [cellsB_length, hb]) hr
  rw [← List.map_set, List.length_map] at h1
  have hgd : d ≠ g := fun e => row_ne_d h h.rows (by rw [e]; rfl)
  have hgq : q ≠ g := fun e => row_ne_q h h.rows (by rw [e]; rfl)
  refine ⟨⟨hc.at h.head hgd, h1, ?_, h.wmap.kept hc hgq, fun p hp => ⟨(h.lists p hp).1.kept hc (fun j hj e => h.off p hp (by rw [hj, e]; rfl)), (h.lists p hp).2.1, (h.lists p hp).2.2.1, by simpa using (h.lists p hp).2.2.2⟩,
    h.waits, h.off, h.apart, h.fd, h.fq, h.fb, h.fm, fun j hj => Nat.lt_of_lt_of_le (h.lt j hj) hc.size, by simpa using h.size⟩, hc⟩
  intro e
  exact h.any (by simpa using congrArg List.length e)

/-- Nothing waits any more. -/
theorem DiskIs.cleared (h : DiskIs w d F X bv q m) (clock : Nat) : DiskIs (setBlock w q (.map #[] clock)) d F { X with L := fun _ => [] } bv q [] ∧ Chg (· = q) w (setBlock w q (.map #[] clock)) := by
  have hc : Chg (· = q) w (setBlock w q (.map #[] clock)) := Chg.setBlock (S := (· = q)) (Chg.refl _ _) (fun _ => rfl) _
  obtain ⟨es, c0, hb, -⟩ := h.wmap
  refine ⟨⟨hc.at h.head h.d_ne_q, h.rows.kept hc (fun j hj e => row_ne_q h h.rows (e ▸ hj)), h.any, MapIs.made _ _ (MapKept.heap_set (o' := .map #[] clock) hb).1, by simp, by simp [mget], by simp, by simp, h.fd, h.fq, h.fb, by simp,
    fun j hj => Nat.lt_of_lt_of_le (h.lt j hj) hc.size, h.size⟩, hc⟩

end Go.Proofs.YtbkefhoapnaciaaGreat.disks
end
