/-
  THE STATE OF A disk: durable blocks, and what waits by block, told without the heap; the footprint F of its blocks.
-/
import Derived.Test.YtomceindibnpnaaProg
import Derived.Test.YtomceindibnpnaaMaps
import Derived.Test.YtomceindibnpnaaRecs
import Derived.Test.YtomceindibnpnaaNest
import Derived.WalkLawsBesides
import Derived.BigQuiet
import Derived.Lib.LazyBuf
import Derived.Deep.QuietTactic
import Derived.Lib.Hide
namespace Go.Proofs.Ytomceindibnpnaa.disks
open Go.RowKit Go.Maps Go.My
set_option maxRecDepth 100000

abbrev Blk := List UInt8
def cellsB (l : Blk) : List Value := l.map (fun b => .int .u8 b.toNat)
theorem cellsB_length (l : Blk) : (cellsB l).length = l.length := by simp [cellsB]

def iKey : KeyEnc Try.prog 3 Int where
  enc := encI
  ok k := (Lit.int .i64 k).wf = true
  keyed := int_keyed Try.underlying3
  reads k hk := ⟨_, keyOf_int_mk Try.underlying3 hk⟩
  inj k k' h := by simpa [encI] using h

structure DV where
  B : List Blk
  L : Nat → List Blk
  fuse : Int
  down : Bool
  done : Int

def objD (bv : Value) (q : Nat) (X : DV) : Obj := .cells #[bv, .map (some q), .int .i64 X.fuse, .bool X.down, .int .i64 X.done] 94 (0, 0)

structure DiskIs (w : World) (d : Nat) (F : Nat → Prop) (X : DV) (bv : Value) (q : Nat) (m : List (Int × (Value × List Blk))) : Prop where
  head : w.heap[d]? = some (objD bv q X)
  rows : OwnRecs w 0 112 64 bv (X.B.map cellsB)
  any : X.B ≠ []
  wmap : MapIs iKey Prod.fst w q m
  lists : ∀ p ∈ m, OwnRecs w 0 112 64 p.2.1 (p.2.2.map cellsB) ∧ p.2.2 ≠ [] ∧ 0 ≤ p.1 ∧ p.1 < X.B.length
  waits : ∀ i : Nat, X.L i = ((mget m (i : Int)).map (·.2)).getD []
  off : ∀ p ∈ m, p.2.1.ownBlock ≠ bv.ownBlock
  apart : ∀ p ∈ m, ∀ p' ∈ m, p.1 ≠ p'.1 → p.2.1.ownBlock ≠ p'.2.1.ownBlock
  fd : F d
  fq : F q
  fb : ∀ g, bv.ownBlock = some g → F g
  fm : ∀ p ∈ m, ∀ g, p.2.1.ownBlock = some g → F g
  lt : ∀ k, F k → k < w.heap.size
  size : X.B.length ≤ 4096

def DiskAt (w : World) (d : Nat) (F : Nat → Prop) (X : DV) : Prop := ∃ bv q m, DiskIs w d F X bv q m

variable {w w' : World} {d q : Nat} {F F' : Nat → Prop} {X X' : DV} {bv : Value} {m : List (Int × (Value × List Blk))}

theorem DiskIs.kept (h : DiskIs w d F X bv q m) {S : Nat → Prop} (hc : Chg S w w') (hs : ∀ k, F k → ¬ S k) : DiskIs w' d F X bv q m :=
  ⟨hc.at h.head (hs _ h.fd), h.rows.kept hc (fun k hk => hs _ (h.fb k hk)), h.any, h.wmap.kept hc (hs _ h.fq), fun p hp => ⟨(h.lists p hp).1.kept hc (fun k hk => hs _ (h.fm p hp k hk)), (h.lists p hp).2⟩,
    h.waits, h.off, h.apart, h.fd, h.fq, h.fb, h.fm, fun k hk => Nat.lt_of_lt_of_le (h.lt k hk) hc.size, h.size⟩

theorem DiskAt.kept (h : DiskAt w d F X) {S : Nat → Prop} (hc : Chg S w w') (hs : ∀ k, F k → ¬ S k) : DiskAt w' d F X := by
  obtain ⟨bv, q, m, h⟩ := h; exact ⟨bv, q, m, h.kept hc hs⟩

theorem DiskAt.fresh (h : DiskAt w d F X) (hc : Chg (fun _ => False) w w') : DiskAt w' d F X := h.kept hc (fun _ _ h => h)

theorem DiskIs.wide (h : DiskIs w d F X bv q m) (hs : ∀ k, F k → F' k) (hl : ∀ k, F' k → k < w.heap.size) : DiskIs w d F' X bv q m :=
  ⟨h.head, h.rows, h.any, h.wmap, h.lists, h.waits, h.off, h.apart, hs _ h.fd, hs _ h.fq, fun g hg => hs _ (h.fb g hg), fun p hp g hg => hs _ (h.fm p hp g hg), hl, h.size⟩

theorem DiskAt.wide (h : DiskAt w d F X) (hs : ∀ k, F k → F' k) (hl : ∀ k, F' k → k < w.heap.size) : DiskAt w d F' X := by
  obtain ⟨bv, q, m, h⟩ := h; exact ⟨bv, q, m, h.wide hs hl⟩

theorem own_obj {w : World} {base : Nat} {e : TypeId} {n : Nat} {v : Value} {l : List (List Value)} (h : OwnRecs w base e n v l) {g : Nat} (hg : v.ownBlock = some g) : ∃ cur, w.heap[g]? = some (.cells cur e (0, 0)) := by
  rcases h.row.2 with ⟨rfl, h0⟩ | ⟨g', cap, cur, rfl, _, hh, _⟩
  · simp [Value.ownBlock] at hg
  · simp only [Value.ownBlock, Option.some.injEq] at hg
    subst hg
    exact ⟨cur, hh⟩

theorem DiskIs.d_ne_q (h : DiskIs w d F X bv q m) : d ≠ q := by
  obtain ⟨es, clock, hb, _⟩ := h.wmap
  rintro rfl
  rw [h.head, objD] at hb; cases hb

theorem types_ne : (94 : Nat) ≠ 112 := by decide

theorem row_ne_d {l : List (List Value)} {v : Value} (h : DiskIs w d F X bv q m) (hr : OwnRecs w 0 112 64 v l) : v.ownBlock ≠ some d := by
  intro hg
  obtain ⟨cur, hc⟩ := own_obj hr hg
  rw [h.head, objD] at hc
  simp only [Option.some.injEq, Obj.cells.injEq] at hc
  exact types_ne hc.2.1

theorem row_ne_q {l : List (List Value)} {v : Value} (h : DiskIs w d F X bv q m) (hr : OwnRecs w 0 112 64 v l) : v.ownBlock ≠ some q := by
  intro hg
  obtain ⟨cur, hc⟩ := own_obj hr hg
  obtain ⟨es, clock, hb, _⟩ := h.wmap
  rw [hb] at hc; cases hc

/-- The record's own three numbers change. -/
theorem DiskIs.putD (h : DiskIs w d F X bv q m) (f : Int) (u : Bool) (n : Int) (hc : Chg (· = d) w w') (ho : w'.heap[d]? = some (objD bv q { X with fuse := f, down := u, done := n })) : DiskIs w' d F { X with fuse := f, down := u, done := n } bv q m :=
  ⟨ho, h.rows.kept hc (fun _ hk e => row_ne_d h h.rows (e ▸ hk)), h.any, h.wmap.kept hc (fun e => h.d_ne_q e.symm), fun p hp => ⟨(h.lists p hp).1.kept hc (fun _ hk e => row_ne_d h (h.lists p hp).1 (e ▸ hk)), (h.lists p hp).2⟩,
    h.waits, h.off, h.apart, h.fd, h.fq, h.fb, h.fm, fun k hk => Nat.lt_of_lt_of_le (h.lt k hk) hc.size, h.size⟩

/-- The slice of blocks, and its length. -/
theorem DiskIs.sl (h : DiskIs w d F X bv q m) : ∃ g cap, bv = .slice (some ⟨g, 0, none⟩) X.B.length cap ∧ X.B.length ≤ cap := by
  obtain ⟨oa, cap, h1, h2, _⟩ := h.rows.slice
  have hne : 0 < (X.B.map cellsB).length := by have := h.any; cases hX : X.B with | nil => exact absurd hX this | cons a l => simp
  obtain ⟨g, cap', e1, e2, _⟩ := h.rows.cell hne
  exact ⟨g, cap', by rw [e1]; simp, by simpa using e2⟩

theorem none_no (w : World) (h : DiskAt w d F X) : Calls Try.prog 63 #[.pointer (some ⟨d, 0, none⟩)] w fun e w' => e = .returned (.bool false) ∧ w = w' := by
  obtain ⟨bv, q, m, h⟩ := h
  obtain ⟨g, cap, rfl, _⟩ := h.sl
  have c0 := cell_of_block h.head (i := 0) rfl
  have hq := fun w n c => run_eql_slice_nil (P := Try.prog) w 91 _ (some ⟨g, 0, none⟩) n c Try.underlying91
  clear h
  go_enter Try.func63, Try.ntmps63
  go_wp2
  go_ret
  exact ⟨rfl, rfl⟩

def askedC (X : DV) (i : Int) : Int := if X.down then 15 else if 0 ≤ i ∧ i < X.B.length then 0 else 2

theorem asked_any (w : World) (h : DiskAt w d F X) (i : Int) : Calls Try.prog 61 #[.pointer (some ⟨d, 0, none⟩), .int .i64 i] w fun e w' => e = .returned (.int .i64 (askedC X i)) ∧ w = w' := by
  have H := Lib.hid h
  obtain ⟨bv, q, m, h⟩ := h
  obtain ⟨g, cap, rfl, _⟩ := h.sl
  have c0 := cell_of_block h.head (i := 0) rfl
  have c3 := cell_of_block h.head (i := 3) rfl
  clear h
  cases hd : X.down
  all_goals rw [hd] at c3
  all_goals go_enter Try.func61, Try.ntmps61
  all_goals go_wp2_with (go_at_call 63; refine (none_no _ H.out).mono ?_; rintro e w' ⟨rfl, rfl⟩)
  all_goals go_ret
  all_goals refine ⟨?_, rfl⟩
  all_goals first | (simp [askedC, *]; done) | (simp [askedC, hd]; omega)

theorem blocks_any (w : World) (h : DiskAt w d F X) : Calls Try.prog 47 #[.pointer (some ⟨d, 0, none⟩)] w fun e w' => e = .returned (.int .i64 X.B.length) ∧ w = w' := by
  have H := Lib.hid h
  obtain ⟨bv, q, m, h⟩ := h
  obtain ⟨g, cap, rfl, _⟩ := h.sl
  have c0 := cell_of_block h.head (i := 0) rfl
  clear h
  go_enter Try.func47, Try.ntmps47
  go_wp2_with (go_at_call 63; refine (none_no _ H.out).mono ?_; rintro e w' ⟨rfl, rfl⟩)
  go_ret
  exact ⟨rfl, rfl⟩

theorem up_any (w : World) (h : DiskAt w d F X) : Calls Try.prog 37 #[.pointer (some ⟨d, 0, none⟩)] w fun e w' => e = .returned (.bool (!X.down)) ∧ w = w' := by
  have H := Lib.hid h
  obtain ⟨bv, q, m, h⟩ := h
  have c3 := cell_of_block h.head (i := 3) rfl
  clear h
  go_enter Try.func37, Try.ntmps37
  go_wp2_with (go_at_call 63; refine (none_no _ H.out).mono ?_; rintro e w' ⟨rfl, rfl⟩)
  go_ret
  exact ⟨rfl, rfl⟩

theorem done_any (w : World) (h : DiskAt w d F X) : Calls Try.prog 40 #[.pointer (some ⟨d, 0, none⟩)] w fun e w' => e = .returned (.int .i64 X.done) ∧ w = w' := by
  have H := Lib.hid h
  obtain ⟨bv, q, m, h⟩ := h
  have c3 := cell_of_block h.head (i := 4) rfl
  clear h
  go_enter Try.func40, Try.ntmps40
  go_wp2_with (go_at_call 63; refine (none_no _ H.out).mono ?_; rintro e w' ⟨rfl, rfl⟩)
  go_ret
  exact ⟨rfl, rfl⟩

/-- A write or a flush asks for its turn. -/
def DV.burn (X : DV) : DV := if X.fuse = 0 then { X with down := true } else { X with fuse := if 0 < X.fuse then X.fuse - 1 else X.fuse, done := wrap64 (X.done + 1) }

end Go.Proofs.Ytomceindibnpnaa.disks
