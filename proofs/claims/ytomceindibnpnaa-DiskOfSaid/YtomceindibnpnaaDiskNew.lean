/-
  disk: New, the walk.
-/
import Derived.Test.YtomceindibnpnaaDiskFlush
import Derived.Laws.OwnMore
namespace Go.Proofs.Ytomceindibnpnaa.disks
open Go.RowKit Go.Maps Go.My Go.ChangeMaps
set_option maxRecDepth 100000

variable {w w' : World} {d q : Nat} {F F' : Nat → Prop} {X X' : DV} {bv : Value} {m : List (Int × (Value × List Blk))}

def zeroBlk : Blk := List.replicate 64 0
def DV.new (n : Nat) : DV := ⟨List.replicate n zeroBlk, fun _ => [], -1, false, 0⟩
/-- The blocks that came between two worlds. -/
def born (w w' : World) : Nat → Prop := fun j => w.heap.size ≤ j ∧ j < w'.heap.size

theorem cells_zero : cellsB zeroBlk = List.replicate 64 (.int .u8 0) := rfl

theorem flatten_zero (n : Nat) : ((DV.new n).B.map cellsB).flatten = List.replicate (n * 64) (.int .u8 0) := by
  show ((List.replicate n zeroBlk).map cellsB).flatten = _
  rw [List.map_replicate, cells_zero, List.flatten_replicate_replicate]

theorem made_blocks (w : World) (n : Nat) (hn : n ≤ 4096) : ∃ w', (Instr.makeSlice 91 (.int .i64 (n : Int)) (.int .i64 (n : Int))).run Try.prog w = .ok (.slice (some ⟨w.heap.size, 0, none⟩) n n) w' ∧
      OwnRecs w' 0 112 64 (.slice (some ⟨w.heap.size, 0, none⟩) n n) ((DV.new n).B.map cellsB) ∧ Chg (fun _ => False) w w' := by
  obtain ⟨i0, hi, hz, hs, hb⟩ := info_parts info_block
  obtain ⟨w', h1, h2, h3⟩ := run_makeSlice_full (P := Try.prog) w 0 91 112 i0 (.agg (Array.replicate 64 (.int .u8 0))) 64 Try.underlying91 hi hz hs .i64 .i64 n (by omega) (by rw [hb]; omega) (by unfold maxLen; omega) (Nat.zero_le _)
  refine ⟨w', h1, ⟨?_, ?_⟩, (Chg.of_grown h3).mono (fun i _ h => by cases h)⟩
  · have : (madeCells (Value.agg (Array.replicate 64 (.int .u8 0))).cells (n * 64)).toList = ((DV.new n).B.map cellsB).flatten := by
      rw [flatten_zero]
      apply List.ext_getElem
      · simp [madeCells]
      · intro i h1 h2
        have : i % 64 < 64 := Nat.mod_lt _ (by omega)
        simp [madeCells, Value.cells, this]
    rw [this] at h2
    have hl : ((DV.new n).B.map cellsB).length = n := by simp [DV.new]
    rw [hl]; exact h2
  · intro r hr
    obtain ⟨b, hb, rfl⟩ := List.mem_map.1 hr
    rw [List.eq_of_mem_replicate hb, cells_zero, List.length_replicate]

theorem new_any (w : World) (n : Nat) (h1 : 1 ≤ n) (hn : n ≤ 4096) :
    Calls Try.prog 38 #[.int .i64 (n : Int)] w fun e w' => ∃ d, e = .returned (.tuple #[.pointer (some ⟨d, 0, none⟩), .int .i64 0]) ∧ DiskAt w' d (born w w') (DV.new n) ∧ Chg (fun _ => False) w w' := by
  have hmm := @run_makeMap Try.prog
  obtain ⟨w1, hm, ho, hc⟩ := made_blocks w n hn
  have HO := Lib.hid ho
  have HC := Lib.hid hc
  have hs1 : w.heap.size < w1.heap.size := by
    obtain ⟨g, cap, e1, _, _, h2, _⟩ := ho.cell (k := 0) (by simp [DV.new]; omega)
    simp only [Value.slice.injEq, Option.some.injEq, Addr.mk.injEq] at e1
    rw [e1.1.1]; exact h2
  clear ho hc
  have l1 : ((n : Int) < 1) = False := by simp; omega
  have l2 : ((4096 : Int) < n) = False := by simp; omega
  go_enter Try.func38, Try.ntmps38
  go_wp2
  go_ret2
  have ca := (Chg.refl (fun _ => False) w1).alloc (.map #[] 0)
  have cb := ca.alloc (.cells #[.slice (some ⟨w.heap.size, 0, none⟩) n n, .map (some w1.heap.size), .int .i64 (-1), .bool false, .int .i64 0] 94)
  refine ⟨_, rfl, ⟨_, w1.heap.size, [], ⟨?_, HO.out.kept cb (fun _ _ h => h), ?_, .made _ _ (clock := 0) ?_, by simp, by simp [mget, DV.new], by simp, by simp, ?_, ?_, ?_, by simp, fun j hj => hj.2, by simpa [DV.new] using hn⟩⟩, HC.out.trans' cb⟩
  · simp only [heap_alloc_get, World.size_alloc]
    rw [if_pos trivial]; rfl
  · intro e
    have := congrArg List.length e
    simp [DV.new] at this; omega
  · simp only [heap_alloc_get, World.size_alloc]
    rw [if_neg (by omega), if_pos trivial]
  · exact ⟨by omega, by simp only [World.size_alloc]; omega⟩
  · exact ⟨by omega, by simp only [World.size_alloc]; omega⟩
  · intro g hg
    simp only [Value.ownBlock, Option.some.injEq] at hg
    rw [← hg]
    exact ⟨Nat.le_refl _, by simp only [World.size_alloc]; omega⟩

theorem new_bad (w : World) (n : Int) (h1 : n < 1 ∨ 4096 < n) :
    Calls Try.prog 38 #[.int .i64 n] w fun e w' => e = .returned (.tuple #[.pointer none, .int .i64 2]) ∧ w = w' := by
  by_cases h : n < 1
  · go_enter Try.func38, Try.ntmps38
    go_wp2
    go_ret2
    exact ⟨rfl, rfl⟩
  · have h2 : 4096 < n := by omega
    go_enter Try.func38, Try.ntmps38
    go_wp2
    go_ret2
    exact ⟨rfl, rfl⟩

end Go.Proofs.Ytomceindibnpnaa.disks
