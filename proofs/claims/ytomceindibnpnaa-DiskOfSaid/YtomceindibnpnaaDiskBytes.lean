/-
  disk's laws: bytesOf.
-/
import Derived.Test.YtomceindibnpnaaDiskActs
import Derived.Test.YtomceindibnpnaaMaps
import Derived.WalkLawsBesides
import Derived.BigQuiet
import Derived.Deep.Onto
namespace Go.Proofs.Ytomceindibnpnaa.disks
open Go.RowKit Go.My
set_option maxRecDepth 100000

theorem info_u8 : (Try.prog.info? 5).map (fun i => (i.zero, i.size, i.bytes)) = some (some (.int .u8 0), 1, 1) := by kernel_rfl

def byteVal (a : DAct) : UInt8 := UInt8.ofNat (a.n % 256).toNat
def lenOf (a : DAct) : Nat := if a.long = 0 then 64 else (((a.long.tmod 100) + 100).tmod 100).toNat
def bytesC (l : List UInt8) : List Value := l.map (fun b => .int .u8 b.toNat)
def bytesOf (a : DAct) : List UInt8 := List.replicate (lenOf a) (byteVal a)

theorem lenOf_lt (a : DAct) : lenOf a < 100 := by
  unfold lenOf
  split
  · omega
  · have h1 := Int.tmod_lt_of_pos (a.long.tmod 100 + 100) (b := 100) (by omega)
    omega


theorem made_u8 (w : World) (n : Nat) (hn : n < 100) : ∃ w', (Instr.makeSlice 68 (.int .i64 (n : Int)) (.int .i64 (n : Int))).run Try.prog w = .ok (.slice (some ⟨w.heap.size, 0, none⟩) n n) w' ∧
      w'.ownsRow w.heap.size 5 1 (.slice (some ⟨w.heap.size, 0, none⟩) n n) n (List.replicate n (.int .u8 0)) ∧ Chg (fun _ => False) w w' := by
  obtain ⟨i0, hi, hz, hs, hb⟩ := info_parts info_u8
  obtain ⟨w', h1, h2, h3⟩ := run_makeSlice_full (P := Try.prog) w w.heap.size 68 5 i0 (.int .u8 0) 1 Try.underlying68 hi hz hs .i64 .i64 n (by omega) (by rw [hb]; omega) (by unfold maxLen; omega) (Nat.le_refl _)
  refine ⟨w', h1, ?_, (Chg.of_grown h3).mono (fun i _ h => by cases h)⟩
  have : (madeCells (Value.int .u8 0).cells (n * 1)).toList = List.replicate n (.int .u8 0) := by
    apply List.ext_getElem
    · simp [madeCells]
    · intro i h1 h2
      simp [madeCells, Value.cells, Nat.mod_one]
  rwa [this] at h2

theorem byte_wrap (n : Int) : IntKind.u8.wrap n = ((UInt8.ofNat (n % 256).toNat).toNat : Int) := by
  rw [IntKind.wrap_u8, UInt8.toNat_ofNat']
  omega

theorem byte_mod (a : DAct) : a.n % 256 = ((byteVal a).toNat : Int) := by
  unfold byteVal
  rw [UInt8.toNat_ofNat']
  omega

theorem fill_full (a : DAct) : bytesC (bytesOf a) = List.replicate (lenOf a) (.int .u8 (byteVal a).toNat) := by
  simp [bytesC, bytesOf]

set_option maxHeartbeats 400000 in
theorem bytesOf_any (w : World) (a : DAct) (hn : inR a.n) (hl : inR a.long) : Calls Try.prog 34 #[.agg #[.int .i64 a.kind, .int .i64 a.place, .int .i64 a.n, .int .i64 a.long, a.kv]] w fun e w' =>
    ∃ v, e = .returned v ∧ w'.ownsRow w.heap.size 5 1 v (lenOf a) (bytesC (bytesOf a)) ∧ Chg (fun _ => False) w w' := by
  have hlen := lenOf_lt a
  have hlong : (a.long != 0) = true → (wrap64 (a.long.tmod 100 + 100)).tmod 100 = (lenOf a : Int) := by
    intro h
    have h1 := Int.tmod_lt_of_pos a.long (b := 100) (by omega)
    have h2 := Int.lt_tmod_of_pos a.long (b := 100) (by omega)
    rw [IntWalk.wrap64_in _ (by omega), lenOf, if_neg (by simpa using h)]
    have h3 : 0 ≤ (a.long.tmod 100 + 100).tmod 100 := Int.tmod_nonneg _ (by omega)
    omega
  have hshort : ¬ (a.long != 0) = true → (64 : Int) = (lenOf a : Int) := by
    intro h
    rw [lenOf, if_pos (by simpa using h)]; rfl
  go_enter Try.func34, Try.ntmps34
  go_wp2_with fail
  all_goals try rw [hshort (by assumption)]
  all_goals obtain ⟨w0, hw0⟩ : ∃ w0, w.alloc (.cells #[.int .i64 a.kind, .int .i64 a.place, .int .i64 a.n, .int .i64 a.long, a.kv] 66) = w0 := ⟨_, rfl⟩
  all_goals rw [hw0]
  all_goals have hA0 : w0.heap[w.heap.size]? = some (.cells #[.int .i64 a.kind, .int .i64 a.place, .int .i64 a.n, .int .i64 a.long, a.kv] 66 (0, 0)) := by subst hw0; exact block_alloc_new _ _
  all_goals have hc0 : Chg (fun _ => False) w w0 := by subst hw0; exact (Chg.refl _ _).alloc _
  all_goals have hs0 : w.heap.size < w0.heap.size := lt_of_block hA0
  all_goals obtain ⟨w1, hm, ho, hc⟩ := made_u8 w0 (lenOf a) hlen
  all_goals rw [hm]
  all_goals simp only [Result.andThen]
  all_goals rw [Oper.upon_value]
  all_goals have hc1 := hc0.trans' hc
  all_goals have HA := Lib.hid (hc.at hA0 id)
  all_goals have HO := Lib.hid ho
  all_goals have HC := Lib.hid hc1
  all_goals clear hA0 hc0 hc hc1 ho hm hw0
  all_goals go_wp2_with fail
  all_goals go_loopw [18] (fun j w' => ∃ k : Nat, j = .int .i64 k ∧ k ≤ lenOf a ∧ w'.ownsRow w0.heap.size 5 1 (.slice (some ⟨w0.heap.size, 0, none⟩) (lenOf a) (lenOf a)) (lenOf a) (List.replicate k (.int .u8 (byteVal a).toNat) ++ List.replicate (lenOf a - k) (.int .u8 0)) ∧ Chg (fun _ => False) w w' ∧ w'.heap[w.heap.size]? = some (.cells #[.int .i64 a.kind, .int .i64 a.place, .int .i64 a.n, .int .i64 a.long, a.kv] 66 (0, 0))) (fun j _ => lenOf a - (intOf j).toNat)
  all_goals try (first | exact ⟨0, rfl, by omega, by simpa using HO.out, HC.out, HA.out⟩ | fail)
  all_goals obtain ⟨k, rfl, hk, ho, hc, hA⟩ := hrel
  all_goals have HO1 := Lib.hid ho
  all_goals have HC1 := Lib.hid hc
  all_goals have HA1 := Lib.hid hA
  all_goals clear ho hc
  all_goals have a2 := cell_of_block hA (i := 2) rfl
  all_goals clear hA
  all_goals by_cases hlt : k < lenOf a
  all_goals try obtain ⟨hx, c0, c1, c2, c3⟩ := own_cell HO1.out hlt
  all_goals try clear hx
  all_goals go_wp2_with fail
  all_goals first
    | (refine ⟨⟨k + 1, by go_num, by omega, ?_, HC1.out.setCell (fun h => absurd h (by show ¬ w0.heap.size < w.heap.size; omega)) _, ?_⟩, by simp [intOf]; omega⟩
       · have h1 := (HO1.out.stored k (.int .u8 (a.n % 256))).1
         rw [byte_mod a, fill_step _ _ _ _ (by omega), Nat.sub_sub] at h1
         rw [byte_mod a]
         exact h1
       · rw [heap_setCell_get _ _ _ _ (by show w.heap.size ≠ w0.heap.size; omega)]
         exact HA1.out)
    | (go_ret
       refine ⟨_, rfl, ?_, HC1.out⟩
       have h1 := HO1.out
       have h2 : k = lenOf a := by omega
       rw [h2, Nat.sub_self, List.replicate_zero, List.append_nil] at h1
       rw [fill_full]
       exact Go.World.ownsRow.mono h1 (by omega))

end Go.Proofs.Ytomceindibnpnaa.disks
