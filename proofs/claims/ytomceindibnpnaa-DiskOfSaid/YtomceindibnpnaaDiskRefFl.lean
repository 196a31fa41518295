/-
  veneerref09: Flush, the walk.
-/
import Derived.Test.YtomceindibnpnaaDiskRefRd
namespace Go.Proofs.Ytomceindibnpnaa.disks
open Go.RowKit Go.Maps Go.My Go.ChangeMaps
set_option maxRecDepth 100000

variable {w w' : World} {r : Nat} {F F' : Nat → Prop} {R R' : RV} {bv lv : Value}

def RV.all (R : RV) : RV := { R with B := (List.range R.B.length).map (fun i => R.at i (-1)), S := [] }

set_option maxHeartbeats 4000000 in
theorem refflush_main (w : World) (h : RefIs w r F R bv lv) (hd : R.down = false) (hz : R.fuse ≠ 0) (hf : R.fuse ≤ 9223372036854775807) (hS : R.S.length < 1000000) (hB : R.B.length ≤ 4096) :
    Calls Try.prog 68 #[.pointer (some ⟨r, 0, none⟩)] w fun e w' => e = .returned (.int .i64 0) ∧ RefAt w' r (grow F w w') R.burn.all ∧ Chg F w w' := by
  have c3 : w.cell? ⟨r, 3, none⟩ = some (.bool false) := by rw [← hd]; exact cell_of_block h.head rfl
  obtain ⟨oab, cb, rfl⟩ := own_slice h.rows
  obtain ⟨i0, hI0⟩ := info_parts info_str
  have HI0 := Lib.hid hI0
  have H := Lib.hid h
  have hbB : R.burn.B = R.B := by unfold RV.burn; split <;> rfl
  have hbS : R.burn.S = R.S := by unfold RV.burn; split <;> rfl
  have HbB := Lib.hid hbB
  have HbS := Lib.hid hbS
  clear h hI0 hbB hbS
  go_enter Try.func68, Try.ntmps68
  go_wp2_with (first
    | (go_at_call 77; refine (burnR_any _ H.out hf).mono ?_; rw [if_neg hz]; rintro e w1 ⟨rfl, h1, hc1⟩; have H1 := Lib.hid h1; have HC1 := Lib.hid hc1; clear h1 hc1))
  go_loopw [4, 5] (fun u j wr => ∃ k : Nat, j = .int .i64 k ∧ k ≤ R.B.length ∧ wr.ownsRow w1.heap.size 9 1 u k ((List.range k).map (fun i => strV (R.burn.at i (-1)))) ∧ Chg (fun _ => False) w1 wr) (fun _ j _ => R.B.length - (intOf j).toNat)
  · exact ⟨0, rfl, Nat.zero_le _, World.ownsRow_nil _ _ _ _, Chg.refl _ _⟩
  obtain ⟨k, rfl, hk, ho, hc⟩ := hrel
  obtain ⟨oau, cu, rfl⟩ := own_slice ho
  have HO := Lib.hid ho
  have HC := Lib.hid hc
  have HR := Lib.hid (H1.out.kept hc (fun _ _ h => h))
  clear ho hc
  have d0 : wr.cell? ⟨r, 0, none⟩ = some (.slice oab R.B.length cb) := cell_of_block HR.out.head rfl
  by_cases hlt : k < R.B.length
  · have hki : (k : Int) < (R.B.length : Int) := by omega
    obtain ⟨sx, hsx⟩ : ∃ sx : ByteArray, (⟨(R.burn.at k (-1)).toArray⟩ : ByteArray) = sx := ⟨_, rfl⟩
    have HSx := Lib.hid hsx
    clear hsx
    have hwb := (Chg.refl (fun _ => False) wr).alloc (.cells #[.string sx] 9)
    have HWb := Lib.hid hwb
    have HRow := Lib.hid (row_kept HO.out hwb (fun _ _ h => h))
    clear hwb
    go_wp2_with (first
      | (go_at_call 78; refine (at_any _ HR.out k (by rw [HbB.out]; exact hlt) (-1) (by rw [HbS.out]; exact hS)).mono ?_; rw [strV, HSx.out]; rintro e w5 ⟨rfl, rfl⟩)
      | (at_builtin; refine wpList_append_own_at _ rfl _ _ 57 rfl w1.heap.size 9 i0 (.string ⟨#[]⟩) 1 16 Try.underlying57 HI0.out.1 HI0.out.2.1 HI0.out.2.2.1 HI0.out.2.2.2 rfl (by decide) _ _ _ rfl HRow.out ⟨wr.heap.size, 0, none⟩ 1 1 [.string sx] rfl rfl (cells_new wr [.string sx] _) (by intro x hx; rw [List.mem_singleton.1 hx]; rfl) (by unfold maxLen; omega) (by omega) (by have := HC.out.size; have := HWb.out.size; omega) ?_; intro v6 w6 ho6 hg6 hx1 hx2; have HO6 := Lib.hid ho6; have HG6 := Lib.hid hg6; clear ho6 hg6 hx1 hx2))
    refine ⟨⟨k + 1, by go_num, hlt, ?_, (HC.out.trans' HWb.out).new (Chg.of_grown HG6.out) (fun i e => (HO.out.lt i e.symm).1)⟩, meas_step hlt⟩
    rw [List.range_succ, List.map_append, List.map_cons, List.map_nil, strV, HSx.out]
    exact HO6.out
  · have hki : ¬ (k : Int) < (R.B.length : Int) := by omega
    obtain rfl : k = R.B.length := by omega
    have z0 : wr.frozen? ⟨r, 0, none⟩ = false := free_of_block HR.out.head
    have hh7 := block_setCell (i := 0) (v := .slice oau R.B.length cu) HR.out.head
    have d1 : (wr.setCell ⟨r, 0, none⟩ (.slice oau R.B.length cu)).cell? ⟨r, 1, none⟩ = some lv := cell_of_block hh7 rfl
    have z1 : (wr.setCell ⟨r, 0, none⟩ (.slice oau R.B.length cu)).frozen? ⟨r, 1, none⟩ = false := free_of_block hh7
    have hh8 := block_setCell (i := 1) (v := .slice none 0 0) hh7
    have hcs : Chg (· = r) wr ((wr.setCell ⟨r, 0, none⟩ (.slice oau R.B.length cu)).setCell ⟨r, 1, none⟩ (.slice none 0 0)) := (Chg.setCell (S := (· = r)) (Chg.refl _ _) (fun _ => rfl) _).setCell (fun _ => rfl) _
    have HH8 := Lib.hid hh8
    have HCs := Lib.hid hcs
    clear hh7 hh8 hcs
    go_wp2_with fail
    go_ret
    have hs1 := HC1.out.size
    have hs2 := HC.out.size
    have hs3 := HCs.out.size
    have hur : ∀ g, (Value.slice oau R.B.length cu).ownBlock = some g → ¬ g = r := fun g hg e => by
      obtain ⟨c1, e1⟩ := row_obj HO.out hg
      rw [e, HR.out.head, objR] at e1
      simp only [Option.some.injEq, Obj.cells.injEq] at e1
      exact types_ref.1 e1.2.1
    have hB : (R.burn.all).B.map strV = (List.range R.B.length).map (fun i => strV (R.burn.at i (-1))) := by
      simp only [RV.all, HbB.out, List.map_map]; rfl
    have hBl : (R.burn.all).B.length = R.B.length := by simp [RV.all, HbB.out]
    refine ⟨rfl, ⟨.slice oau R.B.length cu, .slice none 0 0, HH8.out.trans rfl, ?_, OwnRecs.nil _ _ _ _, Or.inl H.out.fr, fun g hg => ?_, by simp [Value.ownBlock], ?_⟩, ?_⟩
    · rw [hBl, hB]
      have h1 := row_kept HO.out HCs.out hur
      refine ⟨h1.1, ?_⟩
      rcases h1.2 with h | ⟨g, cap, cur, e1, e2, e3⟩
      · exact Or.inl h
      · exact Or.inr ⟨g, cap, cur, e1, Nat.zero_le _, e3⟩
    · have h1 := HO.out.lt g hg
      exact Or.inr ⟨by omega, by omega⟩
    · rintro k (hk | hk)
      · have := H.out.lt k hk; omega
      · exact hk.2
    · exact ((HC1.out.mono (fun k _ e => by rw [e]; exact H.out.fr)).trans' (HC.out.mono (fun _ _ h => h.elim))).trans' (HCs.out.mono (fun k _ e => by rw [e]; exact H.out.fr))

def refFlushC (R : RV) : Int := if R.down then 15 else if R.fuse = 0 then 15 else 0
def RV.flush (R : RV) : RV := if R.down then R else if R.fuse = 0 then R.burn else R.burn.all

set_option maxHeartbeats 4000000 in
theorem refflush_any (w : World) (h : RefIs w r F R bv lv) (hf : R.fuse ≤ 9223372036854775807) (hS : R.S.length < 1000000) (hB : R.B.length ≤ 4096) :
    Calls Try.prog 68 #[.pointer (some ⟨r, 0, none⟩)] w fun e w' => e = .returned (.int .i64 (refFlushC R)) ∧ RefAt w' r (grow F w w') R.flush ∧ Chg F w w' := by
  cases hd : R.down with
  | true =>
    have c3 : w.cell? ⟨r, 3, none⟩ = some (.bool R.down) := cell_of_block h.head rfl
    have H := Lib.hid h
    clear h
    rw [hd] at c3
    go_enter Try.func68, Try.ntmps68
    go_wp2_with fail
    go_ret
    exact ⟨by simp [refFlushC, hd], by rw [RV.flush, if_pos hd]; exact H.out.grown (Nat.le_refl _), Chg.refl _ _⟩
  | false =>
    by_cases hz : R.fuse = 0
    · have c3 : w.cell? ⟨r, 3, none⟩ = some (.bool R.down) := cell_of_block h.head rfl
      have H := Lib.hid h
      clear h
      rw [hd] at c3
      have hr : refFlushC R = 15 := by rw [refFlushC, if_neg (by simp [hd]), if_pos hz]
      have hw : R.flush = R.burn := by rw [RV.flush, if_neg (by simp [hd]), if_pos hz]
      rw [hr, hw]
      go_enter Try.func68, Try.ntmps68
      go_wp2_with (first
        | (go_at_call 77; refine (burnR_any _ H.out hf).mono ?_; rw [if_pos hz]; rintro e w1 ⟨rfl, h1, hc1⟩; have H1 := Lib.hid h1; have HC1 := Lib.hid hc1; clear h1 hc1))
      go_ret
      exact ⟨rfl, H1.out.grown HC1.out.size, HC1.out.mono (fun k _ e => by rw [e]; exact H.out.fr)⟩
    · refine (refflush_main w h hd hz hf hS hB).mono ?_
      rintro e w' ⟨rfl, h1, h2⟩
      refine ⟨by rw [refFlushC, if_neg (by simp [hd]), if_neg hz], ?_, h2⟩
      rw [RV.flush, if_neg (by simp [hd]), if_neg hz]
      exact h1

end Go.Proofs.Ytomceindibnpnaa.disks
