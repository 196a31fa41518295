/-
  veneerref09: Write, the walk.
-/
import Derived.Test.YtomceindibnpnaaDiskRefAt
namespace Go.Proofs.Ytomceindibnpnaa.disks
open Go.RowKit Go.Maps Go.My Go.ChangeMaps
set_option maxRecDepth 100000

variable {w w' : World} {r : Nat} {F F' : Nat → Prop} {R R' : RV} {bv lv : Value}

theorem info_sent : (Try.prog.info? 134).map (fun i => (i.zero, i.size, i.bytes)) = some (some (.agg #[.int .i64 0, .string ⟨#[]⟩]), 2, 24) := by kernel_rfl

def refWriteC (R : RV) (i : Int) (n : Nat) : Int := if R.down then 15 else if i < 0 ∨ (R.B.length : Int) ≤ i ∨ n ≠ 64 then 2 else if R.fuse = 0 then 15 else 0
def RV.write (R : RV) (i : Int) (b : Blk) : RV := if R.down ∨ i < 0 ∨ (R.B.length : Int) ≤ i ∨ b.length ≠ 64 then R else if R.fuse = 0 then R.burn else { R.burn with S := R.burn.S ++ [(i, b)] }

set_option maxHeartbeats 4000000 in
theorem refwrite_main (w : World) (h : RefIs w r F R bv lv) (i : Int) (h0 : 0 ≤ i) (hi : i < R.B.length) (hd : R.down = false) (hz : R.fuse ≠ 0) (hf : R.fuse ≤ 9223372036854775807) (b : Blk) (hb : b.length = 64) (hS : R.S.length < 1000000) (bs : ByteArray) (hbs : bs = ⟨b.toArray⟩) :
    Calls Try.prog 67 #[.pointer (some ⟨r, 0, none⟩), .int .i64 i, .string bs] w fun e w' => e = .returned (.int .i64 0) ∧ RefAt w' r (grow F w w') { R.burn with S := R.burn.S ++ [(i, b)] } ∧ Chg F w w' := by
  have hsz : bs.size = 64 := by rw [hbs]; simpa [ByteArray.size] using hb
  have c3 : w.cell? ⟨r, 3, none⟩ = some (.bool false) := by rw [← hd]; exact cell_of_block h.head rfl
  have c0 : w.cell? ⟨r, 0, none⟩ = some bv := cell_of_block h.head rfl
  obtain ⟨oab, cb, rfl⟩ := own_slice h.rows
  obtain ⟨oal, cl, rfl, -⟩ := h.sent.slice
  rw [List.length_map] at h
  obtain ⟨i0, hI0⟩ := info_parts info_sent
  have HI0 := Lib.hid hI0
  have H := Lib.hid h
  have HBs := Lib.hid hbs
  have HB := Lib.hid hb
  have hi0 : ¬ i < 0 := by omega
  have hi1 : ¬ (R.B.length : Int) ≤ i := by omega
  clear h hb hbs hI0
  go_enter Try.func67, Try.ntmps67
  go_wp2_with (first
    | (go_at_call 77; refine (burnR_any _ H.out hf).mono ?_; rw [if_neg hz]; rintro e w1 ⟨rfl, h1, hc1⟩; have H1 := Lib.hid h1; have HC1 := Lib.hid hc1
       have hbS : R.burn.S = R.S := by unfold RV.burn; split <;> rfl
       have d1 : w1.cell? ⟨r, 1, none⟩ = some (.slice oal R.S.length cl) := cell_of_block h1.head rfl
       have hro := h1.sent.kept ((Chg.refl (fun _ => False) w1).alloc (.cells #[.int .i64 i, .string bs] 134)) (fun _ _ h => h)
       rw [hbS] at hro
       have hl := hro.row
       rw [List.length_map] at hl
       have HRow := Lib.hid hl
       have HEach := Lib.hid hro.each
       have HBS := Lib.hid hbS
       clear h1 hc1 hro hl hbS)
    | (at_builtin; refine wpList_append_own_at _ rfl _ _ 118 rfl 0 134 i0 (.agg #[.int .i64 0, .string ⟨#[]⟩]) 2 24 Try.underlying118 HI0.out.1 HI0.out.2.1 HI0.out.2.2.1 HI0.out.2.2.2 rfl (by decide) _ _ _ rfl HRow.out ⟨w1.heap.size, 0, none⟩ 1 1 [.int .i64 i, .string bs] rfl rfl (cells_new w1 [.int .i64 i, .string bs] _) (by intro x hx; simp only [List.mem_cons, List.not_mem_nil, or_false] at hx; rcases hx with rfl | rfl <;> rfl) (by unfold maxLen; omega) (by omega) (Nat.zero_le _) ?_; intro v6 w6 ho6 hg6 hx1 hx2
       obtain ⟨oa6, c6, rfl⟩ := own_slice ho6
       have hcg := Chg.of_grown hg6
       have hca := (Chg.refl (fun _ => False) w1).alloc (.cells #[.int .i64 i, .string bs] 134)
       have hh6 := hcg.at (hca.at H1.out.head id) (fun e => H1.out.lne e.symm)
       have d6 : w6.cell? ⟨r, 1, none⟩ = some (.slice oal R.S.length cl) := cell_of_block hh6 rfl
       have z6 : w6.frozen? ⟨r, 1, none⟩ = false := free_of_block hh6
       have hcs : Chg (· = r) w6 (w6.setCell ⟨r, 1, none⟩ (.slice oa6 (R.S.length + 1) c6)) := Chg.setCell (S := (· = r)) (Chg.refl _ _) (fun _ => rfl) _
       have hh7 := block_setCell (i := 1) (v := .slice oa6 (R.S.length + 1) c6) hh6
       have HO6 := Lib.hid ho6
       have HCg := Lib.hid hcg
       have HCa := Lib.hid hca
       have HCs := Lib.hid hcs
       have HH7 := Lib.hid hh7
       have HX2 := Lib.hid hx2
       have HH6 := Lib.hid hh6
       clear ho6 hg6 hx1 hx2 hcg hca hh6 hcs hh7))
  go_ret
  have hbl : ∀ g, (Value.slice oab R.B.length cb).ownBlock = some g → ¬ some g = (Value.slice oal R.S.length cl).ownBlock := fun g hg e => by
    obtain ⟨c1, e1⟩ := row_obj H1.out.rows hg
    obtain ⟨c2, e2⟩ := own_obj H1.out.sent e.symm
    rw [e1] at e2
    simp only [Option.some.injEq, Obj.cells.injEq] at e2
    exact types_ref.2.2 e2.2.1
  have hl6 : ∀ g, (Value.slice oa6 (R.S.length + 1) c6).ownBlock = some g → ¬ g = r := fun g hg e => by
    obtain ⟨c1, e1⟩ := row_obj HO6.out hg
    rw [e, HH6.out, objR] at e1
    simp only [Option.some.injEq, Obj.cells.injEq] at e1
    exact types_ref.2.1 e1.2.1
  have hs1 := HC1.out.size
  have hs6 := HCa.out.size
  have hs7 := HCg.out.size
  have hs8 := HCs.out.size
  refine ⟨rfl, ⟨_, _, HH7.out.trans rfl, row_kept (row_kept (row_kept H1.out.rows HCa.out (fun _ _ h => h)) HCg.out (fun g hg e => hbl g hg e)) HCs.out (fun g hg e => H1.out.bne (by rw [hg, show g = r from e])), ?_, Or.inl H.out.fr, fun g hg => Or.inl (H.out.fb g hg), fun g hg => ?_, ?_⟩, ?_⟩
  · have h1 := row_kept HO6.out HCs.out (fun g hg e => hl6 g hg e)
    refine ⟨?_, ?_⟩
    · rw [HBS.out]
      simp only [List.map_append, List.map_cons, List.map_nil, List.flatten_append, List.length_append, List.length_map, List.length_cons, List.length_nil, Nat.zero_add]
      rw [show ([sentC (i, b)] : List (List Value)).flatten = [.int .i64 i, .string bs] from by rw [HBs.out]; rfl]
      exact h1
    · intro x hx
      obtain ⟨p, _, rfl⟩ := List.mem_map.1 hx
      rfl
  · rcases HX2.out with e | e
    · rw [e] at hg; exact Or.inl (H.out.fl g hg)
    · rw [e] at hg
      cases hg
      have := (HO6.out.lt _ e).2
      exact Or.inr ⟨by omega, by omega⟩
  · rintro k (hk | hk)
    · have := H.out.lt k hk; omega
    · exact hk.2
  · exact (((HC1.out.mono (fun k _ e => by rw [e]; exact H.out.fr)).trans' (HCa.out.mono (fun _ _ h => h.elim))).trans' (HCg.out.mono (fun k _ e => H.out.fl k e.symm))).trans' (HCs.out.mono (fun k _ e => by rw [e]; exact H.out.fr))

theorem RefIs.grown (h : RefIs w r F R bv lv) {w0 : World} (hs : w0.heap.size ≤ w.heap.size) : RefAt w r (grow F w0 w) R :=
  ⟨bv, lv, h.head, h.rows, h.sent, Or.inl h.fr, fun g hg => Or.inl (h.fb g hg), fun g hg => Or.inl (h.fl g hg), by rintro k (hk | hk); exact h.lt k hk; exact hk.2⟩

set_option maxHeartbeats 4000000 in
theorem refwrite_any (w : World) (h : RefIs w r F R bv lv) (i : Int) (hf : R.fuse ≤ 9223372036854775807) (b : Blk) (hS : R.S.length < 1000000) (bs : ByteArray) (hbs : bs = ⟨b.toArray⟩) :
    Calls Try.prog 67 #[.pointer (some ⟨r, 0, none⟩), .int .i64 i, .string bs] w fun e w' => e = .returned (.int .i64 (refWriteC R i b.length)) ∧ RefAt w' r (grow F w w') (R.write i b) ∧ Chg F w w' := by
  have hsz : bs.size = b.length := by rw [hbs]; simp [ByteArray.size]
  by_cases hgood : R.down = false ∧ 0 ≤ i ∧ i < R.B.length ∧ b.length = 64 ∧ R.fuse ≠ 0
  · obtain ⟨hd, h0, hi, hb, hz⟩ := hgood
    refine (refwrite_main w h i h0 hi hd hz hf b hb hS bs hbs).mono ?_
    rintro e w' ⟨rfl, h1, h2⟩
    have hn1 : ¬ (i < 0 ∨ (R.B.length : Int) ≤ i ∨ b.length ≠ 64) := by omega
    refine ⟨by rw [refWriteC, if_neg (by simp [hd]), if_neg hn1, if_neg hz], ?_, h2⟩
    rw [RV.write, if_neg (by simp [hd]; omega), if_neg hz]
    exact h1
  · have c0 : w.cell? ⟨r, 0, none⟩ = some bv := cell_of_block h.head rfl
    have c3 : w.cell? ⟨r, 3, none⟩ = some (.bool R.down) := cell_of_block h.head rfl
    obtain ⟨oab, cb, rfl⟩ := own_slice h.rows
    have H := Lib.hid h
    clear h hbs
    cases hd : R.down with
    | true =>
      rw [hd] at c3
      go_enter Try.func67, Try.ntmps67
      go_wp2_with fail
      go_ret
      exact ⟨by simp [refWriteC, hd], by rw [RV.write, if_pos (Or.inl hd)]; exact H.out.grown (Nat.le_refl _), Chg.refl _ _⟩
    | false =>
      rw [hd] at c3
      by_cases ha : i < 0 ∨ (R.B.length : Int) ≤ i ∨ b.length ≠ 64
      · have hr : refWriteC R i b.length = 2 := by rw [refWriteC, if_neg (by simp [hd]), if_pos ha]
        have hw : R.write i b = R := by rw [RV.write, if_pos (Or.inr ha)]
        rw [hr, hw]
        by_cases h0 : i < 0
        · go_enter Try.func67, Try.ntmps67
          go_wp2_with fail
          go_ret
          exact ⟨rfl, H.out.grown (Nat.le_refl _), Chg.refl _ _⟩
        · by_cases h1 : (R.B.length : Int) ≤ i
          · go_enter Try.func67, Try.ntmps67
            go_wp2_with fail
            go_ret
            exact ⟨rfl, H.out.grown (Nat.le_refl _), Chg.refl _ _⟩
          · have hb : ((bs.size : Int) != 64) = true := by simp; omega
            go_enter Try.func67, Try.ntmps67
            go_wp2_with fail
            go_ret
            exact ⟨rfl, H.out.grown (Nat.le_refl _), Chg.refl _ _⟩
      · have hz : R.fuse = 0 := by
          by_cases hz : R.fuse = 0
          · exact hz
          · exact absurd ⟨hd, by omega, by omega, by omega, hz⟩ hgood
        have h0 : ¬ i < 0 := by omega
        have h1 : ¬ (R.B.length : Int) ≤ i := by omega
        have hb : ((bs.size : Int) != 64) = false := by simp; omega
        have hr : refWriteC R i b.length = 15 := by rw [refWriteC, if_neg (by simp [hd]), if_neg ha, if_pos hz]
        have hw : R.write i b = R.burn := by rw [RV.write, if_neg (by simp [hd]; omega), if_pos hz]
        rw [hr, hw]
        go_enter Try.func67, Try.ntmps67
        go_wp2_with (first
          | (go_at_call 77; refine (burnR_any _ H.out hf).mono ?_; rw [if_pos hz]; rintro e w1 ⟨rfl, h1, hc1⟩; have H1 := Lib.hid h1; have HC1 := Lib.hid hc1; clear h1 hc1))
        go_ret
        exact ⟨rfl, H1.out.grown HC1.out.size, HC1.out.mono (fun k _ e => by rw [e]; exact H.out.fr)⟩

end Go.Proofs.Ytomceindibnpnaa.disks
