/-
  veneerref09: Waiting, the walk.
-/
import Derived.Test.YtomceindibnpnaaDiskRefFl
namespace Go.Proofs.Ytomceindibnpnaa.disks
open Go.RowKit Go.Maps Go.My Go.ChangeMaps
set_option maxRecDepth 100000

variable {w w' : World} {r : Nat} {F F' : Nat → Prop} {R R' : RV} {bv lv : Value}

/-- What waits of block i, in its order. -/
def sel (S : List (Int × Blk)) (i : Nat) : List Blk := (S.filter (fun p => p.1 = (i : Int))).map (·.2)
theorem sel_append (S T : List (Int × Blk)) (i : Nat) : sel (S ++ T) i = sel S i ++ sel T i := by simp [sel]
theorem sel_one (p : Int × Blk) (i : Nat) : sel [p] i = if p.1 = (i : Int) then [p.2] else [] := by
  unfold sel
  by_cases h : p.1 = (i : Int) <;> simp [h]
theorem sel_take_succ {S : List (Int × Blk)} {k : Nat} {p : Int × Blk} (h : S[k]? = some p) (i : Nat) : sel (S.take (k + 1)) i = sel (S.take k) i ++ if p.1 = (i : Int) then [p.2] else [] := by
  rw [List.take_add_one, h, sel_append]
  show sel (S.take k) i ++ sel [p] i = _
  rw [sel_one]
theorem sel_le (S : List (Int × Blk)) (i k : Nat) : (sel (S.take k) i).length ≤ k := by
  unfold sel
  rw [List.length_map]
  exact Nat.le_trans (List.length_filter_le _ _) (by rw [List.length_take]; omega)

def refWaitsN (R : RV) (k : Nat) : List (Nat × Nat) := ((List.range k).filter (fun i => !(sel R.S i).isEmpty)).map (fun i => (i, (sel R.S i).length))
def refWaits (R : RV) : List (Nat × Nat) := refWaitsN R R.B.length

theorem refWaitsN_succ (R : RV) (k : Nat) : refWaitsN R (k + 1) = refWaitsN R k ++ if (sel R.S k).length = 0 then [] else [(k, (sel R.S k).length)] := by
  rw [refWaitsN, List.range_succ, List.filter_append, List.map_append]
  congr 1
  cases h : sel R.S k with
  | nil => simp [h]
  | cons a l => simp [h]

theorem refWaitsN_none (R : RV) (h : R.S = []) (k : Nat) : refWaitsN R k = [] := by
  unfold refWaitsN
  rw [List.map_eq_nil_iff, List.filter_eq_nil_iff]
  intro i _
  simp [h, sel]

theorem refWaitsN_len (R : RV) (k : Nat) : (refWaitsN R k).length ≤ k := by
  unfold refWaitsN
  rw [List.length_map]
  exact Nat.le_trans (List.length_filter_le _ _) (by simp)


set_option maxHeartbeats 4000000 in
theorem refwaiting_any (w : World) (h : RefIs w r F R bv lv) (hS : R.S.length < 1000000) (hB : R.B.length ≤ 4096) :
    Calls Try.prog 72 #[.pointer (some ⟨r, 0, none⟩)] w fun e w' => ∃ v, e = .returned v ∧ OwnRecs w' w.heap.size 114 2 v ((refWaits R).map encW) ∧ Chg (fun _ => False) w w' := by
  obtain ⟨oab, cb, rfl⟩ := own_slice h.rows
  obtain ⟨oal, cl, rfl, -⟩ := h.sent.slice
  rw [List.length_map] at h
  obtain ⟨i0, hI0⟩ := info_parts info_wait
  have HI0 := Lib.hid hI0
  have H := Lib.hid h
  clear h hI0
  go_enter Try.func72, Try.ntmps72
  go_wp2_with fail
  go_loopw [3, 4] (fun u j wr => ∃ i : Nat, j = .int .i64 i ∧ i ≤ R.B.length ∧ OwnRecs wr w.heap.size 114 2 u ((refWaitsN R i).map encW) ∧ Chg (fun _ => False) w wr) (fun _ j _ => R.B.length - (intOf j).toNat)
  · exact ⟨0, rfl, Nat.zero_le _, OwnRecs.nil _ _ _ _, Chg.refl _ _⟩
  obtain ⟨i, rfl, hi, ho, hc⟩ := hrel
  have HO := Lib.hid ho
  have HC := Lib.hid hc
  have hR := H.out.kept hc (fun _ _ h => h)
  have HR := Lib.hid hR
  have d0 : wr.cell? ⟨r, 0, none⟩ = some (.slice oab R.B.length cb) := cell_of_block hR.head rfl
  have d1 : wr.cell? ⟨r, 1, none⟩ = some (.slice oal R.S.length cl) := cell_of_block hR.head rfl
  clear ho hc hR
  by_cases hlt : i < R.B.length
  · have hki : (i : Int) < (R.B.length : Int) := by omega
    by_cases hSn : 0 < R.S.length
    · have hSi : (0 : Int) < (R.S.length : Int) := by omega
      go_wp2_with fail
      go_loopw [5, 6] (fun c j wr' => ∃ k : Nat, j = .int .i64 k ∧ k ≤ R.S.length ∧ c = .int .i64 ((sel (R.S.take k) i).length : Nat) ∧ wr = wr') (fun _ j _ => R.S.length - (intOf j).toNat)
      · exact ⟨0, rfl, Nat.zero_le _, rfl, rfl⟩
      obtain ⟨k, rfl, hk, rfl, rfl⟩ := hrel
      by_cases hltk : k < R.S.length
      · have hkk : (k : Int) < (R.S.length : Int) := by omega
        obtain ⟨g2, rfl, -, -, hcs, -⟩ := HR.out.sent.cell' (k := k) (by simpa using hltk)
        obtain ⟨p, hp⟩ : ∃ p, R.S[k]? = some p := ⟨R.S[k], List.getElem?_eq_getElem hltk⟩
        have hrec : (R.S.map sentC)[k]'(by simpa using hltk) = sentC p := by
          rw [List.getElem_map]
          rw [List.getElem?_eq_getElem hltk] at hp
          cases hp; rfl
        rw [hrec] at hcs
        have e0 : wr.cell? ⟨g2, k * 2, none⟩ = some (.int .i64 p.1) := hcs 0 _ rfl
        have hst := sel_take_succ hp i
        have hle := sel_le R.S i k
        obtain ⟨c0, hc0⟩ : ∃ c0, (sel (R.S.take k) i).length = c0 := ⟨_, rfl⟩
        rw [hc0] at hle ⊢
        have hst' : (sel (R.S.take (k + 1)) i).length = if p.1 = (i : Int) then c0 + 1 else c0 := by
          rw [hst, List.length_append, hc0]; split <;> rfl
        have HSt := Lib.hid hst'
        clear hcs hrec hp hst hst' hc0
        by_cases hc : p.1 = (i : Int)
        · have hcb1 : (p.1 == (i : Int)) = true := by simp [hc]
          go_wp2_with fail
          exact ⟨⟨k + 1, by go_num, hltk, by rw [HSt.out, if_pos hc]; go_num, trivial⟩, meas_step hltk⟩
        · have hcb1 : (p.1 == (i : Int)) = false := by simp [hc]
          go_wp2_with fail
          exact ⟨⟨k + 1, by go_num, hltk, by rw [HSt.out, if_neg hc], trivial⟩, meas_step hltk⟩
      · have hkk : ¬ (k : Int) < (R.S.length : Int) := by omega
        obtain rfl : k = R.S.length := by omega
        rw [List.take_length]
        by_cases h0 : (sel R.S i).length = 0
        · have h0' : ¬ (0 : Int) < ((sel R.S i).length : Int) := by omega
          go_wp2_with fail
          refine ⟨⟨i + 1, by go_num, hlt, ?_, HC.out⟩, meas_step hlt⟩
          rw [refWaitsN_succ, if_pos h0, List.append_nil]
          exact HO.out
        · have h0' : (0 : Int) < ((sel R.S i).length : Int) := by omega
          have hca := (Chg.refl (fun _ => False) wr).alloc (.cells #[.int .i64 (i : Int), .int .i64 ((sel R.S i).length : Int)] 114)
          have HCa := Lib.hid hca
          have HRow := Lib.hid (HO.out.kept hca (fun _ _ h => h)).row
          have hlw := refWaitsN_len R i
          have HEw := Lib.hid HO.out.each
          clear hca
          go_wp2_with (first
            | (at_builtin; refine wpList_append_own_at _ rfl _ _ 73 rfl w.heap.size 114 i0 (.agg #[.int .i64 0, .int .i64 0]) 2 16 Try.underlying73 HI0.out.1 HI0.out.2.1 HI0.out.2.2.1 HI0.out.2.2.2 rfl (by decide) _ _ _ rfl HRow.out ⟨wr.heap.size, 0, none⟩ 1 1 [.int .i64 (i : Int), .int .i64 ((sel R.S i).length : Int)] rfl rfl (cells_new wr [.int .i64 (i : Int), .int .i64 ((sel R.S i).length : Int)] _) (by intro x hx; simp only [List.mem_cons, List.not_mem_nil, or_false] at hx; rcases hx with rfl | rfl <;> rfl) (by rw [List.length_map]; unfold maxLen; omega) (by rw [List.length_map]; omega) (by have := HC.out.size; have := HCa.out.size; omega) ?_; intro v6 w6 ho6 hg6 hx1 hx2; have HO6 := Lib.hid ho6; have HG6 := Lib.hid hg6; clear ho6 hg6 hx1 hx2))
          refine ⟨⟨i + 1, by go_num, hlt, ?_, (HC.out.trans' HCa.out).new (Chg.of_grown HG6.out) (fun j e => (HO.out.lt e.symm).1)⟩, meas_step hlt⟩
          rw [refWaitsN_succ, if_neg h0, List.map_append]
          refine OwnRecs.append ?_ HEw.out ?_
          · have h1 := HO6.out
            have e : ([(i, (sel R.S i).length)].map encW).flatten = [.int .i64 (i : Int), .int .i64 ((sel R.S i).length : Int)] := by
              simp [encW, Nat.mod_eq_of_lt (show i < 4096 by omega)]
            rw [e]
            simpa using h1
          · intro x hx
            simp only [List.map_cons, List.map_nil, List.mem_singleton] at hx
            rw [hx]; rfl
    · have hSi : ¬ (0 : Int) < (R.S.length : Int) := by omega
      have hS0 : R.S = [] := List.eq_nil_of_length_eq_zero (by omega)
      have HS0 := Lib.hid hS0
      clear hS0
      go_wp2_with fail
      go_ret
      refine ⟨_, rfl, ?_, HC.out⟩
      rw [refWaits, refWaitsN_none R HS0.out]
      have h1 := HO.out
      rw [refWaitsN_none R HS0.out] at h1
      exact h1
  · have hki : ¬ (i : Int) < (R.B.length : Int) := by omega
    obtain rfl : i = R.B.length := by omega
    go_wp2_with fail
    go_ret
    exact ⟨_, rfl, HO.out, HC.out⟩

end Go.Proofs.Ytomceindibnpnaa.disks
