/-
  veneerref09: at, the walk.
-/
import Derived.Test.YtomceindibnpnaaDiskRefNew
namespace Go.Proofs.Ytomceindibnpnaa.disks
open Go.RowKit Go.Maps Go.My Go.ChangeMaps
set_option maxRecDepth 100000

variable {w w' : World} {r : Nat} {F F' : Nat → Prop} {R R' : RV} {bv lv : Value}

/-- A block with the first n of its waiting writes, behind the first k sent ones; and how many were seen. -/
def RV.atN (R : RV) (i : Nat) (n : Int) : Nat → Blk × Nat
  | 0 => (R.B[i]?.getD [], 0)
  | k + 1 => match R.S[k]? with
    | some p => if p.1 = (i : Int) ∧ (n < 0 ∨ ((R.atN i n k).2 : Int) < n) then (p.2, (R.atN i n k).2 + 1) else R.atN i n k
    | none => R.atN i n k

def RV.at (R : RV) (i : Nat) (n : Int) : Blk := (R.atN i n R.S.length).1

theorem atN_seen (R : RV) (i : Nat) (n : Int) (k : Nat) : (R.atN i n k).2 ≤ k := by
  induction k with
  | zero => exact Nat.le_refl 0
  | succ k ih =>
    rw [RV.atN]
    split
    · split
      · simp only; omega
      · omega
    · omega

set_option maxHeartbeats 4000000 in
theorem at_any (w : World) (h : RefIs w r F R bv lv) (i : Nat) (hi : i < R.B.length) (n : Int) (hS : R.S.length < 1000000) :
    Calls Try.prog 78 #[.pointer (some ⟨r, 0, none⟩), .int .i64 (i : Int), .int .i64 n] w fun e w' => e = .returned (strV (R.at i n)) ∧ w = w' := by
  obtain ⟨oab, cb, rfl⟩ := own_slice h.rows
  obtain ⟨oal, cl, rfl, -⟩ := h.sent.slice
  rw [List.length_map] at h
  have c0 : w.cell? ⟨r, 0, none⟩ = some (.slice oab R.B.length cb) := cell_of_block h.head rfl
  have c1 : w.cell? ⟨r, 1, none⟩ = some (.slice oal R.S.length cl) := cell_of_block h.head rfl
  obtain ⟨g, rfl, hb⟩ : ∃ g, oab = some ⟨g, 0, none⟩ ∧ w.cell? ⟨g, i, none⟩ = some (strV R.B[i]) := by
    rcases h.rows.2 with ⟨e1, h0⟩ | ⟨g, cap', cur, e1, -, hg, -⟩
    · omega
    · have e2 := e1
      simp only [Value.slice.injEq] at e1
      obtain ⟨rfl, -, rfl⟩ := e1
      obtain ⟨hx', c1, -, -, -⟩ := own_cell h.rows hi
      exact ⟨g, rfl, by rw [c1, List.getElem_map]⟩
  have hii : (i : Int) < (R.B.length : Int) := by omega
  obtain ⟨sx, hsx⟩ : ∃ sx : ByteArray, (⟨R.B[i].toArray⟩ : ByteArray) = sx := ⟨_, rfl⟩
  rw [strV, hsx] at hb
  have H := Lib.hid h
  have HSx := Lib.hid hsx
  clear h hsx
  go_enter Try.func78, Try.ntmps78
  go_wp2_with fail
  go_loopw [7, 8, 9] (fun b s j wr => ∃ k : Nat, j = .int .i64 k ∧ k ≤ R.S.length ∧ b = strV (R.atN i n k).1 ∧ s = .int .i64 ((R.atN i n k).2 : Nat) ∧ w = wr) (fun _ _ j _ => R.S.length - (intOf j).toNat)
  · exact ⟨0, rfl, Nat.zero_le _, by rw [RV.atN]; simp only [List.getElem?_eq_getElem hi, Option.getD_some]; rw [strV, HSx.out], rfl, rfl⟩
  obtain ⟨k, rfl, hk, rfl, rfl, rfl⟩ := hrel
  by_cases hlt : k < R.S.length
  · have hki : (k : Int) < (R.S.length : Int) := by omega
    obtain ⟨g2, rfl, -, -, hcs, -⟩ := H.out.sent.cell' (k := k) (by simpa using hlt)
    obtain ⟨p, hp⟩ : ∃ p, R.S[k]? = some p := ⟨R.S[k], List.getElem?_eq_getElem hlt⟩
    have hrec : (R.S.map sentC)[k]'(by simpa using hlt) = sentC p := by
      rw [List.getElem_map]
      rw [List.getElem?_eq_getElem hlt] at hp
      cases hp; rfl
    rw [hrec] at hcs
    have d0 : w.cell? ⟨g2, k * 2, none⟩ = some (.int .i64 p.1) := hcs 0 _ rfl
    have d1 : w.cell? ⟨g2, k * 2 + 1, none⟩ = some (strV p.2) := hcs 1 _ rfl
    have hat : R.atN i n (k + 1) = if p.1 = (i : Int) ∧ (n < 0 ∨ ((R.atN i n k).2 : Int) < n) then (p.2, (R.atN i n k).2 + 1) else R.atN i n k := by rw [RV.atN, hp]
    have hsn := atN_seen R i n k
    obtain ⟨cb0, hcb⟩ : ∃ cb0, (R.atN i n k).1 = cb0 := ⟨_, rfl⟩
    obtain ⟨cs0, hcs0⟩ : ∃ cs0, (R.atN i n k).2 = cs0 := ⟨_, rfl⟩
    rw [hcs0] at hsn hat ⊢
    rw [hcb]
    have hst : R.atN i n k = (cb0, cs0) := Prod.ext hcb hcs0
    rw [hst] at hat
    have HAt := Lib.hid hat
    clear hcs hrec hp hat hcb hcs0 hst
    by_cases hc : p.1 = (i : Int)
    · have hcb1 : (p.1 == (i : Int)) = true := by simp [hc]
      by_cases hn : n < 0
      · go_wp2_with fail
        exact ⟨⟨k + 1, by go_num, hlt, by rw [HAt.out, if_pos ⟨hc, Or.inl hn⟩], by rw [HAt.out, if_pos ⟨hc, Or.inl hn⟩]; go_num, trivial⟩, meas_step hlt⟩
      · by_cases hs : (cs0 : Int) < n
        · go_wp2_with fail
          exact ⟨⟨k + 1, by go_num, hlt, by rw [HAt.out, if_pos ⟨hc, Or.inr hs⟩], by rw [HAt.out, if_pos ⟨hc, Or.inr hs⟩]; go_num, trivial⟩, meas_step hlt⟩
        · go_wp2_with fail
          exact ⟨⟨k + 1, by go_num, hlt, by rw [HAt.out, if_neg (fun h => h.2.elim hn hs)], by rw [HAt.out, if_neg (fun h => h.2.elim hn hs)], trivial⟩, meas_step hlt⟩
    · have hcb1 : (p.1 == (i : Int)) = false := by simp [hc]
      go_wp2_with fail
      exact ⟨⟨k + 1, by go_num, hlt, by rw [HAt.out, if_neg (fun h => hc h.1)], by rw [HAt.out, if_neg (fun h => hc h.1)], trivial⟩, meas_step hlt⟩
  · have hki : ¬ (k : Int) < (R.S.length : Int) := by omega
    obtain rfl : k = R.S.length := by omega
    go_wp2_with fail
    go_ret
    exact ⟨rfl, rfl⟩

end Go.Proofs.Ytomceindibnpnaa.disks
