/-
  the document's numbers by sevens: Var, ReadVar of veneerref01.
-/
import Derived.Test.YtbkefhoapnaciaaGreatPkBb
import Derived.Test.YtbkefhoapnaciaaGreatPkBc
import Derived.Test.YtbkefhoapnaciaaGreatPkBe
import Derived.Test.YtbkefhoapnaciaaGreatPkBf

section
set_option linter.unusedSimpArgs false
set_option linter.unusedVariables false
namespace Go.Proofs.YtbkefhoapnaciaaGreat.kvs
open Go.RowKit Go.My disks bufs wals
set_option maxRecDepth 100000

variable {w w' : World}

set_option maxHeartbeats 1000000 in
theorem refVar_any (w : World) (n : Nat) (hn : n < 16384) :
    Calls Tryz.prog 39 #[.int .u64 (n : Int)] w fun e w' => ∃ v, e = .returned v ∧ w'.ownsRow w.heap.size 5 1 v (varB n).length (cellsB (varB n)) ∧ Chg (fun _ => False) w w' := by
  go_enter Tryz.func39, Tryz.ntmps39
  go_wp2_with fail
  go_loopw [0, 3] (fun v out wr => (v = .int .u64 (n : Int) ∧ out = .slice none 0 0 ∧ wr = w) ∨ (128 ≤ n ∧ v = .int .u64 ((n / 128 : Nat) : Int) ∧ wr.ownsRow w.heap.size 5 1 out 1 (cellsB [UInt8.ofNat (n % 128 + 128)]) ∧ Chg (fun _ => False) w wr)) (fun v _ _ => (intOf v).toNat)
  · exact Or.inl ⟨rfl, rfl, rfl⟩
  have h0 : (0 : Int) ≤ (n : Int) := by omega
  have h1 : (n : Int) < 16384 := by omega
  rcases hrel with ⟨rfl, rfl, rfl⟩ | ⟨hge, rfl, ho, hc⟩
  · by_cases hlt : n < 128
    · have hlti : ¬ (127 : Int) < (n : Int) := by omega
      have hca : Chg (fun _ => False) wr (wr.alloc (.cells #[.int .u8 (n : Int)] 5)) := (Chg.refl _ _).alloc _
      have hs2 : SlAt (wr.alloc (.cells #[.int .u8 (n : Int)] 5)) (.slice (some ⟨wr.heap.size, 0, none⟩) 1 1) (cellsB [UInt8.ofNat n]) := by
        have := SlAt.of_own (own_of_block (w := wr.alloc (.cells #[.int .u8 (n : Int)] 5)) (base := 0) (n := 1) at1 (Nat.zero_le _) rfl (by unfold maxLen; omega))
        simp only [cellsB, List.map_cons, List.map_nil, toNat_ofNat_lt (show n < 256 by omega)]
        exact this
      obtain ⟨v3, w3, hr3, ho3, hg3⟩ := append_step (base := wr.heap.size) (n := 0) (v := .slice none 0 0) (xs := []) ⟨rfl, Or.inl ⟨rfl, rfl⟩⟩ hs2 hca.size (by simp) 76
      rw [List.nil_append] at ho3
      have hc3 : Chg (fun _ => False) wr w3 := hca.new hg3 (fun _ h => h)
      have HR3 := Lib.hid hr3
      have HO3 := Lib.hid ho3
      have HC3 := Lib.hid hc3
      clear hca hs2 hr3 ho3 hg3 hc3
      go_wp2_with (first
        | (at_builtin; refine Lib.wpList_append_run _ rfl _ _ _ _ rfl _ _ rfl rfl _ _ HR3.out ?_))
      go_ret
      refine ⟨_, rfl, ?_, HC3.out⟩
      rw [varB_one hlt]
      exact HO3.out
    · have hlti : (127 : Int) < (n : Int) := by omega
      obtain ⟨X, hX⟩ : ∃ X : Int, (n : Int) % 128 + 128 = X := ⟨_, rfl⟩
      have HX := Lib.hid (show ((n % 128 + 128 : Nat) : Int) = X by omega)
      have hca : Chg (fun _ => False) wr (wr.alloc (.cells #[.int .u8 X] 5)) := (Chg.refl _ _).alloc _
      have hs2 : SlAt (wr.alloc (.cells #[.int .u8 X] 5)) (.slice (some ⟨wr.heap.size, 0, none⟩) 1 1) (cellsB [UInt8.ofNat (n % 128 + 128)]) := by
        have := SlAt.of_own (own_of_block (w := wr.alloc (.cells #[.int .u8 X] 5)) (base := 0) (n := 1) at1 (Nat.zero_le _) rfl (by unfold maxLen; omega))
        simp only [cellsB, List.map_cons, List.map_nil, toNat_ofNat_lt (show n % 128 + 128 < 256 by omega)]
        rw [HX.out]
        exact this
      obtain ⟨v3, w3, hr3, ho3, hg3⟩ := append_step (base := wr.heap.size) (n := 0) (v := .slice none 0 0) (xs := []) ⟨rfl, Or.inl ⟨rfl, rfl⟩⟩ hs2 hca.size (by simp) 76
      rw [List.nil_append] at ho3
      have hc3 : Chg (fun _ => False) wr w3 := hca.new hg3 (fun _ h => h)
      have HR3 := Lib.hid hr3
      have HO3 := Lib.hid ho3
      have HC3 := Lib.hid hc3
      clear hca hs2 hr3 ho3 hg3 hc3
      go_wp2_with (first
        | (at_builtin; refine Lib.wpList_append_run _ rfl _ _ _ _ rfl _ _ rfl rfl _ _ HR3.out ?_))
      exact ⟨Or.inr ⟨by omega, congrArg (Value.int .u64) (by omega), HO3.out, HC3.out⟩, by simp [intOf]; omega⟩
  · have h2 : (0 : Int) ≤ ((n / 128 : Nat) : Int) := by omega
    have h3 : ¬ (127 : Int) < ((n / 128 : Nat) : Int) := by omega
    obtain ⟨m, hm⟩ : ∃ m, n / 128 = m := ⟨_, rfl⟩
    rw [hm] at h2 h3 ⊢
    have h4 : (m : Int) < 256 := by omega
    have hca : Chg (fun _ => False) wr (wr.alloc (.cells #[.int .u8 (m : Int)] 5)) := (Chg.refl _ _).alloc _
    have hs2 : SlAt (wr.alloc (.cells #[.int .u8 (m : Int)] 5)) (.slice (some ⟨wr.heap.size, 0, none⟩) 1 1) (cellsB [UInt8.ofNat m]) := by
      have := SlAt.of_own (own_of_block (w := wr.alloc (.cells #[.int .u8 (m : Int)] 5)) (base := 0) (n := 1) at1 (Nat.zero_le _) rfl (by unfold maxLen; omega))
      simp only [cellsB, List.map_cons, List.map_nil, toNat_ofNat_lt (show m < 256 by omega)]
      exact this
    have hsz := hc.size
    obtain ⟨v3, w3, hr3, ho3, hg3⟩ := append_step (own_kept ho hca) hs2 (Nat.le_trans hsz hca.size) (by simp) 76
    have hc3 : Chg (fun _ => False) w w3 := (hc.trans' hca).new hg3 (fun _ h => h)
    rw [show [UInt8.ofNat (n % 128 + 128)] ++ [UInt8.ofNat m] = varB n from by rw [varB_two hge hn, hm]; rfl] at ho3
    obtain ⟨oa, cap, rfl⟩ := own_slice ho
    have HR3 := Lib.hid hr3
    have HO3 := Lib.hid ho3
    have HC3 := Lib.hid hc3
    clear hca hs2 hr3 ho3 hg3 hc3 ho hc hm
    go_wp2_with (first
      | (at_builtin; refine Lib.wpList_append_run _ rfl _ _ _ _ rfl _ _ rfl rfl _ _ HR3.out ?_))
    go_ret
    exact ⟨_, rfl, HO3.out, HC3.out⟩

theorem pow_small {i : Nat} (hi : i ≤ 9) : 128 ^ i ≤ 9223372036854775808 := by
  have h2 : (128 : Nat) ^ i ≤ 128 ^ 9 := Nat.pow_le_pow_right (by omega) hi
  have h3 : (128 : Nat) ^ 9 = 9223372036854775808 := by decide
  omega

theorem u64sevens (V C k : Nat) (hV : V < 128 ^ k) (hC : C < 256) (hk : k < 9 ∨ (k = 9 ∧ C ≤ 1)) : IntKind.u64.wrap ((V : Int) + IntKind.u64.wrap ((C : Int) % 128 * ((128 ^ k : Nat) : Int))) = ((V + C % 128 * 128 ^ k : Nat) : Int) := by
  have h1 : 128 ^ k ≤ 9223372036854775808 := pow_small (by omega)
  have h0 : C % 128 * 128 ^ k ≤ 9223372036854775808 := by
    rcases hk with hk | ⟨rfl, hc1⟩
    · have h2 : 128 ^ (k + 1) ≤ 9223372036854775808 := pow_small (by omega)
      rw [Nat.pow_succ] at h2
      have h4 : C % 128 * 128 ^ k ≤ 127 * 128 ^ k := Nat.mul_le_mul_right _ (by omega)
      omega
    · have h4 : C % 128 * 128 ^ 9 ≤ 1 * 128 ^ 9 := Nat.mul_le_mul_right _ (by omega)
      omega
  rw [IntKind.wrap_u64, IntKind.wrap_u64]
  have e1 : (C : Int) % 128 * ((128 ^ k : Nat) : Int) = ((C % 128 * 128 ^ k : Nat) : Int) := by rw [Int.natCast_mul]; rfl
  rw [e1]
  generalize C % 128 * 128 ^ k = y at *
  generalize 128 ^ k = x at *
  omega



set_option maxHeartbeats 2000000 in
theorem refReadVar_any (w : World) (v : Value) (b : Txt) (h : SlAt w v (cellsB b)) (hb : b.length ≤ 2000000) :
    Calls Tryz.prog 61 #[v] w fun e w' => e = .returned (.tuple #[.int .u64 ((rdV b).1 : Int), .int .i64 ((rdV b).2.1 : Int), .int .i64 ((rdV b).2.2 : Int)]) ∧ Chg (fun _ => False) w w' := by
  obtain ⟨oa, cap, rfl, h2, h3⟩ := h
  rw [cellsB_length] at *
  have H := Lib.hid (show SlAt w (.slice oa b.length cap) (cellsB b) from ⟨oa, cap, by rw [cellsB_length], h2, h3⟩)
  have hbi : (b.length : Int) ≤ 2000000 := by omega
  obtain ⟨R, hR⟩ : ∃ R, rdV b = R := ⟨_, rfl⟩
  rw [hR]
  have HR := Lib.hid hR
  clear h2 h3 hR
  go_enter Tryz.func61, Tryz.ntmps61
  go_wp2_with fail
  go_loopw [5, 6, 7] (fun u q i wr => ∃ k V : Nat, ∃ Q : Int, i = .int .i64 k ∧ u = .int .u64 (V : Int) ∧ q = .int .u64 Q ∧ k ≤ 10 ∧ (k ≤ 9 → Q = ((128 ^ k : Nat) : Int)) ∧ V < 128 ^ k ∧ rdN (10 - k) k V (b.drop k) = R ∧ Chg (fun _ => False) w wr) (fun _ _ i _ => 10 - (intOf i).toNat)
  · exact ⟨0, 0, 1, rfl, rfl, rfl, by omega, fun _ => rfl, by simp, HR.out, Chg.refl _ _⟩
  obtain ⟨k, V, Q, rfl, rfl, rfl, hk, hQ, hV, hrd, hc⟩ := hrel
  have HC := Lib.hid hc
  clear hc
  by_cases h10 : k < 10
  · have hki : (k : Int) < 10 := by omega
    have hQ := hQ (by omega)
    obtain ⟨j, hj⟩ : ∃ j, 10 - k = j + 1 := ⟨9 - k, by omega⟩
    rw [hj] at hrd
    by_cases hkl : k < b.length
    · have hkli : ¬ (b.length : Int) ≤ (k : Int) := by omega
      obtain ⟨c, hc⟩ : ∃ c, b[k]? = some c := ⟨b[k], List.getElem?_eq_getElem hkl⟩
      obtain ⟨g, off, rfl, -, hcell⟩ := (H.out.kept HC.out).cell (k := k) (by rw [cellsB_length]; exact hkl)
      have hcell' : wr.cell? ⟨g, off + k, none⟩ = some (.int .u8 (c.toNat : Int)) := by
        rw [hcell]
        have : (cellsB b)[k]? = some (.int .u8 (c.toNat : Int)) := by simp [cellsB, hc]
        rwa [List.getElem?_eq_getElem (by rw [cellsB_length]; exact hkl)] at this
      have hd : b.drop k = c :: b.drop (k + 1) := by rw [List.drop_eq_getElem_cons hkl]; congr 1; exact (List.getElem?_eq_some_iff.1 hc).2
      rw [hd, rdN] at hrd
      have hc256 := c.toNat_lt
      obtain ⟨C, hC⟩ : ∃ C, c.toNat = C := ⟨_, rfl⟩
      rw [hC] at hrd hcell' hc256
      clear hcell hc hd hC
      have hcc : (0 : Int) ≤ (C : Int) := by omega
      have hcd : (C : Int) < 256 := by omega
      have hkl0 : b.length ≠ 0 := by omega
      have HQ := Lib.hid hQ
      clear hQ
      by_cases h9 : k = 9
      · subst h9
        by_cases h1 : 1 < C
        · have h1i : (1 : Int) < (C : Int) := by omega
          rw [if_pos ⟨rfl, h1⟩] at hrd
          have HRd := Lib.hid hrd
          clear hrd
          go_wp2_with fail
          all_goals try refine bodyPost_ret (results_tmp3 rfl _ _ _) rfl ?_
          all_goals rw [← HRd.out]
          all_goals exact ⟨rfl, HC.out⟩
        · have h1i : ¬ (1 : Int) < (C : Int) := by omega
          rw [if_neg (fun h => h1 h.2), if_pos (by omega)] at hrd
          rcases (by omega : C = 0 ∨ C = 1) with rfl | rfl
          · rw [if_pos ⟨rfl, by omega⟩] at hrd
            have HRd := Lib.hid hrd
            clear hrd
            go_wp2_with fail
            all_goals try refine bodyPost_ret (results_tmp3 rfl _ _ _) rfl ?_
            all_goals rw [← HRd.out]
            all_goals exact ⟨rfl, HC.out⟩
          · rw [if_neg (by omega)] at hrd
            have HRd := Lib.hid hrd
            have HT := Lib.hid (u64sevens V 1 9 hV (by omega) (by omega))
            clear hrd
            go_wp2_with fail
            refine bodyPost_ret (results_tmp3 rfl _ _ _) rfl ?_
            rw [← HRd.out]
            refine ⟨?_, HC.out⟩
            have hp : (128 : Nat) ^ 9 = 9223372036854775808 := by decide
            have ht : (V : Int) + 9223372036854775808 = ((V + 1 * 128 ^ 9 : Nat) : Int) := by rw [hp]; omega
            exact congrArg (fun x => Ending.returned (.tuple #[.int .u64 x, .int .i64 ((9 + 1 : Nat) : Int), .int .i64 0])) ht
      · have h9i : ((k : Int) == 9) = false := by simp; omega
        rw [if_neg (fun h => h9 h.1)] at hrd
        by_cases hlt : C < 128
        · have hlti : (C : Int) < 128 := by omega
          rw [if_pos hlt] at hrd
          have ht := u64sevens V C k hV (by omega) (by omega)
          rw [Nat.mod_eq_of_lt hlt, ← HQ.out] at ht
          by_cases h0 : C = 0
          · subst h0
            by_cases hk0 : 0 < k
            · rw [if_pos ⟨rfl, hk0⟩] at hrd
              have HRd := Lib.hid hrd
              clear hrd ht
              go_wp2_with fail
              all_goals try refine bodyPost_ret (results_tmp3 rfl _ _ _) rfl ?_
              all_goals rw [← HRd.out]
              all_goals exact ⟨rfl, HC.out⟩
            · obtain rfl : k = 0 := by omega
              rw [Nat.add_zero] at hcell'
              have hkl1 : ¬ (b.length : Int) ≤ 0 := by omega
              have hkl2 : ¬ b = [] := fun e => hkl0 (by rw [e]; rfl)
              rw [if_neg (by omega)] at hrd
              have HRd := Lib.hid hrd
              have HT := Lib.hid ht
              clear hrd ht
              go_wp2_with fail
              refine bodyPost_ret (results_tmp3 rfl _ _ _) rfl ?_
              rw [← HRd.out]
              refine ⟨?_, HC.out⟩
              have ht : (V : Int) = ((V + 0 * 128 ^ 0 : Nat) : Int) := by simp
              exact congrArg (fun x => Ending.returned (.tuple #[.int .u64 x, .int .i64 ((0 + 1 : Nat) : Int), .int .i64 0])) ht
          · have h0i : ((C : Int) == 0) = false := by simp; omega
            rw [if_neg (fun h => h0 h.1)] at hrd
            have HRd := Lib.hid hrd
            have HT := Lib.hid ht
            clear hrd ht
            go_wp2_with fail
            all_goals try refine bodyPost_ret (results_tmp3 rfl _ _ _) rfl ?_
            all_goals rw [← HRd.out]
            all_goals exact ⟨congrArg (fun x => Ending.returned (.tuple #[.int .u64 x, .int .i64 ((k + 1 : Nat) : Int), .int .i64 0])) HT.out, HC.out⟩
        · have hlti : ¬ (C : Int) < 128 := by omega
          rw [if_neg hlt] at hrd
          have HRd := Lib.hid hrd
          have ht := u64sevens V C k hV (by omega) (by omega)
          rw [← HQ.out] at ht
          have HT := Lib.hid ht
          have hw : IntKind.u64.wrap (Q * 128) = ((128 ^ (k + 1) : Nat) : Int) := by
            have h2 : 128 ^ (k + 1) ≤ 9223372036854775808 := pow_small (by omega)
            rw [HQ.out, IntKind.wrap_u64]
            rw [Nat.pow_succ] at *
            generalize 128 ^ k = x at *
            omega
          have HW := Lib.hid hw
          clear hrd ht hw
          go_wp2_with fail
          refine ⟨⟨k + 1, V + C % 128 * 128 ^ k, _, by go_num, congrArg (Value.int .u64) HT.out, rfl, by omega, fun _ => HW.out, ?_, ?_, HC.out⟩, by simp [intOf]; omega⟩
          · rw [Nat.pow_succ]
            have h4 : C % 128 * 128 ^ k ≤ 127 * 128 ^ k := Nat.mul_le_mul_right _ (by omega)
            omega
          · rw [show 10 - (k + 1) = j by omega]
            exact HRd.out
    · have hkli : (b.length : Int) ≤ (k : Int) := by omega
      rw [List.drop_eq_nil_of_le (by omega), rdN] at hrd
      have HRd := Lib.hid hrd
      clear hrd
      go_wp2_with fail
      all_goals try refine bodyPost_ret (results_tmp3 rfl _ _ _) rfl ?_
      all_goals rw [← HRd.out]
      all_goals exact ⟨rfl, HC.out⟩
  · have hki : ¬ (k : Int) < 10 := by omega
    obtain rfl : k = 10 := by omega
    rw [show 10 - 10 = 0 from rfl, rdN] at hrd
    have HRd := Lib.hid hrd
    clear hrd hQ
    go_wp2_with fail
    all_goals try refine bodyPost_ret (results_tmp3 rfl _ _ _) rfl ?_
    all_goals rw [← HRd.out]
    all_goals exact ⟨rfl, HC.out⟩

end Go.Proofs.YtbkefhoapnaciaaGreat.kvs
end

/-
  kv: small: a batch that is cut.
-/
section
set_option linter.unusedSimpArgs false
set_option linter.unusedVariables false
namespace Go.Proofs.YtbkefhoapnaciaaGreat.kvs
open Go.RowKit Go.Maps Go.My Go.ChangeMaps disks bufs wals
set_option maxRecDepth 100000

variable {w w' : World}

def cutT (n : Nat) (t : Txt) : Txt := if n < t.length then t.take n else t
def cutP (p : PV) : PV := ⟨cutT 70 p.key, cutT 1100 p.val, p.gone⟩
def smallP (l : List PV) : List PV := (l.take 70).map cutP
theorem smallP_len (l : List PV) : (smallP l).length ≤ 70 := by simp [smallP]; omega
theorem cutT_len (n : Nat) (t : Txt) : (cutT n t).length ≤ n := by
  unfold cutT
  split
  · rw [List.length_take]; omega
  · omega
theorem smallP_mem {l : List PV} {p : PV} (h : p ∈ smallP l) : p.key.length ≤ 70 ∧ p.val.length ≤ 1100 := by
  obtain ⟨x, -, rfl⟩ := List.mem_map.1 h
  exact ⟨cutT_len _ _, cutT_len _ _⟩
theorem smallP_push {l : List PV} {k : Nat} {p : PV} (h : l[k]? = some p) (hk : k < 70) : smallP (l.take (k + 1)) = smallP (l.take k) ++ [cutP p] := by
  unfold smallP
  rw [List.take_take, List.take_take, Nat.min_eq_right (by omega), Nat.min_eq_right (by omega), List.take_add_one, h, Option.toList_some, List.map_append]
  rfl
theorem cut_str {n : Nat} {t : Txt} {s : ByteArray} (h : strV t = .string s) (hn : n < t.length) : strV (cutT n t) = .string (s.extract 0 n) := by
  have e : Value.string (⟨t.toArray⟩ : ByteArray) = .string s := h
  simp only [Value.string.injEq] at e
  unfold cutT
  rw [if_pos hn, ← e, str_take]
  rfl
theorem cut_same {n : Nat} {t : Txt} {s : ByteArray} (h : strV t = .string s) (hn : ¬ n < t.length) : strV (cutT n t) = .string s := by
  unfold cutT
  rw [if_neg hn]
  exact h


set_option maxHeartbeats 2000000 in
theorem small_any (w : World) (v : Value) (l : List PV) (h : PutsAt w v l) (hz : ∀ p ∈ l, p.sized) :
    Calls Tryz.prog 16 #[v] w fun e w' => ∃ v', e = .returned v' ∧ Puts w' w.heap.size v' (smallP l) ∧ Chg (fun _ => False) w w' := by
  obtain ⟨oa, cap, rfl, h2⟩ := h
  have H := Lib.hid (show PutsAt w (.slice oa l.length cap) l from ⟨oa, cap, rfl, h2⟩)
  have HZ := Lib.hid hz
  clear h2 hz
  go_enter Tryz.func16, Tryz.ntmps16
  go_wp2_with fail
  go_loopw [3, 4] (fun u i wr => ∃ k : Nat, i = .int .i64 k ∧ k ≤ l.length ∧ k ≤ 70 ∧ Puts wr w.heap.size u (smallP (l.take k)) ∧ Chg (fun _ => False) w wr) (fun _ i _ => 70 - (intOf i).toNat)
  · exact ⟨0, rfl, Nat.zero_le _, Nat.zero_le _, OwnRecs.nil _ _ _ _, Chg.refl _ _⟩
  obtain ⟨k, rfl, hk1, hk2, ho, hc⟩ := hrel
  have HO := Lib.hid ho
  have HC := Lib.hid hc
  clear ho hc
  by_cases hlt : k < l.length ∧ k < 70
  · obtain ⟨hlt1, hlt2⟩ := hlt
    have j1 : (k : Int) < (l.length : Int) := by omega
    have j2 : (k : Int) < 70 := by omega
    obtain ⟨g, off, cap', p, e1, hr, d0, d1, d2⟩ := putsAt_cells (H.out.kept HC.out (fun _ _ h => h)) hlt1
    simp only [Value.slice.injEq, true_and] at e1
    obtain ⟨rfl, -⟩ := e1
    have HGk := Lib.hid hr
    have HL2 := Lib.hid hlt2
    obtain ⟨z1, z2⟩ := HZ.out p (List.mem_of_getElem? hr)
    unfold maxLen at z1 z2
    clear hr hlt2
    obtain ⟨sk, hsk⟩ : ∃ s : ByteArray, strV p.key = .string s := ⟨_, rfl⟩
    obtain ⟨sv, hsv⟩ : ∃ s : ByteArray, strV p.val = .string s := ⟨_, rfl⟩
    have esk := str_size p.key sk hsk
    have esv := str_size p.val sv hsv
    rw [hsk] at d0
    rw [hsv] at d1
    by_cases a1 : 70 < p.key.length
    · have i1 : (70 : Int) < (sk.size : Int) := by omega
      by_cases a2 : 1100 < p.val.length
      · have i2 : (1100 : Int) < (sv.size : Int) := by omega
        have hk1 : strV (cutP p).key = .string (sk.extract 0 70) := cut_str hsk a1
        have hv1 : strV (cutP p).val = .string (sv.extract 0 1100) := cut_str hsv a2
        have hca : Chg (fun _ => False) wr (wr.alloc (.cells #[.string (sk.extract 0 70), .string (sv.extract 0 1100), .bool p.gone] 45)) := (Chg.refl _ _).alloc _
        have hcb := hca.alloc (.cells #[.string (sk.extract 0 70), .string (sv.extract 0 1100), .bool p.gone] 45)
        have hzz : w.heap.size ≤ wr.heap.size := HC.out.size
        obtain ⟨v8, w8, hr8, hp8, hg8⟩ := append_putO (p := cutP p) (nb := wr.heap.size + 1) (HO.out.kept hcb (fun _ _ h => h)) (fun j u hu => by
          have hb : ((wr.alloc (.cells #[.string (sk.extract 0 70), .string (sv.extract 0 1100), .bool p.gone] 45)).alloc (.cells #[.string (sk.extract 0 70), .string (sv.extract 0 1100), .bool p.gone] 45)).heap[wr.heap.size + 1]? = some (.cells #[.string (sk.extract 0 70), .string (sv.extract 0 1100), .bool p.gone] 45 (0, 0)) := by
            have := block_alloc_new (wr.alloc (.cells #[.string (sk.extract 0 70), .string (sv.extract 0 1100), .bool p.gone] 45)) (.cells #[.string (sk.extract 0 70), .string (sv.extract 0 1100), .bool p.gone] 45)
            rw [World.size_alloc] at this
            exact this
          refine cell_of_block hb ?_
          have e : (cutP p).row = [.string (sk.extract 0 70), .string (sv.extract 0 1100), .bool p.gone] := by unfold PV.row; rw [hk1, hv1]; rfl
          rw [e] at hu
          simpa using hu) (Nat.le_trans hzz hcb.size) (by have := smallP_len (l.take k); omega) 22
        have HR8 := Lib.hid hr8
        have HP8 := Lib.hid hp8
        have HC8 := Lib.hid (show Chg (fun _ => False) w w8 from (HC.out.trans' hcb).new hg8 (fun i e => (HO.out.lt e.symm).1))
        clear hca hcb hzz hr8 hp8 hg8 hsk hsv hk1 hv1
        go_wp2_with (first
          | (at_builtin; refine Lib.wpList_append_run _ rfl _ _ _ _ rfl _ _ rfl rfl _ _ HR8.out ?_))
        refine ⟨⟨k + 1, by go_num, by omega, by omega, by rw [smallP_push HGk.out HL2.out]; exact HP8.out, HC8.out⟩, by simp [intOf]; omega⟩
      · have i2 : (sv.size : Int) ≤ 1100 := by omega
        have hk1 : strV (cutP p).key = .string (sk.extract 0 70) := cut_str hsk a1
        have hv1 : strV (cutP p).val = .string sv := cut_same hsv a2
        have hca : Chg (fun _ => False) wr (wr.alloc (.cells #[.string (sk.extract 0 70), .string sv, .bool p.gone] 45)) := (Chg.refl _ _).alloc _
        have hcb := hca.alloc (.cells #[.string (sk.extract 0 70), .string sv, .bool p.gone] 45)
        have hzz : w.heap.size ≤ wr.heap.size := HC.out.size
        obtain ⟨v8, w8, hr8, hp8, hg8⟩ := append_putO (p := cutP p) (nb := wr.heap.size + 1) (HO.out.kept hcb (fun _ _ h => h)) (fun j u hu => by
          have hb : ((wr.alloc (.cells #[.string (sk.extract 0 70), .string sv, .bool p.gone] 45)).alloc (.cells #[.string (sk.extract 0 70), .string sv, .bool p.gone] 45)).heap[wr.heap.size + 1]? = some (.cells #[.string (sk.extract 0 70), .string sv, .bool p.gone] 45 (0, 0)) := by
            have := block_alloc_new (wr.alloc (.cells #[.string (sk.extract 0 70), .string sv, .bool p.gone] 45)) (.cells #[.string (sk.extract 0 70), .string sv, .bool p.gone] 45)
            rw [World.size_alloc] at this
            exact this
          refine cell_of_block hb ?_
          have e : (cutP p).row = [.string (sk.extract 0 70), .string sv, .bool p.gone] := by unfold PV.row; rw [hk1, hv1]; rfl
          rw [e] at hu
          simpa using hu) (Nat.le_trans hzz hcb.size) (by have := smallP_len (l.take k); omega) 22
        have HR8 := Lib.hid hr8
        have HP8 := Lib.hid hp8
        have HC8 := Lib.hid (show Chg (fun _ => False) w w8 from (HC.out.trans' hcb).new hg8 (fun i e => (HO.out.lt e.symm).1))
        clear hca hcb hzz hr8 hp8 hg8 hsk hsv hk1 hv1
        go_wp2_with (first
          | (at_builtin; refine Lib.wpList_append_run _ rfl _ _ _ _ rfl _ _ rfl rfl _ _ HR8.out ?_))
        refine ⟨⟨k + 1, by go_num, by omega, by omega, by rw [smallP_push HGk.out HL2.out]; exact HP8.out, HC8.out⟩, by simp [intOf]; omega⟩
    · have i1 : (sk.size : Int) ≤ 70 := by omega
      by_cases a2 : 1100 < p.val.length
      · have i2 : (1100 : Int) < (sv.size : Int) := by omega
        have hk1 : strV (cutP p).key = .string sk := cut_same hsk a1
        have hv1 : strV (cutP p).val = .string (sv.extract 0 1100) := cut_str hsv a2
        have hca : Chg (fun _ => False) wr (wr.alloc (.cells #[.string sk, .string (sv.extract 0 1100), .bool p.gone] 45)) := (Chg.refl _ _).alloc _
        have hcb := hca.alloc (.cells #[.string sk, .string (sv.extract 0 1100), .bool p.gone] 45)
        have hzz : w.heap.size ≤ wr.heap.size := HC.out.size
        obtain ⟨v8, w8, hr8, hp8, hg8⟩ := append_putO (p := cutP p) (nb := wr.heap.size + 1) (HO.out.kept hcb (fun _ _ h => h)) (fun j u hu => by
          have hb : ((wr.alloc (.cells #[.string sk, .string (sv.extract 0 1100), .bool p.gone] 45)).alloc (.cells #[.string sk, .string (sv.extract 0 1100), .bool p.gone] 45)).heap[wr.heap.size + 1]? = some (.cells #[.string sk, .string (sv.extract 0 1100), .bool p.gone] 45 (0, 0)) := by
            have := block_alloc_new (wr.alloc (.cells #[.string sk, .string (sv.extract 0 1100), .bool p.gone] 45)) (.cells #[.string sk, .string (sv.extract 0 1100), .bool p.gone] 45)
            rw [World.size_alloc] at this
            exact this
          refine cell_of_block hb ?_
          have e : (cutP p).row = [.string sk, .string (sv.extract 0 1100), .bool p.gone] := by unfold PV.row; rw [hk1, hv1]; rfl
          rw [e] at hu
          simpa using hu) (Nat.le_trans hzz hcb.size) (by have := smallP_len (l.take k); omega) 22
        have HR8 := Lib.hid hr8
        have HP8 := Lib.hid hp8
        have HC8 := Lib.hid (show Chg (fun _ => False) w w8 from (HC.out.trans' hcb).new hg8 (fun i e => (HO.out.lt e.symm).1))
        clear hca hcb hzz hr8 hp8 hg8 hsk hsv hk1 hv1
        go_wp2_with (first
          | (at_builtin; refine Lib.wpList_append_run _ rfl _ _ _ _ rfl _ _ rfl rfl _ _ HR8.out ?_))
        refine ⟨⟨k + 1, by go_num, by omega, by omega, by rw [smallP_push HGk.out HL2.out]; exact HP8.out, HC8.out⟩, by simp [intOf]; omega⟩
      · have i2 : (sv.size : Int) ≤ 1100 := by omega
        have hk1 : strV (cutP p).key = .string sk := cut_same hsk a1
        have hv1 : strV (cutP p).val = .string sv := cut_same hsv a2
        have hca : Chg (fun _ => False) wr (wr.alloc (.cells #[.string sk, .string sv, .bool p.gone] 45)) := (Chg.refl _ _).alloc _
        have hcb := hca.alloc (.cells #[.string sk, .string sv, .bool p.gone] 45)
        have hzz : w.heap.size ≤ wr.heap.size := HC.out.size
        obtain ⟨v8, w8, hr8, hp8, hg8⟩ := append_putO (p := cutP p) (nb := wr.heap.size + 1) (HO.out.kept hcb (fun _ _ h => h)) (fun j u hu => by
          have hb : ((wr.alloc (.cells #[.string sk, .string sv, .bool p.gone] 45)).alloc (.cells #[.string sk, .string sv, .bool p.gone] 45)).heap[wr.heap.size + 1]? = some (.cells #[.string sk, .string sv, .bool p.gone] 45 (0, 0)) := by
            have := block_alloc_new (wr.alloc (.cells #[.string sk, .string sv, .bool p.gone] 45)) (.cells #[.string sk, .string sv, .bool p.gone] 45)
            rw [World.size_alloc] at this
            exact this
          refine cell_of_block hb ?_
          have e : (cutP p).row = [.string sk, .string sv, .bool p.gone] := by unfold PV.row; rw [hk1, hv1]; rfl
          rw [e] at hu
          simpa using hu) (Nat.le_trans hzz hcb.size) (by have := smallP_len (l.take k); omega) 22
        have HR8 := Lib.hid hr8
        have HP8 := Lib.hid hp8
        have HC8 := Lib.hid (show Chg (fun _ => False) w w8 from (HC.out.trans' hcb).new hg8 (fun i e => (HO.out.lt e.symm).1))
        clear hca hcb hzz hr8 hp8 hg8 hsk hsv hk1 hv1
        go_wp2_with (first
          | (at_builtin; refine Lib.wpList_append_run _ rfl _ _ _ _ rfl _ _ rfl rfl _ _ HR8.out ?_))
        refine ⟨⟨k + 1, by go_num, by omega, by omega, by rw [smallP_push HGk.out HL2.out]; exact HP8.out, HC8.out⟩, by simp [intOf]; omega⟩
  · have hk : smallP (l.take k) = smallP l := by
      unfold smallP
      congr 1
      by_cases h1 : k < l.length
      · obtain rfl : k = 70 := by omega
        rw [List.take_take]; rfl
      · rw [List.take_of_length_le (i := k) (l := l) (by omega), List.take_of_length_le (i := 70) (l := l) (by omega)]
    have HK := Lib.hid hk
    have HOo := Lib.hid (show Puts wr w.heap.size _ (smallP l) by rw [← hk]; exact HO.out)
    by_cases hkl : k < l.length
    · have j1 : (k : Int) < (l.length : Int) := by omega
      obtain rfl : k = 70 := by omega
      clear hlt hk
      go_wp2_with fail
      go_ret
      exact ⟨_, rfl, HOo.out, HC.out⟩
    · have j1 : ¬ (k : Int) < (l.length : Int) := by omega
      clear hlt hk
      go_wp2_with fail
      go_ret
      exact ⟨_, rfl, HOo.out, HC.out⟩

end Go.Proofs.YtbkefhoapnaciaaGreat.kvs
end

/-
  the document's batches: May, text, one, Encode of veneerref11.
-/
section
set_option linter.unusedSimpArgs false
set_option linter.unusedVariables false
namespace Go.Proofs.YtbkefhoapnaciaaGreat.kvs
open Go.RowKit Go.My disks bufs wals
set_option maxRecDepth 100000

variable {w w' : World}


theorem mayR_any (w : World) (p : PV) : Calls Tryz.prog 38 #[.agg p.row.toArray] w fun e w' => e = .returned (.bool p.may) ∧ Chg (fun _ => False) w w' := by
  obtain ⟨key, val, gone⟩ := p
  unfold PV.row PV.may
  simp only
  obtain ⟨sk, hsk⟩ : ∃ s : ByteArray, strV key = .string s := ⟨_, rfl⟩
  obtain ⟨sv, hsv⟩ : ∃ s : ByteArray, strV val = .string s := ⟨_, rfl⟩
  have h1 := str_size key sk hsk
  have h2 := str_size val sv hsv
  have h3 := str_nil val sv hsv
  rw [hsk, hsv]
  have hca : Chg (fun _ => False) w (w.alloc (.cells #[.string sk, .string sv, .bool gone] 45)) := (Chg.refl _ _).alloc _
  have HCa := Lib.hid hca
  clear hca hsk hsv
  by_cases a1 : 0 < key.length
  · have i1 : (1 : Int) ≤ (sk.size : Int) := by omega
    by_cases a2 : key.length ≤ 64
    · have i2 : (sk.size : Int) ≤ 64 := by omega
      by_cases a3 : val.length ≤ 1024
      · have i3 : (sv.size : Int) ≤ 1024 := by omega
        by_cases a4 : val = []
        · have i4 : (sv.toList == ([] : List UInt8)) = true := by rw [h3]; simpa using a4
          have HA := Lib.hid (And.intro a1 (And.intro a2 (And.intro a3 a4)))
          clear h1 h2 h3 a1 a2 a3 a4
          cases gone
          · go_enter Tryz.func38, Tryz.ntmps38
            go_wp2_with fail
            go_ret
            exact ⟨by have := HA.out; simp [this], HCa.out⟩
          · go_enter Tryz.func38, Tryz.ntmps38
            go_wp2_with fail
            go_ret
            exact ⟨by have := HA.out; simp [this], HCa.out⟩
        · have i4 : (sv.toList == ([] : List UInt8)) = false := by rw [h3]; simpa using a4
          have HA := Lib.hid (And.intro a1 (And.intro a2 (And.intro a3 a4)))
          clear h1 h2 h3 a1 a2 a3 a4
          cases gone
          · go_enter Tryz.func38, Tryz.ntmps38
            go_wp2_with fail
            go_ret
            exact ⟨by have := HA.out; simp [this], HCa.out⟩
          · go_enter Tryz.func38, Tryz.ntmps38
            go_wp2_with fail
            go_ret
            exact ⟨by have := HA.out; simp [this], HCa.out⟩
      · have i3 : ¬ (sv.size : Int) ≤ 1024 := by omega
        have HA := Lib.hid (And.intro a1 (And.intro a2 a3))
        clear h1 h2 h3 a1 a2 a3
        cases gone
        · go_enter Tryz.func38, Tryz.ntmps38
          go_wp2_with fail
          go_ret
          exact ⟨by have := HA.out; simp [this], HCa.out⟩
        · go_enter Tryz.func38, Tryz.ntmps38
          go_wp2_with fail
          go_ret
          exact ⟨by have := HA.out; simp [this], HCa.out⟩
    · have i2 : ¬ (sk.size : Int) ≤ 64 := by omega
      have HA := Lib.hid (And.intro a1 a2)
      clear h1 h2 h3 a1 a2
      cases gone
      · go_enter Tryz.func38, Tryz.ntmps38
        go_wp2_with fail
        go_ret
        exact ⟨by have := HA.out; simp [this], HCa.out⟩
      · go_enter Tryz.func38, Tryz.ntmps38
        go_wp2_with fail
        go_ret
        exact ⟨by have := HA.out; simp [this], HCa.out⟩
  · have i1 : ¬ (1 : Int) ≤ (sk.size : Int) := by omega
    have HA := Lib.hid a1
    clear h1 h2 h3 a1
    cases gone
    · go_enter Tryz.func38, Tryz.ntmps38
      go_wp2_with fail
      go_ret
      exact ⟨by have := HA.out; simp [this], HCa.out⟩
    · go_enter Tryz.func38, Tryz.ntmps38
      go_wp2_with fail
      go_ret
      exact ⟨by have := HA.out; simp [this], HCa.out⟩

set_option maxHeartbeats 1000000 in
theorem textR_any (w : World) (t : Txt) (hn : t.length < 16384) : Calls Tryz.prog 60 #[strV t] w fun e w' => e = .returned (strV (textB t)) ∧ Chg (fun _ => False) w w' := by
  obtain ⟨s, hs⟩ : ∃ s : ByteArray, strV t = .string s := ⟨_, rfl⟩
  have hsz := str_size t s hs
  have hst := strV_string t s hs
  rw [hs]
  clear hs
  have hi : (s.size : Int) < 16384 := by omega
  have HV := Lib.hid (fun w => refVar_any w s.size (by omega))
  have hlen : textB t = varB s.size ++ t := by rw [hsz]; rfl
  rw [hlen]
  have HST := Lib.hid hst
  have hfit : ¬ 9223372036854775807 < (varB s.size).length + s.size := by have := (varB_length s.size).1; omega
  clear hsz hst hlen
  go_enter Tryz.func60, Tryz.ntmps60
  go_wp2_with (first
    | (go_at_call 39; refine (HV.out _).mono ?_; rintro e w1 ⟨v, rfl, ho, hc⟩
       have hcv := conv_own ho
       obtain ⟨oa, cap, rfl⟩ := own_slice ho
       have HC := Lib.hid hc
       clear ho hc))
  go_ret
  refine ⟨?_, HC.out⟩
  rw [HST.out, str_append]
  rfl

set_option maxHeartbeats 1000000 in
theorem oneR_any (w : World) (p : PV) (hk : p.key.length < 16384) (hv : p.val.length < 16384) : Calls Tryz.prog 40 #[.agg p.row.toArray] w fun e w' => e = .returned (strV p.bytes) ∧ Chg (fun _ => False) w w' := by
  obtain ⟨key, val, gone⟩ := p
  unfold PV.row PV.bytes
  simp only at hk hv ⊢
  have HK := Lib.hid (fun w => textR_any w key hk)
  have HV := Lib.hid (fun w => textR_any w val hv)
  have hlk := textB_length key
  have hlv := textB_length val
  obtain ⟨sk, hsk⟩ : ∃ s : ByteArray, strV key = .string s := ⟨_, rfl⟩
  obtain ⟨sv, hsv⟩ : ∃ s : ByteArray, strV val = .string s := ⟨_, rfl⟩
  obtain ⟨tk, htk⟩ : ∃ s : ByteArray, strV (textB key) = .string s := ⟨_, rfl⟩
  obtain ⟨tv, htv⟩ : ∃ s : ByteArray, strV (textB val) = .string s := ⟨_, rfl⟩
  rw [hsk, htk] at HK
  rw [hsv, htv] at HV
  have h1 := str_size _ tk htk
  have h2 := str_size _ tv htv
  have e1 := strV_string _ tk htk
  have e2 := strV_string _ tv htv
  rw [hsk, hsv]
  clear hsk hsv htk htv
  have hca : Chg (fun _ => False) w (w.alloc (.cells #[.string sk, .string sv, .bool gone] 45)) := (Chg.refl _ _).alloc _
  have hB : (w.alloc (.cells #[.string sk, .string sv, .bool gone] 45)).heap[w.heap.size]? = some (.cells #[.string sk, .string sv, .bool gone] 45 (0, 0)) := block_alloc_new _ _
  have E1 := Lib.hid e1
  have E2 := Lib.hid e2
  have HCa := Lib.hid hca
  have hfit : ¬ 9223372036854775807 < 1 + tk.size := by omega
  have hfit2 : ¬ 9223372036854775807 < 1 + tk.size + tv.size := by omega
  have HB := Lib.hid hB
  clear e1 e2 hca hB h1 h2 hk hv hlk hlv
  cases gone
  · have q0 : ∀ n : FreshW (w.alloc (.cells #[.string sk, .string sv, .bool false] 45)), n.val.cell? ⟨w.heap.size, 0, none⟩ = some (.string sk) := fun n => n.chg.cell (cell_of_block HB.out (i := 0) rfl) id
    have q1 : ∀ n : FreshW (w.alloc (.cells #[.string sk, .string sv, .bool false] 45)), n.val.cell? ⟨w.heap.size, 1, none⟩ = some (.string sv) := fun n => n.chg.cell (cell_of_block HB.out (i := 1) rfl) id
    have hk : ∀ m : FreshW (w.alloc (.cells #[.string sk, .string sv, .bool false] 45)), Calls Tryz.prog 60 #[.string sk] m.val fun e w'' => e = .returned (.string tk) ∧ ∃ m' : FreshW (w.alloc (.cells #[.string sk, .string sv, .bool false] 45)), w'' = m'.val := fun m => fresh_call (HK.out _)
    have hv : ∀ m : FreshW (w.alloc (.cells #[.string sk, .string sv, .bool false] 45)), Calls Tryz.prog 60 #[.string sv] m.val fun e w'' => e = .returned (.string tv) ∧ ∃ m' : FreshW (w.alloc (.cells #[.string sk, .string sv, .bool false] 45)), w'' = m'.val := fun m => fresh_call (HV.out _)
    have hl1 : (⟨#[0]⟩ : ByteArray).size + tk.size ≤ 9223372036854775807 := by have : (⟨#[0]⟩ : ByteArray).size = 1 := rfl; omega
    have hl2 : ((⟨#[0]⟩ : ByteArray) ++ tk).size + tv.size ≤ 9223372036854775807 := by have : (⟨#[0]⟩ : ByteArray).size = 1 := rfl; rw [ByteArray.size_append]; omega
    have HKq := Lib.hid hk
    have HVq := Lib.hid hv
    clear hk hv
    go_enter Tryz.func40, Tryz.ntmps40
    go_wp2_with fail
    refine wp_region_fresh (by kernel_rfl) (by kernel_rfl) ?_
    iterate 3 (go_big_quiet_step ((go_at_call 60; exact HKq.out _)))
    go_big_quiet_want
    refine quiet_concat _ _ _ _ rfl _ _ rfl rfl hl1 ?_
    simp only [Act.put, List.setIfInBounds_toArray, List.set_cons_succ, List.set_cons_zero]
    go_big_quiet_on
    iterate 3 (go_big_quiet_step ((go_at_call 60; exact HVq.out _)))
    go_big_quiet_want
    refine quiet_concat _ _ _ _ rfl _ _ rfl rfl hl2 ?_
    simp only [Act.put, List.setIfInBounds_toArray, List.set_cons_succ, List.set_cons_zero]
    go_big_quiet_on
    go_big_quiet_step (fail)
    refine wpQuiet_nil ?_
    rintro _ ⟨n1, rfl⟩
    go_wp2_with fail
    go_ret
    refine ⟨?_, HCa.out.trans' n1.chg⟩
    rw [E1.out, E2.out, show (⟨#[0]⟩ : ByteArray) = ⟨([0] : Txt).toArray⟩ from rfl, str_append, str_append]
    rfl
  · go_enter Tryz.func40, Tryz.ntmps40
    go_wp2_with (first
      | (go_at_call 60; refine (HK.out _).mono ?_; rintro e w1 ⟨rfl, hc⟩
         have HC := Lib.hid hc
         clear hc))
    go_ret
    refine ⟨?_, HCa.out.trans' HC.out⟩
    rw [E1.out, show (⟨#[1]⟩ : ByteArray) = ⟨([1] : Txt).toArray⟩ from rfl, str_append]
    rfl



set_option maxHeartbeats 2000000 in
theorem encodeR_any (w : World) {v : Value} {l : List PV} (h : PutsAt w v l) (hl : l.length ≤ 1000000) :
    Calls Tryz.prog 11 #[v] w fun e w' => e = .returned (.tuple #[strV (encF l).1, .int .i64 ((encF l).2 : Int)]) ∧ Chg (fun _ => False) w w' := by
  obtain ⟨oa, cap, rfl, h2⟩ := h
  have H := Lib.hid (show PutsAt w (.slice oa l.length cap) l from ⟨oa, cap, rfl, h2⟩)
  have hli : (l.length : Int) ≤ 1000000 := by omega
  obtain ⟨R, hR⟩ : ∃ R, encF l = R := ⟨_, rfl⟩
  rw [hR]
  have HR := Lib.hid hR
  clear h2 hR
  go_enter Tryz.func11, Tryz.ntmps11
  go_wp2_with fail
  go_loopw [4] (fun j wr => ∃ k : Nat, j = .int .i64 k ∧ k ≤ l.length ∧ (∀ p ∈ l.take k, p.may = true) ∧ Chg (fun _ => False) w wr) (fun j _ => l.length - (intOf j).toNat)
  · exact ⟨0, rfl, Nat.zero_le _, by simp, Chg.refl _ _⟩
  obtain ⟨k, rfl, hk, hno, hc⟩ := hrel
  have HC := Lib.hid hc
  have HNo := Lib.hid hno
  clear hc hno
  by_cases hlt : k < l.length
  · have hki : (k : Int) < (l.length : Int) := by omega
    obtain ⟨g, off, cap', p, e1, hr, d0, d1, d2⟩ := putsAt_cells (H.out.kept HC.out (fun _ _ h => h)) hlt
    simp only [Value.slice.injEq, true_and] at e1
    obtain ⟨rfl, -⟩ := e1
    have HM := Lib.hid (fun w => mayR_any w p)
    have Hr := Lib.hid hr
    clear hr
    obtain ⟨sk, hsk⟩ : ∃ s : ByteArray, strV p.key = .string s := ⟨_, rfl⟩
    obtain ⟨sv, hsv⟩ : ∃ s : ByteArray, strV p.val = .string s := ⟨_, rfl⟩
    rw [hsk] at d0
    rw [hsv] at d1
    unfold PV.row at HM
    rw [hsk, hsv] at HM
    clear hsk hsv
    cases hm : p.may
    · rw [hm] at HM
      have Hm := Lib.hid hm
      clear hm
      go_wp2_with (first
        | (go_at_call 38; refine (HM.out _).mono ?_; rintro e w1 ⟨rfl, hc1⟩; have HC1 := Lib.hid hc1; clear hc1))
      go_ret2
      rw [← HR.out]
      unfold encF
      rw [if_pos (Or.inr ⟨p, List.mem_of_getElem? Hr.out, Hm.out⟩)]
      exact ⟨rfl, HC.out.trans' HC1.out⟩
    · rw [hm] at HM
      have Hm := Lib.hid hm
      clear hm
      go_wp2_with (first
        | (go_at_call 38; refine (HM.out _).mono ?_; rintro e w1 ⟨rfl, hc1⟩; have HC1 := Lib.hid hc1; clear hc1))
      refine ⟨⟨k + 1, by go_num, hlt, ?_, HC.out.trans' HC1.out⟩, puts_meas hlt⟩
      intro q hq
      rw [List.take_add_one, Hr.out, Option.toList_some] at hq
      rcases List.mem_append.1 hq with hq | hq
      · exact HNo.out q hq
      · rw [List.mem_singleton] at hq; rw [hq]; exact Hm.out
  · have hki : ¬ (k : Int) < (l.length : Int) := by omega
    obtain rfl : k = l.length := by omega
    have hall := HNo.out
    rw [List.take_length] at hall
    have HAll := Lib.hid hall
    clear hall HNo hlt hk
    have hne2 : ¬ ∃ p ∈ l, p.may = false := fun ⟨p, hp, hm⟩ => by rw [HAll.out p hp] at hm; cases hm
    have HNe2 := Lib.hid hne2
    clear hne2
    by_cases h0 : l.length = 0
    · have h0i : (l.length : Int) = 0 := by omega
      go_wp2_with fail
      go_ret2
      rw [← HR.out]
      unfold encF
      rw [if_pos (Or.inl (List.eq_nil_of_length_eq_zero h0))]
      exact ⟨rfl, HC.out⟩
    · have h0b : ((l.length : Int) == 0) = false := by simp; exact fun e => h0 (by rw [e]; rfl)
      have h0n : ¬ l = [] := fun e => h0 (by rw [e]; rfl)
      by_cases h64 : 64 < l.length
      · have h64i : (64 : Int) < (l.length : Int) := by omega
        go_wp2_with fail
        go_ret2
        rw [← HR.out]
        unfold encF
        rw [if_neg (fun h => h.elim h0n HNe2.out), if_pos h64]
        exact ⟨rfl, HC.out⟩
      · have h64i : ¬ (64 : Int) < (l.length : Int) := by omega
        have h0l : (0 : Int) ≤ (l.length : Int) := by omega
        have HN := Lib.hid (And.intro h0n h64)
        have HVar := Lib.hid (refVar_any wr l.length (by omega))
        go_wp2_with (first
          | (go_at_call 39; fail))
        refine HVar.out.mono ?_
        rintro e w1 ⟨v1, rfl, ho1, hc1⟩
        have hcv := conv_own ho1
        obtain ⟨oa1, cap1, rfl⟩ := own_slice ho1
        have HC1 := Lib.hid (HC.out.trans' hc1)
        clear ho1 hc1 HVar HC
        dsimp only
        go_wp2_with fail
        clear hcv
        go_loopw [5, 6] (fun u j wr => ∃ k : Nat, j = .int .i64 k ∧ k ≤ l.length ∧ u = strV (varB l.length ++ allB (l.take k)) ∧ Chg (fun _ => False) w wr) (fun _ j _ => l.length - (intOf j).toNat)
        · exact ⟨0, rfl, Nat.zero_le _, by rw [List.take_zero]; simp [allB, strV], HC1.out⟩
        obtain ⟨k, rfl, hk, rfl, hc⟩ := hrel
        have HCk := Lib.hid hc
        clear hc
        have hlen : (varB l.length ++ allB (l.take k)).length ≤ 10 + 1111 * 64 := by
          have h1 := (varB_length l.length).1
          have h2 := allB_len (l.take k) (fun p hp => HAll.out p (List.mem_of_mem_take hp))
          have h3 : (l.take k).length ≤ 64 := by rw [List.length_take]; omega
          rw [List.length_append]
          omega
        obtain ⟨sb, hsb⟩ : ∃ s : ByteArray, strV (varB l.length ++ allB (l.take k)) = .string s := ⟨_, rfl⟩
        rw [hsb]
        have esb := strV_string _ sb hsb
        have ssb := str_size _ sb hsb
        by_cases hlt : k < l.length
        · have hki : (k : Int) < (l.length : Int) := by omega
          obtain ⟨g, off, cap', p, e1, hr, d0, d1, d2⟩ := putsAt_cells (H.out.kept HCk.out (fun _ _ h => h)) hlt
          simp only [Value.slice.injEq, true_and] at e1
          obtain ⟨rfl, -⟩ := e1
          have hpm := HAll.out p (List.mem_of_getElem? hr)
          have hpb := bytes_length p hpm
          obtain ⟨m1, m2, m3, m4⟩ := may_key hpm
          have HOne := Lib.hid (fun w => oneR_any w p (by omega) (by omega))
          have Hr := Lib.hid hr
          clear hr m1 m2 m3 m4
          obtain ⟨sk, hsk⟩ : ∃ s : ByteArray, strV p.key = .string s := ⟨_, rfl⟩
          obtain ⟨sv, hsv⟩ : ∃ s : ByteArray, strV p.val = .string s := ⟨_, rfl⟩
          obtain ⟨sp, hsp⟩ : ∃ s : ByteArray, strV p.bytes = .string s := ⟨_, rfl⟩
          have esp := strV_string _ sp hsp
          have ssp := str_size _ sp hsp
          rw [hsk] at d0
          rw [hsv] at d1
          unfold PV.row at HOne
          rw [hsk, hsv, hsp] at HOne
          have hfit : ¬ 9223372036854775807 < sb.size + sp.size := by omega
          have HE := Lib.hid (And.intro esb esp)
          clear hsk hsv hsp esb esp ssb ssp hpb hpm hlen hsb
          go_wp2_with (first
            | (go_at_call 40; refine (HOne.out _).mono ?_; rintro e w2 ⟨rfl, hc2⟩; have HC2 := Lib.hid hc2; clear hc2))
          refine ⟨⟨k + 1, by go_num, hlt, ?_, HCk.out.trans' HC2.out⟩, puts_meas hlt⟩
          rw [HE.out.1, HE.out.2, str_append, allB_take Hr.out, List.append_assoc]
          rfl
        · have hki : ¬ (k : Int) < (l.length : Int) := by omega
          obtain rfl : k = l.length := by omega
          rw [List.take_length] at hsb ssb hlen
          have HE := Lib.hid hsb
          have HFit : encF l = if 4096 < (varB l.length ++ allB l).length then ([], 3) else (varB l.length ++ allB l, 0) := by
            unfold encF
            rw [if_neg (fun h => h.elim HN.out.1 HNe2.out), if_neg HN.out.2]
          have HF := Lib.hid HFit
          clear HFit hsb esb
          by_cases h4 : 4096 < (varB l.length ++ allB l).length
          · have h4i : (4096 : Int) < (sb.size : Int) := by omega
            have H4 := Lib.hid h4
            clear h4 ssb hlen
            go_wp2_with fail
            go_ret2
            rw [← HR.out, HF.out, if_pos H4.out]
            exact ⟨rfl, HCk.out⟩
          · have h4i : ¬ (4096 : Int) < (sb.size : Int) := by omega
            have H4 := Lib.hid h4
            clear h4 ssb hlen
            go_wp2_with fail
            go_ret2
            rw [← HR.out, HF.out, if_neg H4.out]
            refine ⟨?_, HCk.out⟩
            simp only
            rw [HE.out]
            rfl

end Go.Proofs.YtbkefhoapnaciaaGreat.kvs
end

/-
  kv: Same: two batches, compared.
-/
section
set_option linter.unusedSimpArgs false
set_option linter.unusedVariables false
namespace Go.Proofs.YtbkefhoapnaciaaGreat.kvs
open Go.RowKit Go.Maps Go.My Go.ChangeMaps disks bufs wals
set_option maxRecDepth 100000

variable {w w' : World}

theorem puts_putsAt {B : Nat} {v : Value} {l : List PV} (h : Puts w B v l) : PutsAt w v l := by
  obtain ⟨oa, cap, rfl, -⟩ := h.slice
  rw [List.length_map] at *
  refine ⟨oa, cap, rfl, ⟨fun hne => ?_, fun i r hi => h.each r (List.mem_of_getElem? hi), fun b off ho i r j u hi hj => ?_⟩⟩
  · have hk : 0 < (l.map PV.row).length := List.length_pos_iff.2 hne
    obtain ⟨g, cap', e, -⟩ := h.cell hk
    simp only [Value.slice.injEq] at e
    exact ⟨g, 0, e.1⟩
  · have hk : i < (l.map PV.row).length := (List.getElem?_eq_some_iff.1 hi).1
    obtain ⟨g, cap', e, -, -, -, hc, -⟩ := h.cell hk
    simp only [Value.slice.injEq] at e
    rw [ho] at e
    obtain ⟨e1, -⟩ := e
    cases e1
    rw [(List.getElem?_eq_some_iff.1 hi).2] at hc
    rw [Nat.zero_add]
    exact hc j u hj

set_option maxHeartbeats 2000000 in
theorem same_yes (w : World) {x y : Value} {l : List PV} (h1 : PutsAt w x l) (h2 : PutsAt w y l) (hl : l.length ≤ 1000000000000) :
    Calls Tryz.prog 14 #[x, y] w fun e w' => e = .returned (.bool true) ∧ Chg (fun _ => False) w w' := by
  obtain ⟨oa, cap, rfl, r1⟩ := h1
  obtain ⟨ob, cap2, rfl, r2⟩ := h2
  have H1 := Lib.hid (show PutsAt w (.slice oa l.length cap) l from ⟨oa, cap, rfl, r1⟩)
  have H2 := Lib.hid (show PutsAt w (.slice ob l.length cap2) l from ⟨ob, cap2, rfl, r2⟩)
  clear r1 r2
  go_enter Tryz.func14, Tryz.ntmps14
  go_wp2_with fail
  go_loopw [5] (fun j wr => ∃ k : Nat, j = .int .i64 k ∧ k ≤ l.length ∧ Chg (fun _ => False) w wr) (fun j _ => l.length - (intOf j).toNat)
  · exact ⟨0, rfl, Nat.zero_le _, Chg.refl _ _⟩
  obtain ⟨k, rfl, hk, hc⟩ := hrel
  have HC := Lib.hid hc
  clear hc
  by_cases hlt : k < l.length
  · have hki : (k : Int) < (l.length : Int) := by omega
    obtain ⟨g, off, cap', p, e1, hr, d0, d1, d2⟩ := putsAt_cells (H1.out.kept HC.out (fun _ _ h => h)) hlt
    simp only [Value.slice.injEq, true_and] at e1
    obtain ⟨rfl, -⟩ := e1
    obtain ⟨g', off', cap'', p', e2, hr', f0, f1, f2⟩ := putsAt_cells (H2.out.kept HC.out (fun _ _ h => h)) hlt
    simp only [Value.slice.injEq, true_and] at e2
    obtain ⟨rfl, -⟩ := e2
    rw [hr] at hr'
    cases hr'
    clear hr
    obtain ⟨sk, hsk⟩ : ∃ s : ByteArray, strV p.key = .string s := ⟨_, rfl⟩
    obtain ⟨sv, hsv⟩ : ∃ s : ByteArray, strV p.val = .string s := ⟨_, rfl⟩
    rw [hsk] at d0 f0
    rw [hsv] at d1 f1
    clear hsk hsv
    have q0 : ∀ n : FreshW wr, n.val.cell? ⟨g, off + k * 3, none⟩ = some (.string sk) := fun n => n.chg.cell d0 id
    have q1 : ∀ n : FreshW wr, n.val.cell? ⟨g, off + k * 3 + 1, none⟩ = some (.string sv) := fun n => n.chg.cell d1 id
    have q2 : ∀ n : FreshW wr, n.val.cell? ⟨g, off + k * 3 + 2, none⟩ = some (.bool p.gone) := fun n => n.chg.cell d2 id
    have r0 : ∀ n : FreshW wr, n.val.cell? ⟨g', off' + k * 3, none⟩ = some (.string sk) := fun n => n.chg.cell f0 id
    have r1 : ∀ n : FreshW wr, n.val.cell? ⟨g', off' + k * 3 + 1, none⟩ = some (.string sv) := fun n => n.chg.cell f1 id
    have r2 : ∀ n : FreshW wr, n.val.cell? ⟨g', off' + k * 3 + 2, none⟩ = some (.bool p.gone) := fun n => n.chg.cell f2 id
    clear d0 d1 d2 f0 f1 f2
    go_wp2_with fail
    refine wp_region_fresh (by kernel_rfl) (by kernel_rfl) ?_
    repeat (go_big_quiet_step (fail))
    refine wpQuiet_nil ?_
    rintro _ ⟨n10, rfl⟩
    go_wp2_with fail
    exact ⟨⟨k + 1, by go_num, hlt, HC.out.trans' n10.chg⟩, by simp [intOf]; omega⟩
  · have hki : ¬ (k : Int) < (l.length : Int) := by omega
    go_wp2_with fail
    go_ret
    exact ⟨rfl, HC.out⟩

end Go.Proofs.YtbkefhoapnaciaaGreat.kvs
end

/-
  the document's reading of batches: the plain law; cut, Decode of veneerref11.
-/
section
set_option linter.unusedSimpArgs false
set_option linter.unusedVariables false
namespace Go.Proofs.YtbkefhoapnaciaaGreat.kvs
open Go.RowKit Go.My disks bufs wals
set_option maxRecDepth 100000

variable {w w' : World}

/-! ### the plain law -/
def cutF (s : Txt) : Option (Txt × Txt) := if (rdV s).2.2 ≠ 0 ∨ s.length - (rdV s).2.1 < (rdV s).1 then none else some ((s.drop (rdV s).2.1).take (rdV s).1, (s.drop (rdV s).2.1).drop (rdV s).1)
def putF (c : UInt8) (t : Txt) : Option (PV × Txt) :=
  match cutF t with
  | none => none
  | some (k, m) => if c = 1 then some (⟨k, [], true⟩, m) else match cutF m with
    | none => none
    | some (v, r) => some (⟨k, v, false⟩, r)
def restF : Nat → Txt → Option (List PV)
  | _, [] => some []
  | 0, _ :: _ => none
  | f + 1, c :: t => match putF c t with
    | none => none
    | some (p, r) => (restF f r).map (p :: ·)
def decRF : Txt → Option (List PV)
  | [] => none
  | c :: t => match restF t.length t with
    | none => none
    | some l => if encF l = (c :: t, 0) then some l else none

theorem cutF_len {s k m : Txt} (h : cutF s = some (k, m)) : m.length ≤ s.length := by
  unfold cutF at h
  split at h
  · cases h
  · simp only [Option.some.injEq, Prod.mk.injEq] at h
    rw [← h.2, List.length_drop, List.length_drop]
    omega
theorem putF_len {c : UInt8} {t r : Txt} {p : PV} (h : putF c t = some (p, r)) : r.length ≤ t.length := by
  unfold putF at h
  cases h1 : cutF t with
  | none => rw [h1] at h; cases h
  | some x =>
    obtain ⟨k, m⟩ := x
    have l1 := cutF_len h1
    rw [h1] at h
    simp only at h
    split at h
    · simp only [Option.some.injEq, Prod.mk.injEq] at h
      rw [← h.2]; exact l1
    · cases h2 : cutF m with
      | none => rw [h2] at h; cases h
      | some y =>
        obtain ⟨v, r'⟩ := y
        have l2 := cutF_len h2
        rw [h2] at h
        simp only [Option.some.injEq, Prod.mk.injEq] at h
        rw [← h.2]; omega
theorem restF_fuel : ∀ (f g : Nat) (rest : Txt), rest.length ≤ f → rest.length ≤ g → restF f rest = restF g rest
  | f, g, [], _, _ => by cases f <;> cases g <;> rfl
  | 0, _, _ :: _, h, _ => by simp at h
  | _ + 1, 0, _ :: _, _, h => by simp at h
  | f + 1, g + 1, c :: t, h1, h2 => by
    rw [restF, restF]
    cases hp : putF c t with
    | none => rfl
    | some x =>
      obtain ⟨p, r⟩ := x
      have := putF_len hp
      simp only [List.length_cons] at h1 h2
      simp only
      rw [restF_fuel f g r (by omega) (by omega)]
theorem cutF_text {k : Txt} (h : k.length < 16384) (r : Txt) : cutF (textB k ++ r) = some (k, r) := by
  unfold cutF textB
  rw [List.append_assoc, rdV_varB h]
  simp only
  rw [if_neg (by simp)]
  simp
theorem putF_bytes {p : PV} (h : p.may = true) (r : Txt) : ∃ c t, p.bytes ++ r = c :: t ∧ putF c t = some (p, r) := by
  obtain ⟨k1, k2, k3, k4⟩ := may_key h
  obtain ⟨key, val, gone⟩ := p
  simp only at k2 k3 k4
  unfold PV.bytes
  cases gone with
  | true =>
    have hv : val = [] := k4 rfl
    subst hv
    refine ⟨1, textB key ++ r, by simp, ?_⟩
    unfold putF
    rw [cutF_text (k := key) (by omega)]
    simp
  | false =>
    refine ⟨0, textB key ++ (textB val ++ r), by simp, ?_⟩
    unfold putF
    rw [cutF_text (k := key) (by omega)]
    simp only
    rw [if_neg (by decide), cutF_text (k := val) (by omega)]
theorem restF_all : ∀ (l : List PV) (f : Nat), (∀ p ∈ l, p.may = true) → (allB l).length ≤ f → restF f (allB l) = some l
  | [], f, _, _ => by cases f <;> rfl
  | p :: l, f, h, hf => by
    have e : allB (p :: l) = p.bytes ++ allB l := by simp [allB]
    obtain ⟨c, t, hc, hpf⟩ := putF_bytes (h p (by simp)) (allB l)
    have hpl := putF_len hpf
    rw [e, hc] at hf ⊢
    cases f with
    | zero => simp at hf
    | succ f =>
      rw [restF, hpf]
      simp only [List.length_cons] at hf
      simp only
      rw [restF_all l f (fun q hq => h q (by simp [hq])) (by omega)]
      rfl
theorem decRF_eq (s : Txt) : decRF s = decF s := by
  cases hd : decF s with
  | some l =>
    have he := enc_dec hd
    obtain ⟨h1, h2, h3, h4, h5⟩ := encF_ok he
    rw [varB_one (by omega)] at h4
    subst h4
    unfold decRF
    simp only [List.cons_append, List.nil_append]
    rw [restF_all l _ h2 (Nat.le_refl _)]
    simp only
    rw [if_pos (by simpa using he)]
  | none =>
    cases hr : decRF s with
    | none => rfl
    | some l =>
      cases s with
      | nil => cases hr
      | cons c t =>
        unfold decRF at hr
        simp only at hr
        cases hrf : restF t.length t with
        | none => rw [hrf] at hr; cases hr
        | some l' =>
          rw [hrf] at hr
          simp only at hr
          by_cases he : encF l' = (c :: t, 0)
          · rw [dec_enc he] at hd
            cases hd
          · rw [if_neg he] at hr
            cases hr

/-! ### cut -/
set_option maxHeartbeats 1000000 in
theorem cutR_any (w : World) (t : Txt) (ht : t.length ≤ 2000000) :
    Calls Tryz.prog 44 #[strV t] w fun e w' => e = .returned (match cutF t with | none => .tuple #[strV [], strV [], .bool false] | some (k, m) => .tuple #[strV k, strV m, .bool true]) ∧ Chg (fun _ => False) w w' := by
  obtain ⟨s, hs⟩ : ∃ s : ByteArray, strV t = .string s := ⟨_, rfl⟩
  have hsz := str_size t s hs
  have hst := strV_string t s hs
  rw [hs]
  obtain ⟨v1, w1, hcv, hsl, hc1, -⟩ := string_bytes w s
  have hd : s.data.toList = t := by rw [hst]
  rw [hd] at hsl
  have hrv := refReadVar_any w1 v1 t hsl ht
  have hN := (rdN_length 10 0 0 t).1
  have hN10 := (rdN_length 10 0 0 t).2.1
  have hV := rdV_lt t
  unfold cutF
  rcases hRe : rdV t with ⟨V, N, E⟩
  rw [hRe] at hrv hV
  rw [show rdN 10 0 0 t = rdV t from rfl, hRe] at hN hN10
  simp only at hrv hN hN10 hV ⊢
  have HRV := Lib.hid hrv
  have HC1 := Lib.hid hc1
  have HSt := Lib.hid hst
  have i1 : (s.size : Int) ≤ 2000000 := by omega
  have i2 : (0 : Int) ≤ (N : Int) := by omega
  have i3 : (N : Int) ≤ (s.size : Int) := by omega
  clear hrv hc1 hst hd hsl hs hRe
  by_cases hE : E = 0
  · subst hE
    by_cases hv : t.length - N < V
    · rw [if_pos (Or.inr hv)]
      have hvi : (s.size : Int) - (N : Int) < (V : Int) := by omega
      clear hv
      go_enter Tryz.func44, Tryz.ntmps44
      go_wp2_with (first
        | (go_at_call 61; refine HRV.out.mono ?_; rintro e w2 ⟨rfl, hc2⟩; have HC2 := Lib.hid hc2; clear hc2))
      refine bodyPost_ret (results_tmp3 rfl _ _ _) rfl ?_
      exact ⟨rfl, HC1.out.trans' HC2.out⟩
    · rw [if_neg (by omega)]
      have hvi : ¬ (s.size : Int) - (N : Int) < (V : Int) := by omega
      have i4 : (V : Int) ≤ 2000000 := by omega
      have i5 : (0 : Int) ≤ (V : Int) := by omega
      have i6 : (N : Int) + (V : Int) ≤ (s.size : Int) := by omega
      have HV := Lib.hid (show N + V ≤ s.size by omega)
      have HSz := Lib.hid hsz
      clear hv
      go_enter Tryz.func44, Tryz.ntmps44
      go_wp2_with (first
        | (go_at_call 61; refine HRV.out.mono ?_; rintro e w2 ⟨rfl, hc2⟩; have HC2 := Lib.hid hc2; clear hc2))
      refine wp_region_fresh (by kernel_rfl) (by kernel_rfl) ?_
      repeat (go_big_quiet_step (fail))
      refine wpQuiet_nil ?_
      rintro _ ⟨n10, rfl⟩
      go_wp2_with fail
      refine bodyPost_ret (results_tmp3 rfl _ _ _) rfl ?_
      refine ⟨?_, (HC1.out.trans' HC2.out).trans' n10.chg⟩
      have hdt : s.data.toList = t := by rw [HSt.out]
      have e1 : Value.string (s.extract N (N + V)) = strV ((t.drop N).take V) := by
        rw [Lib.extract_eq, hdt, Nat.add_sub_cancel_left]
        rfl
      have e2 : Value.string (s.extract (N + V) t.length) = strV ((t.drop N).drop V) := by
        rw [Lib.extract_eq, hdt, List.drop_drop, List.take_of_length_le (by rw [List.length_drop]; omega)]
        rfl
      show Ending.returned (.tuple #[.string (s.extract N (N + V)), .string (s.extract (N + V) t.length), .bool true]) = _
      rw [e1, e2]
  · rw [if_pos (Or.inl hE)]
    have hEi : ¬ (E : Int) = 0 := by omega
    go_enter Tryz.func44, Tryz.ntmps44
    go_wp2_with (first
      | (go_at_call 61; refine HRV.out.mono ?_; rintro e w2 ⟨rfl, hc2⟩; have HC2 := Lib.hid hc2; clear hc2))
    refine bodyPost_ret (results_tmp3 rfl _ _ _) rfl ?_
    exact ⟨rfl, HC1.out.trans' HC2.out⟩

theorem rdN_pos : ∀ (k i v : Nat) (b : Txt), (rdN k i v b).2.2 = 0 → i < (rdN k i v b).2.1
  | 0, _, _, _, h => by simp [rdN] at h
  | _ + 1, _, _, [], h => by simp [rdN] at h
  | k + 1, i, v, c :: b, h => by
    rw [rdN] at h ⊢
    split at h
    · simp at h
    · rename_i h1
      rw [if_neg h1]
      split at h
      · rename_i h2
        rw [if_pos h2]
        split at h
        · simp at h
        · rename_i h3
          rw [if_neg h3]
          simp
      · rename_i h2
        rw [if_neg h2]
        have := rdN_pos k (i + 1) (v + c.toNat % 128 * 128 ^ i) b h
        omega
theorem cutF_less {s k m : Txt} (h : cutF s = some (k, m)) : m.length < s.length := by
  have hN := (rdN_length 10 0 0 s).1
  have hp := rdN_pos 10 0 0 s
  unfold cutF at h
  unfold rdV at h
  split at h
  · cases h
  · rename_i h1
    have hz : (rdN 10 0 0 s).2.2 = 0 := Nat.eq_zero_of_not_pos (fun hp => h1 (Or.inl (by omega)))
    have := hp hz
    simp only [Option.some.injEq, Prod.mk.injEq] at h
    rw [← h.2, List.length_drop, List.length_drop]
    omega

end Go.Proofs.YtbkefhoapnaciaaGreat.kvs
end
