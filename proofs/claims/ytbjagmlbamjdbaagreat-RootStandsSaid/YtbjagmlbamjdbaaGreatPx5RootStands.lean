/-
  kv: num.Var, num.ReadVar.
-/
import Derived.Test.YtbjagmlbamjdbaaGreatPx0RootStands
import Derived.Test.YtbjagmlbamjdbaaGreatPx2RootStands
import Derived.Test.YtbjagmlbamjdbaaGreatPx4RootStands
import Derived.DeepKeys
import Derived.Deep.RegionHeld3
import Derived.Deep.MidRow

section
set_option linter.unusedSimpArgs false
set_option linter.unusedVariables false
namespace Go.Proofs.YtbjagmlbamjdbaaGreat.kvs
open Go.RowKit Go.My disks bufs wals
set_option maxRecDepth 100000

variable {w w' : World}

theorem or128 (n : Nat) : bits .or .u8 ((n : Int) % 256) 128 = ((n % 128 + 128 : Nat) : Int) := by
  have h1 : (n : Int) % 256 = ((n % 256 : Nat) : Int) := by omega
  have h2 := u8_or_nat (n % 256) 128 (by omega) (by omega)
  have h3 : ∀ x : Fin 256, x.val ||| 128 = x.val % 128 + 128 := by decide
  have h4 := h3 ⟨n % 256, by omega⟩
  simp only at h4
  rw [h1]
  refine h2.trans ?_
  rw [h4]
  congr 2
  omega

theorem or_sevens (v c i : Nat) (hv : v < 128 ^ i) (hc : c < 128) (hi : i < 9 ∨ (i = 9 ∧ c ≤ 1)) : bits .or .u64 (v : Int) ((c * 128 ^ i : Nat) : Int) = ((v + c * 128 ^ i : Nat) : Int) := by
  have hb : v < 18446744073709551616 ∧ c * 128 ^ i < 18446744073709551616 := by
    rcases hi with hi | ⟨rfl, hc1⟩
    · have h2 : (128 : Nat) ^ (i + 1) ≤ 128 ^ 9 := Nat.pow_le_pow_right (by omega) (by omega)
      have h3 : (128 : Nat) ^ 9 = 9223372036854775808 := by decide
      rw [Nat.pow_succ] at h2
      have h4 : c * 128 ^ i ≤ 127 * 128 ^ i := Nat.mul_le_mul_right _ (by omega)
      omega
    · have h3 : (128 : Nat) ^ 9 = 9223372036854775808 := by decide
      have h4 : c * 128 ^ 9 ≤ 1 * 128 ^ 9 := Nat.mul_le_mul_right _ hc1
      omega
  rw [u64_or_nat _ _ hb.1 hb.2]
  have hp : (128 : Nat) ^ i = 2 ^ (7 * i) := by rw [Nat.pow_mul]
  have h2 := Nat.shiftLeft_add_eq_or_of_lt (i := 7 * i) (show v < 2 ^ (7 * i) by rw [← hp]; exact hv) c
  rw [Nat.shiftLeft_eq, ← hp] at h2
  rw [Nat.or_comm, ← h2, Nat.add_comm]

set_option maxHeartbeats 1000000 in
theorem var_any (w : World) (n : Nat) (hn : n < 16384) :
    Calls Tryz.prog 121 #[.int .u64 (n : Int)] w fun e w' => ∃ v, e = .returned v ∧ w'.ownsRow w.heap.size 5 1 v (varB n).length (cellsB (varB n)) ∧ Chg (fun _ => False) w w' := by
  go_enter Tryz.func121, Tryz.ntmps121
  go_wp2_with fail
  go_loopw [0, 3] (fun v out wr => (v = .int .u64 (n : Int) ∧ out = .slice none 0 0 ∧ wr = w) ∨ (128 ≤ n ∧ v = .int .u64 ((n / 128 : Nat) : Int) ∧ wr.ownsRow w.heap.size 5 1 out 1 (cellsB [UInt8.ofNat (n % 128 + 128)]) ∧ Chg (fun _ => False) w wr)) (fun v _ _ => (intOf v).toNat)
  · exact Or.inl ⟨rfl, rfl, rfl⟩
  have h0 : (0 : Int) ≤ (n : Int) := by omega
  have h1 : (n : Int) < 16384 := by omega
  rcases hrel with ⟨rfl, rfl, rfl⟩ | ⟨hge, rfl, ho, hc⟩
  · by_cases hlt : n < 128
    · have hlti : ¬ (128 : Int) ≤ (n : Int) := by omega
      have hca : Chg (fun _ => False) wr (wr.alloc (.cells #[.int .u8 (n : Int)] 5)) := (Chg.refl _ _).alloc _
      have hs2 : SlAt (wr.alloc (.cells #[.int .u8 (n : Int)] 5)) (.slice (some ⟨wr.heap.size, 0, none⟩) 1 1) (cellsB [UInt8.ofNat n]) := by
        have := SlAt.of_own (own_of_block (w := wr.alloc (.cells #[.int .u8 (n : Int)] 5)) (base := 0) (n := 1) at1 (Nat.zero_le _) rfl (by unfold maxLen; omega))
        simp only [cellsB, List.map_cons, List.map_nil, toNat_ofNat_lt (show n < 256 by omega)]
        exact this
      obtain ⟨v3, w3, hr3, ho3, hg3⟩ := append_step (base := wr.heap.size) (n := 0) (v := .slice none 0 0) (xs := []) ⟨rfl, Or.inl ⟨rfl, rfl⟩⟩ hs2 hca.size (by simp) 101
      rw [List.nil_append] at ho3
      have hc3 : Chg (fun _ => False) wr w3 := hca.new hg3 (fun _ h => h)
      have HR3 := Lib.hid hr3
      have HO3 := Lib.hid ho3
      have HC3 := Lib.hid hc3
      clear hca hs2 hr3 ho3 hg3 hc3
      go_wp2_with (first
        | (at_builtin; refine Lib.wpList_append_run _ rfl _ _ _ _ rfl _ _ rfl rfl _ _ HR3.out ?_))
      go_ret
      refine ⟨_, rfl, ?_, HC3.out⟩
      rw [varB_one hlt]
      exact HO3.out
    · have hlti : (128 : Int) ≤ (n : Int) := by omega
      obtain ⟨X, hX⟩ : ∃ X : Int, bits .or .u8 ((n : Int) % 256) 128 = X := ⟨_, rfl⟩
      have hXv : X = ((n % 128 + 128 : Nat) : Int) := by
        rw [← hX]
        exact or128 n
      have hca : Chg (fun _ => False) wr (wr.alloc (.cells #[.int .u8 X] 5)) := (Chg.refl _ _).alloc _
      have hs2 : SlAt (wr.alloc (.cells #[.int .u8 X] 5)) (.slice (some ⟨wr.heap.size, 0, none⟩) 1 1) (cellsB [UInt8.ofNat (n % 128 + 128)]) := by
        have := SlAt.of_own (own_of_block (w := wr.alloc (.cells #[.int .u8 X] 5)) (base := 0) (n := 1) at1 (Nat.zero_le _) rfl (by unfold maxLen; omega))
        simp only [cellsB, List.map_cons, List.map_nil, toNat_ofNat_lt (show n % 128 + 128 < 256 by omega)]
        rw [← hXv]
        exact this
      obtain ⟨v3, w3, hr3, ho3, hg3⟩ := append_step (base := wr.heap.size) (n := 0) (v := .slice none 0 0) (xs := []) ⟨rfl, Or.inl ⟨rfl, rfl⟩⟩ hs2 hca.size (by simp) 101
      rw [List.nil_append] at ho3
      have hc3 : Chg (fun _ => False) wr w3 := hca.new hg3 (fun _ h => h)
      have HR3 := Lib.hid hr3
      have HO3 := Lib.hid ho3
      have HC3 := Lib.hid hc3
      clear hca hs2 hr3 ho3 hg3 hc3 hXv
      go_wp2_with (first
        | (at_builtin; refine Lib.wpList_append_run _ rfl _ _ _ _ rfl _ _ rfl rfl _ _ HR3.out ?_))
      exact ⟨Or.inr ⟨by omega, congrArg (Value.int .u64) (by omega), HO3.out, HC3.out⟩, by simp [intOf]; omega⟩
  · have h2 : (0 : Int) ≤ ((n / 128 : Nat) : Int) := by omega
    have h3 : ¬ (128 : Int) ≤ ((n / 128 : Nat) : Int) := by omega
    obtain ⟨m, hm⟩ : ∃ m, n / 128 = m := ⟨_, rfl⟩
    rw [hm] at h2 h3 ⊢
    have h4 : (m : Int) < 256 := by omega
    have hca : Chg (fun _ => False) wr (wr.alloc (.cells #[.int .u8 (m : Int)] 5)) := (Chg.refl _ _).alloc _
    have hs2 : SlAt (wr.alloc (.cells #[.int .u8 (m : Int)] 5)) (.slice (some ⟨wr.heap.size, 0, none⟩) 1 1) (cellsB [UInt8.ofNat m]) := by
      have := SlAt.of_own (own_of_block (w := wr.alloc (.cells #[.int .u8 (m : Int)] 5)) (base := 0) (n := 1) at1 (Nat.zero_le _) rfl (by unfold maxLen; omega))
      simp only [cellsB, List.map_cons, List.map_nil, toNat_ofNat_lt (show m < 256 by omega)]
      exact this
    have hsz := hc.size
    obtain ⟨v3, w3, hr3, ho3, hg3⟩ := append_step (own_kept ho hca) hs2 (Nat.le_trans hsz hca.size) (by simp) 101
    have hc3 : Chg (fun _ => False) w w3 := (hc.trans' hca).new hg3 (fun _ h => h)
    rw [show [UInt8.ofNat (n % 128 + 128)] ++ [UInt8.ofNat m] = varB n from by rw [varB_two hge hn, hm]; rfl] at ho3
    obtain ⟨oa, cap, rfl⟩ := own_slice ho
    have HR3 := Lib.hid hr3
    have HO3 := Lib.hid ho3
    have HC3 := Lib.hid hc3
    clear hca hs2 hr3 ho3 hg3 hc3 ho hc hm
    go_wp2_with (first
      | (at_builtin; refine Lib.wpList_append_run _ rfl _ _ _ _ rfl _ _ rfl rfl _ _ HR3.out ?_))
    go_ret
    exact ⟨_, rfl, HO3.out, HC3.out⟩

theorem and127 (C : Nat) (hC : C < 256) : bits .and .u8 (C : Int) 127 = ((C % 128 : Nat) : Int) := by
  have h1 := u8_and_nat C 127 hC (by omega)
  have h2 : ∀ x : Fin 256, x.val &&& 127 = x.val % 128 := by decide
  have h3 := h2 ⟨C, hC⟩
  simp only at h3
  exact h1.trans (by rw [h3])
theorem sevens (V C i : Nat) (hV : V < 128 ^ i) (hC : C < 256) (hi : i < 9 ∨ (i = 9 ∧ C ≤ 1)) : bits .or .u64 (V : Int) (IntKind.u64.wrap (IntKind.u64.wrap (bits .and .u8 (C : Int) 127) * ((128 ^ i : Nat) : Int))) = ((V + C % 128 * 128 ^ i : Nat) : Int) := by
  have h0 : C % 128 * 128 ^ i < 18446744073709551616 := by
    rcases hi with hi | ⟨rfl, hc1⟩
    · have h2 : (128 : Nat) ^ (i + 1) ≤ 128 ^ 9 := Nat.pow_le_pow_right (by omega) (by omega)
      have h3 : (128 : Nat) ^ 9 = 9223372036854775808 := by decide
      rw [Nat.pow_succ] at h2
      have h4 : C % 128 * 128 ^ i ≤ 127 * 128 ^ i := Nat.mul_le_mul_right _ (by omega)
      omega
    · have h3 : (128 : Nat) ^ 9 = 9223372036854775808 := by decide
      have h4 : C % 128 * 128 ^ 9 ≤ 1 * 128 ^ 9 := Nat.mul_le_mul_right _ (by omega)
      omega
  rw [and127 C hC, IntKind.wrap_u64, IntKind.wrap_u64]
  have e1 : ((C % 128 : Nat) : Int) % 18446744073709551616 = ((C % 128 : Nat) : Int) := by omega
  rw [e1, ← Int.natCast_mul]
  have e2 : ((C % 128 * 128 ^ i : Nat) : Int) % 18446744073709551616 = ((C % 128 * 128 ^ i : Nat) : Int) := by omega
  rw [e2]
  exact or_sevens V (C % 128) i hV (by omega) (hi.imp id (fun h => ⟨h.1, by omega⟩))

set_option maxHeartbeats 1000000 in
theorem readVar_any (w : World) (v : Value) (b : Txt) (h : SlAt w v (cellsB b)) (hb : b.length ≤ 1000000) :
    Calls Tryz.prog 110 #[v] w fun e w' => e = .returned (.tuple #[.int .u64 ((rdV b).1 : Int), .int .i64 ((rdV b).2.1 : Int), .int .i64 ((rdV b).2.2 : Int)]) ∧ Chg (fun _ => False) w w' := by
  obtain ⟨oa, cap, rfl, h2, h3⟩ := h
  rw [cellsB_length] at *
  have H := Lib.hid (show SlAt w (.slice oa b.length cap) (cellsB b) from ⟨oa, cap, by rw [cellsB_length], h2, h3⟩)
  have hbi : (b.length : Int) ≤ 1000000 := by omega
  obtain ⟨R, hR⟩ : ∃ R, rdV b = R := ⟨_, rfl⟩
  rw [hR]
  have HR := Lib.hid hR
  clear h2 h3 hR
  go_enter Tryz.func110, Tryz.ntmps110
  go_wp2_with fail
  go_loopw [5, 8] (fun u i wr => ∃ k V : Nat, i = .int .i64 k ∧ u = .int .u64 (V : Int) ∧ k ≤ 10 ∧ V < 128 ^ k ∧ rdN (10 - k) k V (b.drop k) = R ∧ wr = w) (fun _ i _ => 10 - (intOf i).toNat)
  · exact ⟨0, 0, rfl, rfl, by omega, by simp, HR.out, rfl⟩
  obtain ⟨k, V, rfl, rfl, hk, hV, hrd, rfl⟩ := hrel
  by_cases h10 : k < 10
  · have hki : (k : Int) < 10 := by omega
    obtain ⟨j, hj⟩ : ∃ j, 10 - k = j + 1 := ⟨9 - k, by omega⟩
    rw [hj] at hrd
    by_cases hkl : k < b.length
    · have hkli : ¬ (b.length : Int) ≤ (k : Int) := by omega
      obtain ⟨c, hc⟩ : ∃ c, b[k]? = some c := ⟨b[k], List.getElem?_eq_getElem hkl⟩
      obtain ⟨g, off, rfl, -, hcell⟩ := H.out.cell (k := k) (by rw [cellsB_length]; exact hkl)
      have hcell' : wr.cell? ⟨g, off + k, none⟩ = some (.int .u8 (c.toNat : Int)) := by
        rw [hcell]
        have : (cellsB b)[k]? = some (.int .u8 (c.toNat : Int)) := by simp [cellsB, hc]
        rwa [List.getElem?_eq_getElem (by rw [cellsB_length]; exact hkl)] at this
      have hd : b.drop k = c :: b.drop (k + 1) := by rw [List.drop_eq_getElem_cons hkl]; congr 1; exact (List.getElem?_eq_some_iff.1 hc).2
      rw [hd, rdN] at hrd
      have hc256 := c.toNat_lt
      obtain ⟨C, hC⟩ : ∃ C, c.toNat = C := ⟨_, rfl⟩
      rw [hC] at hrd hcell' hc256
      clear hcell hc hd hC
      have hcc : (0 : Int) ≤ (C : Int) := by omega
      have hcd : (C : Int) < 256 := by omega
      rcases (by omega : k = 0 ∨ k = 1 ∨ k = 2 ∨ k = 3 ∨ k = 4 ∨ k = 5 ∨ k = 6 ∨ k = 7 ∨ k = 8 ∨ k = 9) with rfl | rfl | rfl | rfl | rfl | rfl | rfl | rfl | rfl | rfl
      · rw [if_neg (by omega)] at hrd
        rw [Nat.add_zero] at hcell'
        have hkl0 : ¬ (b.length : Int) ≤ 0 := by omega
        have hkl1 : ¬ b.length = 0 := by omega
        have hkl2 : ¬ b = [] := fun e => hkl1 (by rw [e]; rfl)
        by_cases hlt : C < 128
        · by_cases hC0 : C = 0
          · subst hC0
            rw [if_pos hlt, if_neg (by omega)] at hrd
            have hsv := sevens V 0 0 hV hc256 (by omega)
            rw [show ((128 ^ 0 : Nat) : Int) = 1 from rfl, Int.mul_one, show (((0 : Nat) : Nat) : Int) = 0 from rfl] at hsv
            have HSv := Lib.hid hsv
            have HRd := Lib.hid hrd
            clear hsv hrd
            go_wp2_with fail
            refine bodyPost_ret (results_tmp3 rfl _ _ _) rfl ?_
            rw [← HRd.out]
            exact ⟨congrArg (fun x => Ending.returned (.tuple #[.int .u64 x, .int .i64 ((0 + 1 : Nat) : Int), .int .i64 0])) HSv.out, Chg.refl _ _⟩
          · rw [if_pos hlt, if_neg (by omega)] at hrd
            have hlti : (C : Int) < 128 := by omega
            have hne : ¬ (C : Int) = 0 := by omega
            have hsv := sevens V C 0 hV hc256 (by omega)
            rw [show ((128 ^ 0 : Nat) : Int) = 1 from rfl, Int.mul_one, show C % 128 = C from Nat.mod_eq_of_lt hlt] at hsv
            have HSv := Lib.hid hsv
            have HRd := Lib.hid hrd
            clear hsv hrd hC0
            go_wp2_with fail
            refine bodyPost_ret (results_tmp3 rfl _ _ _) rfl ?_
            rw [← HRd.out]
            exact ⟨congrArg (fun x => Ending.returned (.tuple #[.int .u64 x, .int .i64 ((0 + 1 : Nat) : Int), .int .i64 0])) HSv.out, Chg.refl _ _⟩
        · rw [if_neg hlt] at hrd
          have hlti : ¬ (C : Int) < 128 := by omega
          have hsv := sevens V C 0 hV hc256 (by omega)
          rw [show ((128 ^ 0 : Nat) : Int) = 1 from rfl, Int.mul_one] at hsv
          have HSv := Lib.hid hsv
          have HRd := Lib.hid hrd
          have HV := Lib.hid hV
          have HJ := Lib.hid hj
          clear hsv hrd
          go_wp2_with fail
          refine ⟨⟨0 + 1, V + C % 128 * 128 ^ 0, rfl, congrArg (Value.int .u64) HSv.out, by omega, ?_, ?_, trivial⟩, by simp [intOf]⟩
          · have h2 := HV.out
            simp only [Nat.pow_zero, Nat.pow_one, Nat.mul_one, Nat.zero_add] at *
            omega
          · rw [show 10 - (0 + 1) = j from by have := HJ.out; omega]
            exact HRd.out
      · rw [if_neg (by omega)] at hrd
        by_cases hlt : C < 128
        · rw [if_pos hlt] at hrd
          have hlti : (C : Int) < 128 := by omega
          have hsv := sevens V C 1 hV hc256 (by omega)
          have hP : ((128 ^ 1 : Nat) : Int) = 128 := by decide
          rw [hP, show C % 128 = C from Nat.mod_eq_of_lt hlt] at hsv
          have HSv := Lib.hid hsv
          clear hsv hP
          by_cases hC0 : C = 0 ∧ 0 < (1 : Nat)
          · rw [if_pos hC0] at hrd
            obtain ⟨hC0, hK0⟩ := hC0
            subst hC0
            subst hrd
            go_wp2_with fail
            refine bodyPost_ret (results_tmp3 rfl _ _ _) rfl ?_
            exact ⟨rfl, Chg.refl _ _⟩
          · rw [if_neg hC0] at hrd
            have hC0i : (0 : Int) < 1 → ¬ (C : Int) = 0 := fun h h' => hC0 ⟨by omega, by omega⟩
            try simp only [Int.zero_lt_one, forall_const] at hC0i
            have hne : 1 = 0 ∨ ¬ (C : Int) = 0 := by omega
            have HRd := Lib.hid hrd
            clear hC0 hrd hC0i
            rcases hne with h0 | hne
            · first
                | exact absurd h0 (by decide)
                | (go_wp2_with fail
                   refine bodyPost_ret (results_tmp3 rfl _ _ _) rfl ?_
                   rw [← HRd.out]
                   exact ⟨congrArg (fun x => Ending.returned (.tuple #[.int .u64 x, .int .i64 ((1 + 1 : Nat) : Int), .int .i64 0])) HSv.out, Chg.refl _ _⟩)
            · go_wp2_with fail
              all_goals try refine bodyPost_ret (results_tmp3 rfl _ _ _) rfl ?_
              all_goals rw [← HRd.out]
              all_goals exact ⟨congrArg (fun x => Ending.returned (.tuple #[.int .u64 x, .int .i64 ((1 + 1 : Nat) : Int), .int .i64 0])) HSv.out, Chg.refl _ _⟩
        · rw [if_neg hlt] at hrd
          have hlti : ¬ (C : Int) < 128 := by omega
          have hsv := sevens V C 1 hV hc256 (by omega)
          have hP : ((128 ^ 1 : Nat) : Int) = 128 := by decide
          rw [hP] at hsv
          have HSv := Lib.hid hsv
          have HRd := Lib.hid hrd
          have HV := Lib.hid hV
          have HJ := Lib.hid hj
          clear hsv hP hrd
          go_wp2_with fail
          refine ⟨⟨1 + 1, V + C % 128 * 128 ^ 1, rfl, congrArg (Value.int .u64) HSv.out, by omega, ?_, ?_, trivial⟩, by simp [intOf]⟩
          · have h1 : C % 128 * 128 ^ 1 ≤ 127 * 128 ^ 1 := Nat.mul_le_mul_right _ (by omega)
            have h2 := HV.out
            rw [Nat.pow_succ]
            omega
          · rw [show 10 - (1 + 1) = j from by have := HJ.out; omega]
            exact HRd.out
      · rw [if_neg (by omega)] at hrd
        by_cases hlt : C < 128
        · rw [if_pos hlt] at hrd
          have hlti : (C : Int) < 128 := by omega
          have hsv := sevens V C 2 hV hc256 (by omega)
          have hP : ((128 ^ 2 : Nat) : Int) = 16384 := by decide
          rw [hP, show C % 128 = C from Nat.mod_eq_of_lt hlt] at hsv
          have HSv := Lib.hid hsv
          clear hsv hP
          by_cases hC0 : C = 0 ∧ 0 < (2 : Nat)
          · rw [if_pos hC0] at hrd
            obtain ⟨hC0, hK0⟩ := hC0
            subst hC0
            subst hrd
            go_wp2_with fail
            refine bodyPost_ret (results_tmp3 rfl _ _ _) rfl ?_
            exact ⟨rfl, Chg.refl _ _⟩
          · rw [if_neg hC0] at hrd
            have hC0i : (0 : Int) < 2 → ¬ (C : Int) = 0 := fun h h' => hC0 ⟨by omega, by omega⟩
            try simp only [Int.zero_lt_one, forall_const] at hC0i
            have hne : 2 = 0 ∨ ¬ (C : Int) = 0 := by omega
            have HRd := Lib.hid hrd
            clear hC0 hrd hC0i
            rcases hne with h0 | hne
            · first
                | exact absurd h0 (by decide)
                | (go_wp2_with fail
                   refine bodyPost_ret (results_tmp3 rfl _ _ _) rfl ?_
                   rw [← HRd.out]
                   exact ⟨congrArg (fun x => Ending.returned (.tuple #[.int .u64 x, .int .i64 ((2 + 1 : Nat) : Int), .int .i64 0])) HSv.out, Chg.refl _ _⟩)
            · go_wp2_with fail
              all_goals try refine bodyPost_ret (results_tmp3 rfl _ _ _) rfl ?_
              all_goals rw [← HRd.out]
              all_goals exact ⟨congrArg (fun x => Ending.returned (.tuple #[.int .u64 x, .int .i64 ((2 + 1 : Nat) : Int), .int .i64 0])) HSv.out, Chg.refl _ _⟩
        · rw [if_neg hlt] at hrd
          have hlti : ¬ (C : Int) < 128 := by omega
          have hsv := sevens V C 2 hV hc256 (by omega)
          have hP : ((128 ^ 2 : Nat) : Int) = 16384 := by decide
          rw [hP] at hsv
          have HSv := Lib.hid hsv
          have HRd := Lib.hid hrd
          have HV := Lib.hid hV
          have HJ := Lib.hid hj
          clear hsv hP hrd
          go_wp2_with fail
          refine ⟨⟨2 + 1, V + C % 128 * 128 ^ 2, rfl, congrArg (Value.int .u64) HSv.out, by omega, ?_, ?_, trivial⟩, by simp [intOf]⟩
          · have h1 : C % 128 * 128 ^ 2 ≤ 127 * 128 ^ 2 := Nat.mul_le_mul_right _ (by omega)
            have h2 := HV.out
            rw [Nat.pow_succ]
            omega
          · rw [show 10 - (2 + 1) = j from by have := HJ.out; omega]
            exact HRd.out
      · rw [if_neg (by omega)] at hrd
        by_cases hlt : C < 128
        · rw [if_pos hlt] at hrd
          have hlti : (C : Int) < 128 := by omega
          have hsv := sevens V C 3 hV hc256 (by omega)
          have hP : ((128 ^ 3 : Nat) : Int) = 2097152 := by decide
          rw [hP, show C % 128 = C from Nat.mod_eq_of_lt hlt] at hsv
          have HSv := Lib.hid hsv
          clear hsv hP
          by_cases hC0 : C = 0 ∧ 0 < (3 : Nat)
          · rw [if_pos hC0] at hrd
            obtain ⟨hC0, hK0⟩ := hC0
            subst hC0
            subst hrd
            go_wp2_with fail
            refine bodyPost_ret (results_tmp3 rfl _ _ _) rfl ?_
            exact ⟨rfl, Chg.refl _ _⟩
          · rw [if_neg hC0] at hrd
            have hC0i : (0 : Int) < 3 → ¬ (C : Int) = 0 := fun h h' => hC0 ⟨by omega, by omega⟩
            try simp only [Int.zero_lt_one, forall_const] at hC0i
            have hne : 3 = 0 ∨ ¬ (C : Int) = 0 := by omega
            have HRd := Lib.hid hrd
            clear hC0 hrd hC0i
            rcases hne with h0 | hne
            · first
                | exact absurd h0 (by decide)
                | (go_wp2_with fail
                   refine bodyPost_ret (results_tmp3 rfl _ _ _) rfl ?_
                   rw [← HRd.out]
                   exact ⟨congrArg (fun x => Ending.returned (.tuple #[.int .u64 x, .int .i64 ((3 + 1 : Nat) : Int), .int .i64 0])) HSv.out, Chg.refl _ _⟩)
            · go_wp2_with fail
              all_goals try refine bodyPost_ret (results_tmp3 rfl _ _ _) rfl ?_
              all_goals rw [← HRd.out]
              all_goals exact ⟨congrArg (fun x => Ending.returned (.tuple #[.int .u64 x, .int .i64 ((3 + 1 : Nat) : Int), .int .i64 0])) HSv.out, Chg.refl _ _⟩
        · rw [if_neg hlt] at hrd
          have hlti : ¬ (C : Int) < 128 := by omega
          have hsv := sevens V C 3 hV hc256 (by omega)
          have hP : ((128 ^ 3 : Nat) : Int) = 2097152 := by decide
          rw [hP] at hsv
          have HSv := Lib.hid hsv
          have HRd := Lib.hid hrd
          have HV := Lib.hid hV
          have HJ := Lib.hid hj
          clear hsv hP hrd
          go_wp2_with fail
          refine ⟨⟨3 + 1, V + C % 128 * 128 ^ 3, rfl, congrArg (Value.int .u64) HSv.out, by omega, ?_, ?_, trivial⟩, by simp [intOf]⟩
          · have h1 : C % 128 * 128 ^ 3 ≤ 127 * 128 ^ 3 := Nat.mul_le_mul_right _ (by omega)
            have h2 := HV.out
            rw [Nat.pow_succ]
            omega
          · rw [show 10 - (3 + 1) = j from by have := HJ.out; omega]
            exact HRd.out
      · rw [if_neg (by omega)] at hrd
        by_cases hlt : C < 128
        · rw [if_pos hlt] at hrd
          have hlti : (C : Int) < 128 := by omega
          have hsv := sevens V C 4 hV hc256 (by omega)
          have hP : ((128 ^ 4 : Nat) : Int) = 268435456 := by decide
          rw [hP, show C % 128 = C from Nat.mod_eq_of_lt hlt] at hsv
          have HSv := Lib.hid hsv
          clear hsv hP
          by_cases hC0 : C = 0 ∧ 0 < (4 : Nat)
          · rw [if_pos hC0] at hrd
            obtain ⟨hC0, hK0⟩ := hC0
            subst hC0
            subst hrd
            go_wp2_with fail
            refine bodyPost_ret (results_tmp3 rfl _ _ _) rfl ?_
            exact ⟨rfl, Chg.refl _ _⟩
          · rw [if_neg hC0] at hrd
            have hC0i : (0 : Int) < 4 → ¬ (C : Int) = 0 := fun h h' => hC0 ⟨by omega, by omega⟩
            try simp only [Int.zero_lt_one, forall_const] at hC0i
            have hne : 4 = 0 ∨ ¬ (C : Int) = 0 := by omega
            have HRd := Lib.hid hrd
            clear hC0 hrd hC0i
            rcases hne with h0 | hne
            · first
                | exact absurd h0 (by decide)
                | (go_wp2_with fail
                   refine bodyPost_ret (results_tmp3 rfl _ _ _) rfl ?_
                   rw [← HRd.out]
                   exact ⟨congrArg (fun x => Ending.returned (.tuple #[.int .u64 x, .int .i64 ((4 + 1 : Nat) : Int), .int .i64 0])) HSv.out, Chg.refl _ _⟩)
            · go_wp2_with fail
              all_goals try refine bodyPost_ret (results_tmp3 rfl _ _ _) rfl ?_
              all_goals rw [← HRd.out]
              all_goals exact ⟨congrArg (fun x => Ending.returned (.tuple #[.int .u64 x, .int .i64 ((4 + 1 : Nat) : Int), .int .i64 0])) HSv.out, Chg.refl _ _⟩
        · rw [if_neg hlt] at hrd
          have hlti : ¬ (C : Int) < 128 := by omega
          have hsv := sevens V C 4 hV hc256 (by omega)
          have hP : ((128 ^ 4 : Nat) : Int) = 268435456 := by decide
          rw [hP] at hsv
          have HSv := Lib.hid hsv
          have HRd := Lib.hid hrd
          have HV := Lib.hid hV
          have HJ := Lib.hid hj
          clear hsv hP hrd
          go_wp2_with fail
          refine ⟨⟨4 + 1, V + C % 128 * 128 ^ 4, rfl, congrArg (Value.int .u64) HSv.out, by omega, ?_, ?_, trivial⟩, by simp [intOf]⟩
          · have h1 : C % 128 * 128 ^ 4 ≤ 127 * 128 ^ 4 := Nat.mul_le_mul_right _ (by omega)
            have h2 := HV.out
            rw [Nat.pow_succ]
            omega
          · rw [show 10 - (4 + 1) = j from by have := HJ.out; omega]
            exact HRd.out
      · rw [if_neg (by omega)] at hrd
        by_cases hlt : C < 128
        · rw [if_pos hlt] at hrd
          have hlti : (C : Int) < 128 := by omega
          have hsv := sevens V C 5 hV hc256 (by omega)
          have hP : ((128 ^ 5 : Nat) : Int) = 34359738368 := by decide
          rw [hP, show C % 128 = C from Nat.mod_eq_of_lt hlt] at hsv
          have HSv := Lib.hid hsv
          clear hsv hP
          by_cases hC0 : C = 0 ∧ 0 < (5 : Nat)
          · rw [if_pos hC0] at hrd
            obtain ⟨hC0, hK0⟩ := hC0
            subst hC0
            subst hrd
            go_wp2_with fail
            refine bodyPost_ret (results_tmp3 rfl _ _ _) rfl ?_
            exact ⟨rfl, Chg.refl _ _⟩
          · rw [if_neg hC0] at hrd
            have hC0i : (0 : Int) < 5 → ¬ (C : Int) = 0 := fun h h' => hC0 ⟨by omega, by omega⟩
            try simp only [Int.zero_lt_one, forall_const] at hC0i
            have hne : 5 = 0 ∨ ¬ (C : Int) = 0 := by omega
            have HRd := Lib.hid hrd
            clear hC0 hrd hC0i
            rcases hne with h0 | hne
            · first
                | exact absurd h0 (by decide)
                | (go_wp2_with fail
                   refine bodyPost_ret (results_tmp3 rfl _ _ _) rfl ?_
                   rw [← HRd.out]
                   exact ⟨congrArg (fun x => Ending.returned (.tuple #[.int .u64 x, .int .i64 ((5 + 1 : Nat) : Int), .int .i64 0])) HSv.out, Chg.refl _ _⟩)
            · go_wp2_with fail
              all_goals try refine bodyPost_ret (results_tmp3 rfl _ _ _) rfl ?_
              all_goals rw [← HRd.out]
              all_goals exact ⟨congrArg (fun x => Ending.returned (.tuple #[.int .u64 x, .int .i64 ((5 + 1 : Nat) : Int), .int .i64 0])) HSv.out, Chg.refl _ _⟩
        · rw [if_neg hlt] at hrd
          have hlti : ¬ (C : Int) < 128 := by omega
          have hsv := sevens V C 5 hV hc256 (by omega)
          have hP : ((128 ^ 5 : Nat) : Int) = 34359738368 := by decide
          rw [hP] at hsv
          have HSv := Lib.hid hsv
          have HRd := Lib.hid hrd
          have HV := Lib.hid hV
          have HJ := Lib.hid hj
          clear hsv hP hrd
          go_wp2_with fail
          refine ⟨⟨5 + 1, V + C % 128 * 128 ^ 5, rfl, congrArg (Value.int .u64) HSv.out, by omega, ?_, ?_, trivial⟩, by simp [intOf]⟩
          · have h1 : C % 128 * 128 ^ 5 ≤ 127 * 128 ^ 5 := Nat.mul_le_mul_right _ (by omega)
            have h2 := HV.out
            rw [Nat.pow_succ]
            omega
          · rw [show 10 - (5 + 1) = j from by have := HJ.out; omega]
            exact HRd.out
      · rw [if_neg (by omega)] at hrd
        by_cases hlt : C < 128
        · rw [if_pos hlt] at hrd
          have hlti : (C : Int) < 128 := by omega
          have hsv := sevens V C 6 hV hc256 (by omega)
          have hP : ((128 ^ 6 : Nat) : Int) = 4398046511104 := by decide
          rw [hP, show C % 128 = C from Nat.mod_eq_of_lt hlt] at hsv
          have HSv := Lib.hid hsv
          clear hsv hP
          by_cases hC0 : C = 0 ∧ 0 < (6 : Nat)
          · rw [if_pos hC0] at hrd
            obtain ⟨hC0, hK0⟩ := hC0
            subst hC0
            subst hrd
            go_wp2_with fail
            refine bodyPost_ret (results_tmp3 rfl _ _ _) rfl ?_
            exact ⟨rfl, Chg.refl _ _⟩
          · rw [if_neg hC0] at hrd
            have hC0i : (0 : Int) < 6 → ¬ (C : Int) = 0 := fun h h' => hC0 ⟨by omega, by omega⟩
            try simp only [Int.zero_lt_one, forall_const] at hC0i
            have hne : 6 = 0 ∨ ¬ (C : Int) = 0 := by omega
            have HRd := Lib.hid hrd
            clear hC0 hrd hC0i
            rcases hne with h0 | hne
            · first
                | exact absurd h0 (by decide)
                | (go_wp2_with fail
                   refine bodyPost_ret (results_tmp3 rfl _ _ _) rfl ?_
                   rw [← HRd.out]
                   exact ⟨congrArg (fun x => Ending.returned (.tuple #[.int .u64 x, .int .i64 ((6 + 1 : Nat) : Int), .int .i64 0])) HSv.out, Chg.refl _ _⟩)
            · go_wp2_with fail
              all_goals try refine bodyPost_ret (results_tmp3 rfl _ _ _) rfl ?_
              all_goals rw [← HRd.out]
              all_goals exact ⟨congrArg (fun x => Ending.returned (.tuple #[.int .u64 x, .int .i64 ((6 + 1 : Nat) : Int), .int .i64 0])) HSv.out, Chg.refl _ _⟩
        · rw [if_neg hlt] at hrd
          have hlti : ¬ (C : Int) < 128 := by omega
          have hsv := sevens V C 6 hV hc256 (by omega)
          have hP : ((128 ^ 6 : Nat) : Int) = 4398046511104 := by decide
          rw [hP] at hsv
          have HSv := Lib.hid hsv
          have HRd := Lib.hid hrd
          have HV := Lib.hid hV
          have HJ := Lib.hid hj
          clear hsv hP hrd
          go_wp2_with fail
          refine ⟨⟨6 + 1, V + C % 128 * 128 ^ 6, rfl, congrArg (Value.int .u64) HSv.out, by omega, ?_, ?_, trivial⟩, by simp [intOf]⟩
          · have h1 : C % 128 * 128 ^ 6 ≤ 127 * 128 ^ 6 := Nat.mul_le_mul_right _ (by omega)
            have h2 := HV.out
            rw [Nat.pow_succ]
            omega
          · rw [show 10 - (6 + 1) = j from by have := HJ.out; omega]
            exact HRd.out
      · rw [if_neg (by omega)] at hrd
        by_cases hlt : C < 128
        · rw [if_pos hlt] at hrd
          have hlti : (C : Int) < 128 := by omega
          have hsv := sevens V C 7 hV hc256 (by omega)
          have hP : ((128 ^ 7 : Nat) : Int) = 562949953421312 := by decide
          rw [hP, show C % 128 = C from Nat.mod_eq_of_lt hlt] at hsv
          have HSv := Lib.hid hsv
          clear hsv hP
          by_cases hC0 : C = 0 ∧ 0 < (7 : Nat)
          · rw [if_pos hC0] at hrd
            obtain ⟨hC0, hK0⟩ := hC0
            subst hC0
            subst hrd
            go_wp2_with fail
            refine bodyPost_ret (results_tmp3 rfl _ _ _) rfl ?_
            exact ⟨rfl, Chg.refl _ _⟩
          · rw [if_neg hC0] at hrd
            have hC0i : (0 : Int) < 7 → ¬ (C : Int) = 0 := fun h h' => hC0 ⟨by omega, by omega⟩
            try simp only [Int.zero_lt_one, forall_const] at hC0i
            have hne : 7 = 0 ∨ ¬ (C : Int) = 0 := by omega
            have HRd := Lib.hid hrd
            clear hC0 hrd hC0i
            rcases hne with h0 | hne
            · first
                | exact absurd h0 (by decide)
                | (go_wp2_with fail
                   refine bodyPost_ret (results_tmp3 rfl _ _ _) rfl ?_
                   rw [← HRd.out]
                   exact ⟨congrArg (fun x => Ending.returned (.tuple #[.int .u64 x, .int .i64 ((7 + 1 : Nat) : Int), .int .i64 0])) HSv.out, Chg.refl _ _⟩)
            · go_wp2_with fail
              all_goals try refine bodyPost_ret (results_tmp3 rfl _ _ _) rfl ?_
              all_goals rw [← HRd.out]
              all_goals exact ⟨congrArg (fun x => Ending.returned (.tuple #[.int .u64 x, .int .i64 ((7 + 1 : Nat) : Int), .int .i64 0])) HSv.out, Chg.refl _ _⟩
        · rw [if_neg hlt] at hrd
          have hlti : ¬ (C : Int) < 128 := by omega
          have hsv := sevens V C 7 hV hc256 (by omega)
          have hP : ((128 ^ 7 : Nat) : Int) = 562949953421312 := by decide
          rw [hP] at hsv
          have HSv := Lib.hid hsv
          have HRd := Lib.hid hrd
          have HV := Lib.hid hV
          have HJ := Lib.hid hj
          clear hsv hP hrd
          go_wp2_with fail
          refine ⟨⟨7 + 1, V + C % 128 * 128 ^ 7, rfl, congrArg (Value.int .u64) HSv.out, by omega, ?_, ?_, trivial⟩, by simp [intOf]⟩
          · have h1 : C % 128 * 128 ^ 7 ≤ 127 * 128 ^ 7 := Nat.mul_le_mul_right _ (by omega)
            have h2 := HV.out
            rw [Nat.pow_succ]
            omega
          · rw [show 10 - (7 + 1) = j from by have := HJ.out; omega]
            exact HRd.out
      · rw [if_neg (by omega)] at hrd
        by_cases hlt : C < 128
        · rw [if_pos hlt] at hrd
          have hlti : (C : Int) < 128 := by omega
          have hsv := sevens V C 8 hV hc256 (by omega)
          have hP : ((128 ^ 8 : Nat) : Int) = 72057594037927936 := by decide
          rw [hP, show C % 128 = C from Nat.mod_eq_of_lt hlt] at hsv
          have HSv := Lib.hid hsv
          clear hsv hP
          by_cases hC0 : C = 0 ∧ 0 < (8 : Nat)
          · rw [if_pos hC0] at hrd
            obtain ⟨hC0, hK0⟩ := hC0
            subst hC0
            subst hrd
            go_wp2_with fail
            refine bodyPost_ret (results_tmp3 rfl _ _ _) rfl ?_
            exact ⟨rfl, Chg.refl _ _⟩
          · rw [if_neg hC0] at hrd
            have hC0i : (0 : Int) < 8 → ¬ (C : Int) = 0 := fun h h' => hC0 ⟨by omega, by omega⟩
            try simp only [Int.zero_lt_one, forall_const] at hC0i
            have hne : 8 = 0 ∨ ¬ (C : Int) = 0 := by omega
            have HRd := Lib.hid hrd
            clear hC0 hrd hC0i
            rcases hne with h0 | hne
            · first
                | exact absurd h0 (by decide)
                | (go_wp2_with fail
                   refine bodyPost_ret (results_tmp3 rfl _ _ _) rfl ?_
                   rw [← HRd.out]
                   exact ⟨congrArg (fun x => Ending.returned (.tuple #[.int .u64 x, .int .i64 ((8 + 1 : Nat) : Int), .int .i64 0])) HSv.out, Chg.refl _ _⟩)
            · go_wp2_with fail
              all_goals try refine bodyPost_ret (results_tmp3 rfl _ _ _) rfl ?_
              all_goals rw [← HRd.out]
              all_goals exact ⟨congrArg (fun x => Ending.returned (.tuple #[.int .u64 x, .int .i64 ((8 + 1 : Nat) : Int), .int .i64 0])) HSv.out, Chg.refl _ _⟩
        · rw [if_neg hlt] at hrd
          have hlti : ¬ (C : Int) < 128 := by omega
          have hsv := sevens V C 8 hV hc256 (by omega)
          have hP : ((128 ^ 8 : Nat) : Int) = 72057594037927936 := by decide
          rw [hP] at hsv
          have HSv := Lib.hid hsv
          have HRd := Lib.hid hrd
          have HV := Lib.hid hV
          have HJ := Lib.hid hj
          clear hsv hP hrd
          go_wp2_with fail
          refine ⟨⟨8 + 1, V + C % 128 * 128 ^ 8, rfl, congrArg (Value.int .u64) HSv.out, by omega, ?_, ?_, trivial⟩, by simp [intOf]⟩
          · have h1 : C % 128 * 128 ^ 8 ≤ 127 * 128 ^ 8 := Nat.mul_le_mul_right _ (by omega)
            have h2 := HV.out
            rw [Nat.pow_succ]
            omega
          · rw [show 10 - (8 + 1) = j from by have := HJ.out; omega]
            exact HRd.out
      · by_cases h1c : 1 < C
        · have h1i : (1 : Int) < (C : Int) := by omega
          rw [if_pos ⟨rfl, h1c⟩] at hrd
          subst hrd
          go_wp2_with fail
          refine bodyPost_ret (results_tmp3 rfl _ _ _) rfl ?_
          exact ⟨rfl, Chg.refl _ _⟩
        · have h1i : ¬ (1 : Int) < (C : Int) := by omega
          rw [if_neg (fun h => h1c h.2)] at hrd
          have hlt : C < 128 := by omega
          rw [if_pos hlt] at hrd
          have hlti : (C : Int) < 128 := by omega
          have hsv := sevens V C 9 hV hc256 (by omega)
          have hP : ((128 ^ 9 : Nat) : Int) = 9223372036854775808 := by decide
          rw [hP, show C % 128 = C from Nat.mod_eq_of_lt hlt] at hsv
          have HSv := Lib.hid hsv
          clear hsv hP
          by_cases hC0 : C = 0 ∧ 0 < (9 : Nat)
          · rw [if_pos hC0] at hrd
            obtain ⟨hC0, hK0⟩ := hC0
            subst hC0
            subst hrd
            go_wp2_with fail
            refine bodyPost_ret (results_tmp3 rfl _ _ _) rfl ?_
            exact ⟨rfl, Chg.refl _ _⟩
          · rw [if_neg hC0] at hrd
            have hC0i : (0 : Int) < 9 → ¬ (C : Int) = 0 := fun h h' => hC0 ⟨by omega, by omega⟩
            try simp only [Int.zero_lt_one, forall_const] at hC0i
            have hne : 9 = 0 ∨ ¬ (C : Int) = 0 := by omega
            have HRd := Lib.hid hrd
            clear hC0 hrd hC0i
            rcases hne with h0 | hne
            · first
                | exact absurd h0 (by decide)
                | (go_wp2_with fail
                   refine bodyPost_ret (results_tmp3 rfl _ _ _) rfl ?_
                   rw [← HRd.out]
                   exact ⟨congrArg (fun x => Ending.returned (.tuple #[.int .u64 x, .int .i64 ((9 + 1 : Nat) : Int), .int .i64 0])) HSv.out, Chg.refl _ _⟩)
            · go_wp2_with fail
              all_goals try refine bodyPost_ret (results_tmp3 rfl _ _ _) rfl ?_
              all_goals rw [← HRd.out]
              all_goals exact ⟨congrArg (fun x => Ending.returned (.tuple #[.int .u64 x, .int .i64 ((9 + 1 : Nat) : Int), .int .i64 0])) HSv.out, Chg.refl _ _⟩
    · have hkli : (b.length : Int) ≤ (k : Int) := by omega
      rw [List.drop_eq_nil_of_le (by omega), rdN] at hrd
      subst hrd
      go_wp2_with fail
      refine bodyPost_ret (results_tmp3 rfl _ _ _) rfl ?_
      exact ⟨rfl, Chg.refl _ _⟩
  · have hki : ¬ (k : Int) < 10 := by omega
    obtain rfl : k = 10 := by omega
    rw [show 10 - 10 = 0 from rfl, rdN] at hrd
    subst hrd
    go_wp2_with fail
    refine bodyPost_ret (results_tmp3 rfl _ _ _) rfl ?_
    exact ⟨rfl, Chg.refl _ _⟩

end Go.Proofs.YtbjagmlbamjdbaaGreat.kvs
end

/-
  two blocks of 64 bytes compared.
-/
section
set_option linter.unusedSimpArgs false
set_option linter.unusedVariables false
namespace Go.Proofs.YtbjagmlbamjdbaaGreat.bufs
open Go.RowKit Go.My disks
set_option maxRecDepth 100000

theorem cellsB_at {x : Blk} {k : Nat} (hk : k < x.length) : (cellsB x).toArray[k]? = some (.int .u8 (x[k].toNat : Int)) := by simp [cellsB, hk]

theorem run_eqItems_bytes (w : World) (d : Nat) (x y : Blk) (hx : x.length = y.length) : ∀ (n k : Nat), k + n = x.length →
    (Op.eqItems (d + 1) 5 1 (cellsB x).toArray (cellsB y).toArray (List.range' k n)).run Tryz.prog w = .ok (decide (x.drop k = y.drop k)) w
  | 0, k, h => by
    rw [List.drop_eq_nil_of_le (by omega), List.drop_eq_nil_of_le (by omega)]
    simp [Op.eqItems]
  | n + 1, k, h => by
    have hk : k < x.length := by omega
    have hk2 : k < y.length := by omega
    have ih := run_eqItems_bytes w d x y hx n (k + 1) (by omega)
    have hpart : ∀ (z : Blk) (hz : k < z.length), (part 5 (cellsB z).toArray (k * 1)).run Tryz.prog w = .ok (.int .u8 (z[k].toNat : Int)) w := by
      intro z hz
      unfold part
      rw [Nat.mul_one, Sem.run_bind, Tryz.isAgg5]
      simp only [Result.andThen_ok, Bool.false_eq_true, if_false, cellsB_at hz, Sem.run_pure]
    rw [List.range'_succ]
    simp only [Op.eqItems, Sem.run_bind, hpart x hk, hpart y hk2, Result.andThen_ok]
    rw [run_equalIn_int (P := Tryz.prog) w d 5 .u8 .u8 _ _ Tryz.underlying5]
    simp only [Result.andThen_ok]
    have hdx : x.drop k = x[k] :: x.drop (k + 1) := List.drop_eq_getElem_cons hk
    have hdy : y.drop k = y[k] :: y.drop (k + 1) := List.drop_eq_getElem_cons hk2
    by_cases e : x[k] = y[k]
    · have : ((x[k].toNat : Int) == (y[k].toNat : Int)) = true := by rw [e]; simp
      rw [this]
      simp only [Bool.not_true, Bool.false_eq_true, if_false, ih]
      congr 1
      rw [decide_eq_decide, hdx, hdy, e]
      exact ⟨fun h => by rw [h], fun h => (List.cons.inj h).2⟩
    · have : ((x[k].toNat : Int) == (y[k].toNat : Int)) = false := by
        rw [beq_eq_false_iff_ne]
        intro h1
        exact e (UInt8.toNat_inj.1 (by omega))
      rw [this]
      simp only [Bool.not_false, if_true, Sem.run_pure]
      congr 1
      symm
      rw [decide_eq_false_iff_not, hdx, hdy]
      exact fun h => e (List.cons.inj h).1

theorem run_equal_block (w : World) (t : TypeId) (x y : Blk) (ht : Tryz.prog.underlying t = some (.array 64 5)) (hx : x.length = 64) (hy : y.length = 64) :
    (Op.equal t (.agg (cellsB x).toArray) (.agg (cellsB y).toArray)).run Tryz.prog w = .ok (decide (x = y)) w := by
  obtain ⟨i, hi, hz, hsz, hby⟩ := u8_parts
  have hc : Tryz.prog.cellsOf 5 = 1 := by kernel_rfl
  unfold Op.equal
  rw [show Op.maxDepth = 9999 + 1 from rfl, run_equalIn_array w 9999 _ _ ht hi, hc, List.range_eq_range', show (9999 : Nat) = 9998 + 1 from rfl,
    run_eqItems_bytes w 9998 x y (by omega) 64 0 (by omega)]
  simp

/-- The comparison of two blocks may be taken first. -/
theorem yieldsIf_eql_block {ops : Array Oper} {S : World → Prop} {op : Oper} {a : Act} (hw : Region.wanted op (yielded ops a.tmps) = true) (t : TypeId) (p q : Operand) (ho : op.op = .binOp .eql t p q t) (x y : Blk)
    (hp : a.eval p = .agg (cellsB x).toArray) (hq : a.eval q = .agg (cellsB y).toArray) (ht : Tryz.prog.underlying t = some (.array 64 5)) (hx : x.length = 64) (hy : y.length = 64) (hg : Tryz.prog.eqGuardType Tryz.prog.depth t = false) :
    YieldsIf Tryz.prog ops S op (.bool (decide (x = y))) a :=
  .inl ⟨hw, fun w' _ => by
    have he := run_equal_block w' t x y ht hx hy
    unfold execOp
    simp [ho, hp, hq, eqGuard, binOp, hg, he]⟩

end Go.Proofs.YtbjagmlbamjdbaaGreat.bufs
end

/-
  wal: the head that a block has; the walk.
-/
section
set_option linter.unusedSimpArgs false
set_option linter.unusedVariables false
namespace Go.Proofs.YtbjagmlbamjdbaaGreat.wals
open Go.RowKit Go.My disks bufs
set_option maxRecDepth 100000

theorem head_ones (a b c : Int) : (#[.int .i64 a, .int .i64 b, .int .i64 c] : Array Value).all (·.oneCell') = true := all_oneCell_toArray (cs := [.int .i64 a, .int .i64 b, .int .i64 c]) (by simp [Value.oneCell'])
theorem size_head : (Tryz.prog.info? 175).map (·.size) = some 3 := by kernel_rfl
theorem blk_sub {w : World} {g : Nat} {b : Blk} {t : TypeId} (h : Arr w g t (cellsB b)) (o n cap : Nat) (hn : o + n ≤ b.length) (h0 : 0 < n) : SlAt w (.slice (some ⟨g, o, none⟩) n cap) (cellsB ((b.drop o).take n)) := by
  have hl : (cellsB ((b.drop o).take n)).length = n := by rw [cellsB_length, List.length_take, List.length_drop]; omega
  refine ⟨some ⟨g, o, none⟩, cap, by rw [hl], fun _ => ⟨_, _, rfl⟩, fun b' off ho i x hx => ?_⟩
  cases ho
  have hi : i < n := by have := (List.getElem?_eq_some_iff.1 hx).1; rwa [hl] at this
  refine h.cell ?_
  simp only [cellsB, List.getElem?_map, List.getElem?_take_of_lt hi, List.getElem?_drop] at hx ⊢
  exact hx

set_option maxHeartbeats 2000000 in
theorem read_any (w : World) (b : Blk) (hb : b.length = 64) (pl most : Nat) (hpl : pl < 2) (hm : most < 4294967296) :
    Calls Tryz.prog 105 #[.agg (cellsB b).toArray, .int .i64 pl, .int .i64 most] w fun e w' => ∃ (s a k : Nat) (ok : Bool), e = .returned (.tuple #[.agg #[.int .i64 s, .int .i64 a, .int .i64 k], .bool ok]) ∧
      readH b pl most = (if ok then some (s, a, k) else none) ∧ s ≤ 1152921504606846976 ∧ Chg (fun _ => False) w w' := by
  obtain ⟨s, hs⟩ : ∃ s, ofBe ((b.drop 4).take 8) = s := ⟨_, rfl⟩
  obtain ⟨k, hk⟩ : ∃ k, ofBe ((b.drop 12).take 4) = k := ⟨_, rfl⟩
  obtain ⟨a, ha⟩ : ∃ a : UInt8, b[2]?.getD 0 = a := ⟨_, rfl⟩
  have h1 := fun w' (h : Arr w' w.heap.size 178 (cellsB b)) => readFixed_any w' 8 (Or.inr rfl) _ _ _ _ (blk_sub h 4 8 8 (by omega) (by omega)) (by rw [List.length_take, List.length_drop]; omega)
  have h2 := fun w' (h : Arr w' w.heap.size 178 (cellsB b)) => readFixed_any w' 4 (Or.inl rfl) _ _ _ _ (blk_sub h 12 4 4 (by omega) (by omega)) (by rw [List.length_take, List.length_drop]; omega)
  rw [hs] at h1
  rw [hk] at h2
  have hs64 : s < 18446744073709551616 := by
    rw [← hs]
    have h3 := ofBe_lt ((b.drop 4).take 8)
    have h4 : (256 : Nat) ^ ((b.drop 4).take 8).length ≤ 256 ^ 8 := Nat.pow_le_pow_right (by omega) (by rw [List.length_take]; omega)
    have h5 : (256 : Nat) ^ 8 = 18446744073709551616 := rfl
    omega
  have hk32 : k < 4294967296 := by
    rw [← hk]
    have h3 := ofBe_lt ((b.drop 12).take 4)
    have h4 : (256 : Nat) ^ ((b.drop 12).take 4).length ≤ 256 ^ 4 := Nat.pow_le_pow_right (by omega) (by rw [List.length_take]; omega)
    have h5 : (256 : Nat) ^ 4 = 4294967296 := rfl
    omega
  have hrd : readH b pl most = if s < 1 ∨ 1152921504606846976 < s ∨ s % 2 ≠ pl ∨ 1 < a.toNat ∨ most < k then none else if headB s a.toNat k = b then some (s, a.toNat, k) else none := by
    unfold readH; rw [hs, hk, ha]
  have HR := Lib.hid hrd
  have H1 := Lib.hid h1
  have H2 := Lib.hid h2
  have HB := Lib.hid hb
  have ha2 : (cellsB b)[2]? = some (.int .u8 (a.toNat : Int)) := by
    have : b[2]? = some a := by rw [← ha, List.getElem?_eq_getElem (by omega)]; rfl
    simp [cellsB, this]
  have HA2 := Lib.hid ha2
  have hal := a.toNat_lt
  clear hrd h1 h2 hb ha2 hs hk ha
  obtain ⟨w0, hw0⟩ : ∃ w0, ((w.alloc (.cells (cellsB b).toArray 178)).alloc (.cells #[.int .i64 0, .int .i64 0, .int .i64 0] 175)) = w0 := ⟨_, rfl⟩
  have hArr : Arr w0 w.heap.size 178 (cellsB b) := by rw [← hw0]; exact at2_0
  have hRes : Arr w0 (w.heap.size + 1) 175 [.int .i64 0, .int .i64 0, .int .i64 0] := by rw [← hw0]; exact at2_1
  have hC0 : Chg (fun _ => False) w w0 := by rw [← hw0]; exact chg2
  have e2 := hArr.cell HA2.out
  have HArr := Lib.hid hArr
  have HRes := Lib.hid hRes
  have HC0 := Lib.hid hC0
  have HW0 := Lib.hid hw0
  clear hArr hRes hC0 hw0 HA2
  have hz2 : ((s : Int) % 2 != (pl : Int)) = decide (s % 2 ≠ pl) := by
    by_cases h : s % 2 = pl
    · have : (s : Int) % 2 = (pl : Int) := by omega
      simp [h, this]
    · have : ¬ (s : Int) % 2 = (pl : Int) := by omega
      simp [h, this]
  have hmm : (most : Int) % 18446744073709551616 = (most : Int) := by omega
  by_cases hbad : s < 1 ∨ 1152921504606846976 < s ∨ s % 2 ≠ pl ∨ 1 < a.toNat ∨ most < k
  · have hr : readH b pl most = none := by rw [HR.out, if_pos hbad]
    have HRn := Lib.hid hr
    clear hr HR
    have hor : s < 1 ∨ (1 ≤ s ∧ 1152921504606846976 < s) ∨ (1 ≤ s ∧ s ≤ 1152921504606846976 ∧ s % 2 ≠ pl) ∨ (1 ≤ s ∧ s ≤ 1152921504606846976 ∧ s % 2 = pl ∧ 1 < a.toNat) ∨ (1 ≤ s ∧ s ≤ 1152921504606846976 ∧ s % 2 = pl ∧ a.toNat ≤ 1 ∧ most < k) := by omega
    clear hbad
    rcases hor with c1 | ⟨c0, c1⟩ | ⟨c0, c1, c2⟩ | ⟨c0, c1, c2, c3⟩ | ⟨c0, c1, c2, c3, c4⟩
    · have i1 : (s : Int) < 1 := by omega
      clear c1
      clear hz2
      go_enter Tryz.func105, Tryz.ntmps105
      go_wp2_with (first
        | (go_at_call 150; fail))
      rw [HW0.out]
      refine (H1.out _ HArr.out).mono ?_
      rintro e w' ⟨rfl, rfl⟩
      dsimp only
      go_wp2_with (first
        | (go_at_call 150; fail))
      refine (H2.out _ HArr.out).mono ?_
      rintro e w' ⟨rfl, rfl⟩
      dsimp only
      go_wp2_with (first
        | (refine wpList_store_mid rfl 175 _ _ rfl (w.heap.size + 1) 0 #[.int .i64 0, .int .i64 0, .int .i64 0] rfl rfl HRes.out.there size_head (head_ones 0 0 0) ?_))
      have hst := HRes.out.store (vs := [.int .i64 0, .int .i64 0, .int .i64 0]) rfl
      refine bodyPost_ret (result_cell_tmp rfl _ rfl (hst.arr.load Tryz.underlying175 rfl size_head) rfl) rfl ?_
      exact ⟨0, 0, 0, false, rfl, HRn.out, by omega, HC0.out.new hst.chg (fun i hi => by omega)⟩
    · have i1 : (1 : Int) ≤ s := by omega
      have i2 : (1152921504606846976 : Int) < s := by omega
      clear c0 c1
      clear hz2
      go_enter Tryz.func105, Tryz.ntmps105
      go_wp2_with (first
        | (go_at_call 150; fail))
      rw [HW0.out]
      refine (H1.out _ HArr.out).mono ?_
      rintro e w' ⟨rfl, rfl⟩
      dsimp only
      go_wp2_with (first
        | (go_at_call 150; fail))
      refine (H2.out _ HArr.out).mono ?_
      rintro e w' ⟨rfl, rfl⟩
      dsimp only
      go_wp2_with (first
        | (refine wpList_store_mid rfl 175 _ _ rfl (w.heap.size + 1) 0 #[.int .i64 0, .int .i64 0, .int .i64 0] rfl rfl HRes.out.there size_head (head_ones 0 0 0) ?_))
      have hst := HRes.out.store (vs := [.int .i64 0, .int .i64 0, .int .i64 0]) rfl
      refine bodyPost_ret (result_cell_tmp rfl _ rfl (hst.arr.load Tryz.underlying175 rfl size_head) rfl) rfl ?_
      exact ⟨0, 0, 0, false, rfl, HRn.out, by omega, HC0.out.new hst.chg (fun i hi => by omega)⟩
    · have i1 : (1 : Int) ≤ s := by omega
      have i2 : (s : Int) ≤ 1152921504606846976 := by omega
      have hz : ((s : Int) % 2 != (pl : Int)) = true := by rw [hz2]; simp [c2]
      clear c0 c1 c2
      clear hz2
      go_enter Tryz.func105, Tryz.ntmps105
      go_wp2_with (first
        | (go_at_call 150; fail))
      rw [HW0.out]
      refine (H1.out _ HArr.out).mono ?_
      rintro e w' ⟨rfl, rfl⟩
      dsimp only
      go_wp2_with (first
        | (go_at_call 150; fail))
      refine (H2.out _ HArr.out).mono ?_
      rintro e w' ⟨rfl, rfl⟩
      dsimp only
      go_wp2_with (first
        | (refine wpList_store_mid rfl 175 _ _ rfl (w.heap.size + 1) 0 #[.int .i64 0, .int .i64 0, .int .i64 0] rfl rfl HRes.out.there size_head (head_ones 0 0 0) ?_))
      have hst := HRes.out.store (vs := [.int .i64 0, .int .i64 0, .int .i64 0]) rfl
      refine bodyPost_ret (result_cell_tmp rfl _ rfl (hst.arr.load Tryz.underlying175 rfl size_head) rfl) rfl ?_
      exact ⟨0, 0, 0, false, rfl, HRn.out, by omega, HC0.out.new hst.chg (fun i hi => by omega)⟩
    · have i1 : (1 : Int) ≤ s := by omega
      have i2 : (s : Int) ≤ 1152921504606846976 := by omega
      have hz : ((s : Int) % 2 != (pl : Int)) = false := by rw [hz2]; simp [c2]
      have i3 : (1 : Int) < (a.toNat : Int) := by omega
      clear c0 c1 c2 c3
      clear hz2
      go_enter Tryz.func105, Tryz.ntmps105
      go_wp2_with (first
        | (go_at_call 150; fail))
      rw [HW0.out]
      refine (H1.out _ HArr.out).mono ?_
      rintro e w' ⟨rfl, rfl⟩
      dsimp only
      go_wp2_with (first
        | (go_at_call 150; fail))
      refine (H2.out _ HArr.out).mono ?_
      rintro e w' ⟨rfl, rfl⟩
      dsimp only
      go_wp2_with (first
        | (refine wpList_store_mid rfl 175 _ _ rfl (w.heap.size + 1) 0 #[.int .i64 0, .int .i64 0, .int .i64 0] rfl rfl HRes.out.there size_head (head_ones 0 0 0) ?_))
      have hst := HRes.out.store (vs := [.int .i64 0, .int .i64 0, .int .i64 0]) rfl
      refine bodyPost_ret (result_cell_tmp rfl _ rfl (hst.arr.load Tryz.underlying175 rfl size_head) rfl) rfl ?_
      exact ⟨0, 0, 0, false, rfl, HRn.out, by omega, HC0.out.new hst.chg (fun i hi => by omega)⟩
    · have i1 : (1 : Int) ≤ s := by omega
      have i2 : (s : Int) ≤ 1152921504606846976 := by omega
      have hz : ((s : Int) % 2 != (pl : Int)) = false := by rw [hz2]; simp [c2]
      have i3 : (a.toNat : Int) ≤ 1 := by omega
      have i4 : (most : Int) < k := by omega
      clear c0 c1 c2 c3 c4
      clear hz2
      go_enter Tryz.func105, Tryz.ntmps105
      go_wp2_with (first
        | (go_at_call 150; fail))
      rw [HW0.out]
      refine (H1.out _ HArr.out).mono ?_
      rintro e w' ⟨rfl, rfl⟩
      dsimp only
      go_wp2_with (first
        | (go_at_call 150; fail))
      refine (H2.out _ HArr.out).mono ?_
      rintro e w' ⟨rfl, rfl⟩
      dsimp only
      go_wp2_with (first
        | (refine wpList_store_mid rfl 175 _ _ rfl (w.heap.size + 1) 0 #[.int .i64 0, .int .i64 0, .int .i64 0] rfl rfl HRes.out.there size_head (head_ones 0 0 0) ?_))
      have hst := HRes.out.store (vs := [.int .i64 0, .int .i64 0, .int .i64 0]) rfl
      refine bodyPost_ret (result_cell_tmp rfl _ rfl (hst.arr.load Tryz.underlying175 rfl size_head) rfl) rfl ?_
      exact ⟨0, 0, 0, false, rfl, HRn.out, by omega, HC0.out.new hst.chg (fun i hi => by omega)⟩
  · have hr : readH b pl most = if headB s a.toNat k = b then some (s, a.toNat, k) else none := by rw [HR.out, if_neg hbad]
    have HRg := Lib.hid hr
    have i1 : (1 : Int) ≤ s := by omega
    have i2 : (s : Int) ≤ 1152921504606846976 := by omega
    have hz : ((s : Int) % 2 != (pl : Int)) = false := by rw [hz2]; simp; omega
    have i3 : (a.toNat : Int) ≤ 1 := by omega
    have i4 : (k : Int) ≤ (most : Int) := by omega
    have HBad := Lib.hid hbad
    clear hr HR hbad hz2
    go_enter Tryz.func105, Tryz.ntmps105
    go_wp2_with (first
      | (go_at_call 150; fail))
    rw [HW0.out]
    refine (H1.out _ HArr.out).mono ?_
    rintro e w' ⟨rfl, rfl⟩
    dsimp only
    go_wp2_with (first
      | (go_at_call 150; fail))
    refine (H2.out _ HArr.out).mono ?_
    rintro e w' ⟨rfl, rfl⟩
    dsimp only
    go_wp2_with (first
      | (refine wpList_store_new rfl 175 _ _ rfl #[.int .i64 s, .int .i64 a.toNat, .int .i64 k] rfl rfl size_head rfl (head_ones _ _ _) ?_))
    have hl64 : (cellsB b).length = 64 := by rw [cellsB_length, HB.out]
    have hsb : (Tryz.prog.info? 178).map (·.size) = some (cellsB b).length := by rw [hl64]; exact size_wblock
    have hc1 : Chg (fun _ => False) w0 (w0.alloc (.cells #[.int .i64 s, .int .i64 a.toNat, .int .i64 k] 175)) := (Chg.refl _ _).alloc _
    have hA1 : Arr (w0.alloc (.cells #[.int .i64 s, .int .i64 a.toNat, .int .i64 k] 175)) w.heap.size 178 (cellsB b) := hc1.at HArr.out id
    have hN1 : Arr (w0.alloc (.cells #[.int .i64 s, .int .i64 a.toNat, .int .i64 k] 175)) w0.heap.size 175 [.int .i64 s, .int .i64 a.toNat, .int .i64 k] := at1
    have hR1 : Arr (w0.alloc (.cells #[.int .i64 s, .int .i64 a.toNat, .int .i64 k] 175)) (w.heap.size + 1) 175 [.int .i64 0, .int .i64 0, .int .i64 0] := hc1.at HRes.out id
    obtain ⟨w1, hw1⟩ : ∃ w1, w0.alloc (.cells #[.int .i64 s, .int .i64 a.toNat, .int .i64 k] 175) = w1 := ⟨_, rfl⟩
    rw [hw1] at hc1 hA1 hN1 hR1 ⊢
    have HC1 := Lib.hid hc1
    have HA1 := Lib.hid hA1
    have HN1 := Lib.hid hN1
    have HR1 := Lib.hid hR1
    have HSb := Lib.hid hsb
    clear hw1 hc1 hA1 hN1 hR1 hsb hl64
    have heq : ∀ w', (Op.equal 178 (.agg (cellsB (headB s a.toNat k)).toArray) (.agg (cellsB b).toArray)).run Tryz.prog w' = .ok (decide (headB s a.toNat k = b)) w' := fun w' => run_equal_block w' _ _ _ Tryz.underlying178 (headB_length _ _ _) HB.out
    have heg : Tryz.prog.eqGuardType Tryz.prog.depth 178 = false := by kernel_rfl
    have HEq := Lib.hid heq
    have HEg := Lib.hid heg
    clear heq heg
    refine wp_region_noPanic ?_
    refine wp_region_held_drew (S := (fun w' => w'.rangeAt w.heap.size 0 (cellsB b) ∧ w'.rangeAt w0.heap.size 0 [.int .i64 s, .int .i64 a.toNat, .int .i64 k])) (by kernel_rfl) (⟨HA1.out.range, HN1.out.range⟩) (fun hHeld => ?_)
    refine take_list (i := 3) rfl (by kernel_rfl) (by kernel_rfl) (by kernel_rfl) (fun _ _ _ h => h) ((yieldsIf_load_mid (by rfl) _ _ rfl _ _ rfl (cellsB b) _ (fun w h => h.1) Tryz.underlying178 rfl HSb.out)) hHeld ?_
    simp only [Act.put, List.setIfInBounds_toArray, List.set_cons_zero, List.set_cons_succ]
    refine take_list (i := 0) rfl (by kernel_rfl) (by kernel_rfl) (by kernel_rfl) (fun _ _ _ h => h) ((yieldsIf_load_mid (by rfl) _ _ rfl _ _ rfl [.int .i64 s, .int .i64 a.toNat, .int .i64 k] _ (fun w h => h.2) Tryz.underlying175 rfl size_head)) hHeld ?_
    simp only [Act.put, List.setIfInBounds_toArray, List.set_cons_zero, List.set_cons_succ]
    refine take_list (i := 1) rfl (by kernel_rfl) (by kernel_rfl) (by kernel_rfl) (fun _ _ _ h => h) ((yieldsIf_load_mid (by rfl) _ _ rfl _ _ rfl [.int .i64 s, .int .i64 a.toNat, .int .i64 k] _ (fun w h => h.2) Tryz.underlying175 rfl size_head)) hHeld ?_
    simp only [Act.put, List.setIfInBounds_toArray, List.set_cons_zero, List.set_cons_succ]
    refine wpAnyH_ready (rs := [2]) (by kernel_rfl) (by simp) (one_list (i := 2) rfl (by rfl) (fun K hK => ?_) AllReadyH.nil)
    go_simp
    refine (bytes_any _ s a.toNat k (by omega) (by omega) (by omega)).mono ?_
    rintro e w2 ⟨rfl, hc2⟩
    have HC2 := Lib.hid (HC1.out.trans' ((Chg.refl _ w1).drew.trans' hc2))
    have HA2 := Lib.hid (((Chg.refl _ w1).drew.trans' hc2).at HA1.out id)
    have HN2 := Lib.hid (((Chg.refl _ w1).drew.trans' hc2).at HN1.out id)
    have HR2 := Lib.hid (show Arr w2 (w.heap.size + 1) 175 _ from ((Chg.refl _ w1).drew.trans' hc2).at HR1.out id)
    clear hc2
    dsimp only
    refine hK _ _ (⟨Arr.range HA2.out, Arr.range HN2.out⟩) (fun hHeld2 => ?_)
    try simp only [Act.put, List.setIfInBounds_toArray, List.set_cons_zero, List.set_cons_succ]
    refine take_list (i := 4) rfl (by kernel_rfl) (by kernel_rfl) (by kernel_rfl) (fun _ _ _ h => h) ((yieldsIf_eql_block (by rfl) _ _ _ rfl (headB s a.toNat k) b rfl rfl Tryz.underlying178 (headB_length _ _ _) HB.out HEg.out)) hHeld2 ?_
    simp only [Act.put, List.setIfInBounds_toArray, List.set_cons_zero, List.set_cons_succ]
    refine wpAnyH_ready (rs := [5]) (by kernel_rfl) (by simp) (one_list (i := 5) rfl (by rfl) (fun K hK => ?_) AllReadyH.nil)
    refine wp_store_mid 175 _ _ rfl (w.heap.size + 1) 0 #[.int .i64 s, .int .i64 a.toNat, .int .i64 k] rfl rfl HR2.out.there size_head (head_ones _ _ _) ?_
    have hst := HR2.out.store (vs := [.int .i64 s, .int .i64 a.toNat, .int .i64 k]) rfl
    rw [List.toList_toArray]
    have hlt0 := lt_of_block HRes.out
    refine hK _ _ ⟨Arr.range (hst.chg.at HA2.out (by omega)), Arr.range (hst.chg.at HN2.out (by omega))⟩ (fun hHeld3 => ?_)
    try simp only [Act.put, List.setIfInBounds_toArray, List.set_cons_zero, List.set_cons_succ]
    refine take_list (i := 6) rfl (by kernel_rfl) (by kernel_rfl) (by kernel_rfl) (fun _ _ _ h => h) ((Or.inl ⟨by rfl, fun w' _ => rfl⟩)) hHeld3 ?_
    simp only [Act.put, List.setIfInBounds_toArray, List.set_cons_zero, List.set_cons_succ]
    refine wpAnyH_done (by kernel_rfl) ?_ _
    refine NoPanic.normal ?_
    clear hHeld hHeld2 hHeld3
    (try simp only [Exit.inBlock, Exit.then])
    go_wp2_with fail
    refine bodyPost_ret (result_cell_tmp rfl _ rfl (hst.arr.load Tryz.underlying175 rfl size_head) (x := .bool (decide (headB s a.toNat k = b))) rfl) rfl ?_
    refine ⟨s, a.toNat, k, decide (headB s a.toNat k = b), rfl, ?_, by omega, (HC0.out.trans' HC2.out).new hst.chg (fun i hi => by omega)⟩
    rw [HRg.out]
    by_cases he : headB s a.toNat k = b
    · rw [if_pos he, decide_eq_true he]; rfl
    · rw [if_neg he, decide_eq_false he]; rfl

end Go.Proofs.YtbjagmlbamjdbaaGreat.wals
end
