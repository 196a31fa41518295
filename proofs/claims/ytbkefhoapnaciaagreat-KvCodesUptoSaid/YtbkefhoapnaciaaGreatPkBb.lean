/-
  kv: num.Var, num.ReadVar.
-/
import Derived.Test.YtbkefhoapnaciaaGreatPkAi
import Derived.Test.YtbkefhoapnaciaaGreatPkAl
import Derived.Test.YtbkefhoapnaciaaGreatPkBa
import Derived.Lib.Builder
import Derived.Lib.UnsafeStr

section
set_option linter.unusedSimpArgs false
set_option linter.unusedVariables false
namespace Go.Proofs.YtbkefhoapnaciaaGreat.kvs
open Go.RowKit Go.My disks bufs wals
set_option maxRecDepth 100000

variable {w w' : World}

theorem or128 (n : Nat) : bits .or .u8 ((n : Int) % 256) 128 = ((n % 128 + 128 : Nat) : Int) := by
  have h1 : (n : Int) % 256 = ((n % 256 : Nat) : Int) := by omega
  have h2 := u8_or_nat (n % 256) 128 (by omega) (by omega)
  have h3 : ∀ x : Fin 256, x.val ||| 128 = x.val % 128 + 128 := by decide
  have h4 := h3 ⟨n % 256, by omega⟩
  simp only at h4
  rw [h1]
  refine h2.trans ?_
  rw [h4]
  congr 2
  omega

theorem or_sevens (v c i : Nat) (hv : v < 128 ^ i) (hc : c < 128) (hi : i < 9 ∨ (i = 9 ∧ c ≤ 1)) : bits .or .u64 (v : Int) ((c * 128 ^ i : Nat) : Int) = ((v + c * 128 ^ i : Nat) : Int) := by
  have hb : v < 18446744073709551616 ∧ c * 128 ^ i < 18446744073709551616 := by
    rcases hi with hi | ⟨rfl, hc1⟩
    · have h2 : (128 : Nat) ^ (i + 1) ≤ 128 ^ 9 := Nat.pow_le_pow_right (by omega) (by omega)
      have h3 : (128 : Nat) ^ 9 = 9223372036854775808 := by decide
      rw [Nat.pow_succ] at h2
      have h4 : c * 128 ^ i ≤ 127 * 128 ^ i := Nat.mul_le_mul_right _ (by omega)
      omega
    · have h3 : (128 : Nat) ^ 9 = 9223372036854775808 := by decide
      have h4 : c * 128 ^ 9 ≤ 1 * 128 ^ 9 := Nat.mul_le_mul_right _ hc1
      omega
  rw [u64_or_nat _ _ hb.1 hb.2]
  have hp : (128 : Nat) ^ i = 2 ^ (7 * i) := by rw [Nat.pow_mul]
  have h2 := Nat.shiftLeft_add_eq_or_of_lt (i := 7 * i) (show v < 2 ^ (7 * i) by rw [← hp]; exact hv) c
  rw [Nat.shiftLeft_eq, ← hp] at h2
  rw [Nat.or_comm, ← h2, Nat.add_comm]

set_option maxHeartbeats 1000000 in
theorem var_any (w : World) (n : Nat) (hn : n < 16384) :
    Calls Tryz.prog 33 #[.int .u64 (n : Int)] w fun e w' => ∃ v, e = .returned v ∧ w'.ownsRow w.heap.size 5 1 v (varB n).length (cellsB (varB n)) ∧ Chg (fun _ => False) w w' := by
  go_enter Tryz.func33, Tryz.ntmps33
  go_wp2_with fail
  go_loopw [0, 3] (fun v out wr => (v = .int .u64 (n : Int) ∧ out = .slice none 0 0 ∧ wr = w) ∨ (128 ≤ n ∧ v = .int .u64 ((n / 128 : Nat) : Int) ∧ wr.ownsRow w.heap.size 5 1 out 1 (cellsB [UInt8.ofNat (n % 128 + 128)]) ∧ Chg (fun _ => False) w wr)) (fun v _ _ => (intOf v).toNat)
  · exact Or.inl ⟨rfl, rfl, rfl⟩
  have h0 : (0 : Int) ≤ (n : Int) := by omega
  have h1 : (n : Int) < 16384 := by omega
  rcases hrel with ⟨rfl, rfl, rfl⟩ | ⟨hge, rfl, ho, hc⟩
  · by_cases hlt : n < 128
    · have hlti : ¬ (128 : Int) ≤ (n : Int) := by omega
      have hca : Chg (fun _ => False) wr (wr.alloc (.cells #[.int .u8 (n : Int)] 5)) := (Chg.refl _ _).alloc _
      have hs2 : SlAt (wr.alloc (.cells #[.int .u8 (n : Int)] 5)) (.slice (some ⟨wr.heap.size, 0, none⟩) 1 1) (cellsB [UInt8.ofNat n]) := by
        have := SlAt.of_own (own_of_block (w := wr.alloc (.cells #[.int .u8 (n : Int)] 5)) (base := 0) (n := 1) at1 (Nat.zero_le _) rfl (by unfold maxLen; omega))
        simp only [cellsB, List.map_cons, List.map_nil, toNat_ofNat_lt (show n < 256 by omega)]
        exact this
      obtain ⟨v3, w3, hr3, ho3, hg3⟩ := append_step (base := wr.heap.size) (n := 0) (v := .slice none 0 0) (xs := []) ⟨rfl, Or.inl ⟨rfl, rfl⟩⟩ hs2 hca.size (by simp) 76
      rw [List.nil_append] at ho3
      have hc3 : Chg (fun _ => False) wr w3 := hca.new hg3 (fun _ h => h)
      have HR3 := Lib.hid hr3
      have HO3 := Lib.hid ho3
      have HC3 := Lib.hid hc3
      clear hca hs2 hr3 ho3 hg3 hc3
      go_wp2_with (first
        | (at_builtin; refine Lib.wpList_append_run _ rfl _ _ _ _ rfl _ _ rfl rfl _ _ HR3.out ?_))
      go_ret
      refine ⟨_, rfl, ?_, HC3.out⟩
      rw [varB_one hlt]
      exact HO3.out
    · have hlti : (128 : Int) ≤ (n : Int) := by omega
      obtain ⟨X, hX⟩ : ∃ X : Int, bits .or .u8 ((n : Int) % 256) 128 = X := ⟨_, rfl⟩
      have hXv : X = ((n % 128 + 128 : Nat) : Int) := by
        rw [← hX]
        exact or128 n
      have hca : Chg (fun _ => False) wr (wr.alloc (.cells #[.int .u8 X] 5)) := (Chg.refl _ _).alloc _
      have hs2 : SlAt (wr.alloc (.cells #[.int .u8 X] 5)) (.slice (some ⟨wr.heap.size, 0, none⟩) 1 1) (cellsB [UInt8.ofNat (n % 128 + 128)]) := by
        have := SlAt.of_own (own_of_block (w := wr.alloc (.cells #[.int .u8 X] 5)) (base := 0) (n := 1) at1 (Nat.zero_le _) rfl (by unfold maxLen; omega))
        simp only [cellsB, List.map_cons, List.map_nil, toNat_ofNat_lt (show n % 128 + 128 < 256 by omega)]
        rw [← hXv]
        exact this
      obtain ⟨v3, w3, hr3, ho3, hg3⟩ := append_step (base := wr.heap.size) (n := 0) (v := .slice none 0 0) (xs := []) ⟨rfl, Or.inl ⟨rfl, rfl⟩⟩ hs2 hca.size (by simp) 76
      rw [List.nil_append] at ho3
      have hc3 : Chg (fun _ => False) wr w3 := hca.new hg3 (fun _ h => h)
      have HR3 := Lib.hid hr3
      have HO3 := Lib.hid ho3
      have HC3 := Lib.hid hc3
      clear hca hs2 hr3 ho3 hg3 hc3 hXv
      go_wp2_with (first
        | (at_builtin; refine Lib.wpList_append_run _ rfl _ _ _ _ rfl _ _ rfl rfl _ _ HR3.out ?_))
      exact ⟨Or.inr ⟨by omega, congrArg (Value.int .u64) (by omega), HO3.out, HC3.out⟩, by simp [intOf]; omega⟩
  · have h2 : (0 : Int) ≤ ((n / 128 : Nat) : Int) := by omega
    have h3 : ¬ (128 : Int) ≤ ((n / 128 : Nat) : Int) := by omega
    obtain ⟨m, hm⟩ : ∃ m, n / 128 = m := ⟨_, rfl⟩
    rw [hm] at h2 h3 ⊢
    have h4 : (m : Int) < 256 := by omega
    have hca : Chg (fun _ => False) wr (wr.alloc (.cells #[.int .u8 (m : Int)] 5)) := (Chg.refl _ _).alloc _
    have hs2 : SlAt (wr.alloc (.cells #[.int .u8 (m : Int)] 5)) (.slice (some ⟨wr.heap.size, 0, none⟩) 1 1) (cellsB [UInt8.ofNat m]) := by
      have := SlAt.of_own (own_of_block (w := wr.alloc (.cells #[.int .u8 (m : Int)] 5)) (base := 0) (n := 1) at1 (Nat.zero_le _) rfl (by unfold maxLen; omega))
      simp only [cellsB, List.map_cons, List.map_nil, toNat_ofNat_lt (show m < 256 by omega)]
      exact this
    have hsz := hc.size
    obtain ⟨v3, w3, hr3, ho3, hg3⟩ := append_step (own_kept ho hca) hs2 (Nat.le_trans hsz hca.size) (by simp) 76
    have hc3 : Chg (fun _ => False) w w3 := (hc.trans' hca).new hg3 (fun _ h => h)
    rw [show [UInt8.ofNat (n % 128 + 128)] ++ [UInt8.ofNat m] = varB n from by rw [varB_two hge hn, hm]; rfl] at ho3
    obtain ⟨oa, cap, rfl⟩ := own_slice ho
    have HR3 := Lib.hid hr3
    have HO3 := Lib.hid ho3
    have HC3 := Lib.hid hc3
    clear hca hs2 hr3 ho3 hg3 hc3 ho hc hm
    go_wp2_with (first
      | (at_builtin; refine Lib.wpList_append_run _ rfl _ _ _ _ rfl _ _ rfl rfl _ _ HR3.out ?_))
    go_ret
    exact ⟨_, rfl, HO3.out, HC3.out⟩

theorem and127 (C : Nat) (hC : C < 256) : bits .and .u8 (C : Int) 127 = ((C % 128 : Nat) : Int) := by
  have h1 := u8_and_nat C 127 hC (by omega)
  have h2 : ∀ x : Fin 256, x.val &&& 127 = x.val % 128 := by decide
  have h3 := h2 ⟨C, hC⟩
  simp only at h3
  exact h1.trans (by rw [h3])
theorem sevens (V C i : Nat) (hV : V < 128 ^ i) (hC : C < 256) (hi : i < 9 ∨ (i = 9 ∧ C ≤ 1)) : bits .or .u64 (V : Int) (IntKind.u64.wrap (IntKind.u64.wrap (bits .and .u8 (C : Int) 127) * ((128 ^ i : Nat) : Int))) = ((V + C % 128 * 128 ^ i : Nat) : Int) := by
  have h0 : C % 128 * 128 ^ i < 18446744073709551616 := by
    rcases hi with hi | ⟨rfl, hc1⟩
    · have h2 : (128 : Nat) ^ (i + 1) ≤ 128 ^ 9 := Nat.pow_le_pow_right (by omega) (by omega)
      have h3 : (128 : Nat) ^ 9 = 9223372036854775808 := by decide
      rw [Nat.pow_succ] at h2
      have h4 : C % 128 * 128 ^ i ≤ 127 * 128 ^ i := Nat.mul_le_mul_right _ (by omega)
      omega
    · have h3 : (128 : Nat) ^ 9 = 9223372036854775808 := by decide
      have h4 : C % 128 * 128 ^ 9 ≤ 1 * 128 ^ 9 := Nat.mul_le_mul_right _ (by omega)
      omega
  rw [and127 C hC, IntKind.wrap_u64, IntKind.wrap_u64]
  have e1 : ((C % 128 : Nat) : Int) % 18446744073709551616 = ((C % 128 : Nat) : Int) := by omega
  rw [e1, ← Int.natCast_mul]
  have e2 : ((C % 128 * 128 ^ i : Nat) : Int) % 18446744073709551616 = ((C % 128 * 128 ^ i : Nat) : Int) := by omega
  rw [e2]
  exact or_sevens V (C % 128) i hV (by omega) (hi.imp id (fun h => ⟨h.1, by omega⟩))






set_option maxHeartbeats 1000000 in
theorem readVar_any (w : World) (v : Value) (b : Txt) (h : SlAt w v (cellsB b)) (hb : b.length ≤ 1000000) :
    Calls Tryz.prog 43 #[v] w fun e w' => e = .returned (.tuple #[.int .u64 ((rdV b).1 : Int), .int .i64 ((rdV b).2.1 : Int), .int .i64 ((rdV b).2.2 : Int)]) ∧ Chg (fun _ => False) w w' := by
  obtain ⟨oa, cap, rfl, h2, h3⟩ := h
  rw [cellsB_length] at *
  have H := Lib.hid (show SlAt w (.slice oa b.length cap) (cellsB b) from ⟨oa, cap, by rw [cellsB_length], h2, h3⟩)
  have hbi : (b.length : Int) ≤ 1000000 := by omega
  obtain ⟨R, hR⟩ : ∃ R, rdV b = R := ⟨_, rfl⟩
  rw [hR]
  have HR := Lib.hid hR
  clear h2 h3 hR
  go_enter Tryz.func43, Tryz.ntmps43
  go_wp2_with fail
  go_loopw [5, 8] (fun u i wr => ∃ k V : Nat, i = .int .i64 k ∧ u = .int .u64 (V : Int) ∧ k ≤ 10 ∧ V < 128 ^ k ∧ rdN (10 - k) k V (b.drop k) = R ∧ wr = w) (fun _ i _ => 10 - (intOf i).toNat)
  · exact ⟨0, 0, rfl, rfl, by omega, by simp, HR.out, rfl⟩
  obtain ⟨k, V, rfl, rfl, hk, hV, hrd, rfl⟩ := hrel
  by_cases h10 : k < 10
  · have hki : (k : Int) < 10 := by omega
    obtain ⟨j, hj⟩ : ∃ j, 10 - k = j + 1 := ⟨9 - k, by omega⟩
    rw [hj] at hrd
    by_cases hkl : k < b.length
    · have hkli : ¬ (b.length : Int) ≤ (k : Int) := by omega
      obtain ⟨c, hc⟩ : ∃ c, b[k]? = some c := ⟨b[k], List.getElem?_eq_getElem hkl⟩
      obtain ⟨g, off, rfl, -, hcell⟩ := H.out.cell (k := k) (by rw [cellsB_length]; exact hkl)
      have hcell' : wr.cell? ⟨g, off + k, none⟩ = some (.int .u8 (c.toNat : Int)) := by
        rw [hcell]
        have : (cellsB b)[k]? = some (.int .u8 (c.toNat : Int)) := by simp [cellsB, hc]
        rwa [List.getElem?_eq_getElem (by rw [cellsB_length]; exact hkl)] at this
      have hd : b.drop k = c :: b.drop (k + 1) := by rw [List.drop_eq_getElem_cons hkl]; congr 1; exact (List.getElem?_eq_some_iff.1 hc).2
      rw [hd, rdN] at hrd
      have hc256 := c.toNat_lt
      obtain ⟨C, hC⟩ : ∃ C, c.toNat = C := ⟨_, rfl⟩
      rw [hC] at hrd hcell' hc256
      clear hcell hc hd hC
      have hcc : (0 : Int) ≤ (C : Int) := by omega
      have hcd : (C : Int) < 256 := by omega
      rcases (by omega : k = 0 ∨ k = 1 ∨ k = 2 ∨ k = 3 ∨ k = 4 ∨ k = 5 ∨ k = 6 ∨ k = 7 ∨ k = 8 ∨ k = 9) with rfl | rfl | rfl | rfl | rfl | rfl | rfl | rfl | rfl | rfl
      · rw [if_neg (by omega)] at hrd
        rw [Nat.add_zero] at hcell'
        have hkl0 : ¬ (b.length : Int) ≤ 0 := by omega
        have hkl1 : ¬ b.length = 0 := by omega
        have hkl2 : ¬ b = [] := fun e => hkl1 (by rw [e]; rfl)
        by_cases hlt : C < 128
        · by_cases hC0 : C = 0
          · subst hC0
            rw [if_pos hlt, if_neg (by omega)] at hrd
            have hsv := sevens V 0 0 hV hc256 (by omega)
            rw [show ((128 ^ 0 : Nat) : Int) = 1 from rfl, Int.mul_one, show (((0 : Nat) : Nat) : Int) = 0 from rfl] at hsv
            have HSv := Lib.hid hsv
            have HRd := Lib.hid hrd
            clear hsv hrd
            go_wp2_with fail
            refine bodyPost_ret (results_tmp3 rfl _ _ _) rfl ?_
            rw [← HRd.out]
            exact ⟨congrArg (fun x => Ending.returned (.tuple #[.int .u64 x, .int .i64 ((0 + 1 : Nat) : Int), .int .i64 0])) HSv.out, Chg.refl _ _⟩
          · rw [if_pos hlt, if_neg (by omega)] at hrd
            have hlti : (C : Int) < 128 := by omega
            have hne : ¬ (C : Int) = 0 := by omega
            have hsv := sevens V C 0 hV hc256 (by omega)
            rw [show ((128 ^ 0 : Nat) : Int) = 1 from rfl, Int.mul_one, show C % 128 = C from Nat.mod_eq_of_lt hlt] at hsv
            have HSv := Lib.hid hsv
            have HRd := Lib.hid hrd
            clear hsv hrd hC0
            go_wp2_with fail
            refine bodyPost_ret (results_tmp3 rfl _ _ _) rfl ?_
            rw [← HRd.out]
            exact ⟨congrArg (fun x => Ending.returned (.tuple #[.int .u64 x, .int .i64 ((0 + 1 : Nat) : Int), .int .i64 0])) HSv.out, Chg.refl _ _⟩
        · rw [if_neg hlt] at hrd
          have hlti : ¬ (C : Int) < 128 := by omega
          have hsv := sevens V C 0 hV hc256 (by omega)
          rw [show ((128 ^ 0 : Nat) : Int) = 1 from rfl, Int.mul_one] at hsv
          have HSv := Lib.hid hsv
          have HRd := Lib.hid hrd
          have HV := Lib.hid hV
          have HJ := Lib.hid hj
          clear hsv hrd
          go_wp2_with fail
          refine ⟨⟨0 + 1, V + C % 128 * 128 ^ 0, rfl, congrArg (Value.int .u64) HSv.out, by omega, ?_, ?_, trivial⟩, by simp [intOf]⟩
          · have h2 := HV.out
            simp only [Nat.pow_zero, Nat.pow_one, Nat.mul_one, Nat.zero_add] at *
            omega
          · rw [show 10 - (0 + 1) = j from by have := HJ.out; omega]
            exact HRd.out
      · rw [if_neg (by omega)] at hrd
        by_cases hlt : C < 128
        · rw [if_pos hlt] at hrd
          have hlti : (C : Int) < 128 := by omega
          have hsv := sevens V C 1 hV hc256 (by omega)
          have hP : ((128 ^ 1 : Nat) : Int) = 128 := by decide
          rw [hP, show C % 128 = C from Nat.mod_eq_of_lt hlt] at hsv
          have HSv := Lib.hid hsv
          clear hsv hP
          by_cases hC0 : C = 0 ∧ 0 < (1 : Nat)
          · rw [if_pos hC0] at hrd
            obtain ⟨hC0, hK0⟩ := hC0
            subst hC0
            subst hrd
            go_wp2_with fail
            refine bodyPost_ret (results_tmp3 rfl _ _ _) rfl ?_
            exact ⟨rfl, Chg.refl _ _⟩
          · rw [if_neg hC0] at hrd
            have hC0i : (0 : Int) < 1 → ¬ (C : Int) = 0 := fun h h' => hC0 ⟨by omega, by omega⟩
            try simp only [Int.zero_lt_one, forall_const] at hC0i
            have hne : 1 = 0 ∨ ¬ (C : Int) = 0 := by omega
            have HRd := Lib.hid hrd
            clear hC0 hrd hC0i
            rcases hne with h0 | hne
            · first
                | exact absurd h0 (by decide)
                | (go_wp2_with fail
                   refine bodyPost_ret (results_tmp3 rfl _ _ _) rfl ?_
                   rw [← HRd.out]
                   exact ⟨congrArg (fun x => Ending.returned (.tuple #[.int .u64 x, .int .i64 ((1 + 1 : Nat) : Int), .int .i64 0])) HSv.out, Chg.refl _ _⟩)
            · go_wp2_with fail
              all_goals try refine bodyPost_ret (results_tmp3 rfl _ _ _) rfl ?_
              all_goals rw [← HRd.out]
              all_goals exact ⟨congrArg (fun x => Ending.returned (.tuple #[.int .u64 x, .int .i64 ((1 + 1 : Nat) : Int), .int .i64 0])) HSv.out, Chg.refl _ _⟩
        · rw [if_neg hlt] at hrd
          have hlti : ¬ (C : Int) < 128 := by omega
          have hsv := sevens V C 1 hV hc256 (by omega)
          have hP : ((128 ^ 1 : Nat) : Int) = 128 := by decide
          rw [hP] at hsv
          have HSv := Lib.hid hsv
          have HRd := Lib.hid hrd
          have HV := Lib.hid hV
          have HJ := Lib.hid hj
          clear hsv hP hrd
          go_wp2_with fail
          refine ⟨⟨1 + 1, V + C % 128 * 128 ^ 1, rfl, congrArg (Value.int .u64) HSv.out, by omega, ?_, ?_, trivial⟩, by simp [intOf]⟩
          · have h1 : C % 128 * 128 ^ 1 ≤ 127 * 128 ^ 1 := Nat.mul_le_mul_right _ (by omega)
            have h2 := HV.out
            rw [Nat.pow_succ]
            omega
          · rw [show 10 - (1 + 1) = j from by have := HJ.out; omega]
            exact HRd.out
      · rw [if_neg (by omega)] at hrd
        by_cases hlt : C < 128
        · rw [if_pos hlt] at hrd
          have hlti : (C : Int) < 128 := by omega
          have hsv := sevens V C 2 hV hc256 (by omega)
          have hP : ((128 ^ 2 : Nat) : Int) = 16384 := by decide
          rw [hP, show C % 128 = C from Nat.mod_eq_of_lt hlt] at hsv
          have HSv := Lib.hid hsv
          clear hsv hP
          by_cases hC0 : C = 0 ∧ 0 < (2 : Nat)
          · rw [if_pos hC0] at hrd
            obtain ⟨hC0, hK0⟩ := hC0
            subst hC0
            subst hrd
            go_wp2_with fail
            refine bodyPost_ret (results_tmp3 rfl _ _ _) rfl ?_
            exact ⟨rfl, Chg.refl _ _⟩
          · rw [if_neg hC0] at hrd
            have hC0i : (0 : Int) < 2 → ¬ (C : Int) = 0 := fun h h' => hC0 ⟨by omega, by omega⟩
            try simp only [Int.zero_lt_one, forall_const] at hC0i
            have hne : 2 = 0 ∨ ¬ (C : Int) = 0 := by omega
            have HRd := Lib.hid hrd
            clear hC0 hrd hC0i
            rcases hne with h0 | hne
            · first
                | exact absurd h0 (by decide)
                | (go_wp2_with fail
                   refine bodyPost_ret (results_tmp3 rfl _ _ _) rfl ?_
                   rw [← HRd.out]
                   exact ⟨congrArg (fun x => Ending.returned (.tuple #[.int .u64 x, .int .i64 ((2 + 1 : Nat) : Int), .int .i64 0])) HSv.out, Chg.refl _ _⟩)
            · go_wp2_with fail
              all_goals try refine bodyPost_ret (results_tmp3 rfl _ _ _) rfl ?_
              all_goals rw [← HRd.out]
              all_goals exact ⟨congrArg (fun x => Ending.returned (.tuple #[.int .u64 x, .int .i64 ((2 + 1 : Nat) : Int), .int .i64 0])) HSv.out, Chg.refl _ _⟩
        · rw [if_neg hlt] at hrd
          have hlti : ¬ (C : Int) < 128 := by omega
          have hsv := sevens V C 2 hV hc256 (by omega)
          have hP : ((128 ^ 2 : Nat) : Int) = 16384 := by decide
          rw [hP] at hsv
          have HSv := Lib.hid hsv
          have HRd := Lib.hid hrd
          have HV := Lib.hid hV
          have HJ := Lib.hid hj
          clear hsv hP hrd
          go_wp2_with fail
          refine ⟨⟨2 + 1, V + C % 128 * 128 ^ 2, rfl, congrArg (Value.int .u64) HSv.out, by omega, ?_, ?_, trivial⟩, by simp [intOf]⟩
          · have h1 : C % 128 * 128 ^ 2 ≤ 127 * 128 ^ 2 := Nat.mul_le_mul_right _ (by omega)
            have h2 := HV.out
            rw [Nat.pow_succ]
            omega
          · rw [show 10 - (2 + 1) = j from by have := HJ.out; omega]
            exact HRd.out
      · rw [if_neg (by omega)] at hrd
        by_cases hlt : C < 128
        · rw [if_pos hlt] at hrd
          have hlti : (C : Int) < 128 := by omega
          have hsv := sevens V C 3 hV hc256 (by omega)
          have hP : ((128 ^ 3 : Nat) : Int) = 2097152 := by decide
          rw [hP, show C % 128 = C from Nat.mod_eq_of_lt hlt] at hsv
          have HSv := Lib.hid hsv
          clear hsv hP
          by_cases hC0 : C = 0 ∧ 0 < (3 : Nat)
          · rw [if_pos hC0] at hrd
            obtain ⟨hC0, hK0⟩ := hC0
            subst hC0
            subst hrd
            go_wp2_with fail
            refine bodyPost_ret (results_tmp3 rfl _ _ _) rfl ?_
            exact ⟨rfl, Chg.refl _ _⟩
          · rw [if_neg hC0] at hrd
            have hC0i : (0 : Int) < 3 → ¬ (C : Int) = 0 := fun h h' => hC0 ⟨by omega, by omega⟩
            try simp only [Int.zero_lt_one, forall_const] at hC0i
            have hne : 3 = 0 ∨ ¬ (C : Int) = 0 := by omega
            have HRd := Lib.hid hrd
            clear hC0 hrd hC0i
            rcases hne with h0 | hne
            · first
                | exact absurd h0 (by decide)
                | (go_wp2_with fail
                   refine bodyPost_ret (results_tmp3 rfl _ _ _) rfl ?_
                   rw [← HRd.out]
                   exact ⟨congrArg (fun x => Ending.returned (.tuple #[.int .u64 x, .int .i64 ((3 + 1 : Nat) : Int), .int .i64 0])) HSv.out, Chg.refl _ _⟩)
            · go_wp2_with fail
              all_goals try refine bodyPost_ret (results_tmp3 rfl _ _ _) rfl ?_
              all_goals rw [← HRd.out]
              all_goals exact ⟨congrArg (fun x => Ending.returned (.tuple #[.int .u64 x, .int .i64 ((3 + 1 : Nat) : Int), .int .i64 0])) HSv.out, Chg.refl _ _⟩
        · rw [if_neg hlt] at hrd
          have hlti : ¬ (C : Int) < 128 := by omega
          have hsv := sevens V C 3 hV hc256 (by omega)
          have hP : ((128 ^ 3 : Nat) : Int) = 2097152 := by decide
          rw [hP] at hsv
          have HSv := Lib.hid hsv
          have HRd := Lib.hid hrd
          have HV := Lib.hid hV
          have HJ := Lib.hid hj
          clear hsv hP hrd
          go_wp2_with fail
          refine ⟨⟨3 + 1, V + C % 128 * 128 ^ 3, rfl, congrArg (Value.int .u64) HSv.out, by omega, ?_, ?_, trivial⟩, by simp [intOf]⟩
          · have h1 : C % 128 * 128 ^ 3 ≤ 127 * 128 ^ 3 := Nat.mul_le_mul_right _ (by omega)
            have h2 := HV.out
            rw [Nat.pow_succ]
            omega
          · rw [show 10 - (3 + 1) = j from by have := HJ.out; omega]
            exact HRd.out
      · rw [if_neg (by omega)] at hrd
        by_cases hlt : C < 128
        · rw [if_pos hlt] at hrd
          have hlti : (C : Int) < 128 := by omega
          have hsv := sevens V C 4 hV hc256 (by omega)
          have hP : ((128 ^ 4 : Nat) : Int) = 268435456 := by decide
          rw [hP, show C % 128 = C from Nat.mod_eq_of_lt hlt] at hsv
          have HSv := Lib.hid hsv
          clear hsv hP
          by_cases hC0 : C = 0 ∧ 0 < (4 : Nat)
          · rw [if_pos hC0] at hrd
            obtain ⟨hC0, hK0⟩ := hC0
            subst hC0
            subst hrd
            go_wp2_with fail
            refine bodyPost_ret (results_tmp3 rfl _ _ _) rfl ?_
            exact ⟨rfl, Chg.refl _ _⟩
          · rw [if_neg hC0] at hrd
            have hC0i : (0 : Int) < 4 → ¬ (C : Int) = 0 := fun h h' => hC0 ⟨by omega, by omega⟩
            try simp only [Int.zero_lt_one, forall_const] at hC0i
            have hne : 4 = 0 ∨ ¬ (C : Int) = 0 := by omega
            have HRd := Lib.hid hrd
            clear hC0 hrd hC0i
            rcases hne with h0 | hne
            · first
                | exact absurd h0 (by decide)
                | (go_wp2_with fail
                   refine bodyPost_ret (results_tmp3 rfl _ _ _) rfl ?_
                   rw [← HRd.out]
                   exact ⟨congrArg (fun x => Ending.returned (.tuple #[.int .u64 x, .int .i64 ((4 + 1 : Nat) : Int), .int .i64 0])) HSv.out, Chg.refl _ _⟩)
            · go_wp2_with fail
              all_goals try refine bodyPost_ret (results_tmp3 rfl _ _ _) rfl ?_
              all_goals rw [← HRd.out]
              all_goals exact ⟨congrArg (fun x => Ending.returned (.tuple #[.int .u64 x, .int .i64 ((4 + 1 : Nat) : Int), .int .i64 0])) HSv.out, Chg.refl _ _⟩
        · rw [if_neg hlt] at hrd
          have hlti : ¬ (C : Int) < 128 := by omega
          have hsv := sevens V C 4 hV hc256 (by omega)
          have hP : ((128 ^ 4 : Nat) : Int) = 268435456 := by decide
          rw [hP] at hsv
          have HSv := Lib.hid hsv
          have HRd := Lib.hid hrd
          have HV := Lib.hid hV
          have HJ := Lib.hid hj
          clear hsv hP hrd
          go_wp2_with fail
          refine ⟨⟨4 + 1, V + C % 128 * 128 ^ 4, rfl, congrArg (Value.int .u64) HSv.out, by omega, ?_, ?_, trivial⟩, by simp [intOf]⟩
          · have h1 : C % 128 * 128 ^ 4 ≤ 127 * 128 ^ 4 := Nat.mul_le_mul_right _ (by omega)
            have h2 := HV.out
            rw [Nat.pow_succ]
            omega
          · rw [show 10 - (4 + 1) = j from by have := HJ.out; omega]
            exact HRd.out
      · rw [if_neg (by omega)] at hrd
        by_cases hlt : C < 128
        · rw [if_pos hlt] at hrd
          have hlti : (C : Int) < 128 := by omega
          have hsv := sevens V C 5 hV hc256 (by omega)
          have hP : ((128 ^ 5 : Nat) : Int) = 34359738368 := by decide
          rw [hP, show C % 128 = C from Nat.mod_eq_of_lt hlt] at hsv
          have HSv := Lib.hid hsv
          clear hsv hP
          by_cases hC0 : C = 0 ∧ 0 < (5 : Nat)
          · rw [if_pos hC0] at hrd
            obtain ⟨hC0, hK0⟩ := hC0
            subst hC0
            subst hrd
            go_wp2_with fail
            refine bodyPost_ret (results_tmp3 rfl _ _ _) rfl ?_
            exact ⟨rfl, Chg.refl _ _⟩
          · rw [if_neg hC0] at hrd
            have hC0i : (0 : Int) < 5 → ¬ (C : Int) = 0 := fun h h' => hC0 ⟨by omega, by omega⟩
            try simp only [Int.zero_lt_one, forall_const] at hC0i
            have hne : 5 = 0 ∨ ¬ (C : Int) = 0 := by omega
            have HRd := Lib.hid hrd
            clear hC0 hrd hC0i
            rcases hne with h0 | hne
            · first
                | exact absurd h0 (by decide)
                | (go_wp2_with fail
                   refine bodyPost_ret (results_tmp3 rfl _ _ _) rfl ?_
                   rw [← HRd.out]
                   exact ⟨congrArg (fun x => Ending.returned (.tuple #[.int .u64 x, .int .i64 ((5 + 1 : Nat) : Int), .int .i64 0])) HSv.out, Chg.refl _ _⟩)
            · go_wp2_with fail
              all_goals try refine bodyPost_ret (results_tmp3 rfl _ _ _) rfl ?_
              all_goals rw [← HRd.out]
              all_goals exact ⟨congrArg (fun x => Ending.returned (.tuple #[.int .u64 x, .int .i64 ((5 + 1 : Nat) : Int), .int .i64 0])) HSv.out, Chg.refl _ _⟩
        · rw [if_neg hlt] at hrd
          have hlti : ¬ (C : Int) < 128 := by omega
          have hsv := sevens V C 5 hV hc256 (by omega)
          have hP : ((128 ^ 5 : Nat) : Int) = 34359738368 := by decide
          rw [hP] at hsv
          have HSv := Lib.hid hsv
          have HRd := Lib.hid hrd
          have HV := Lib.hid hV
          have HJ := Lib.hid hj
          clear hsv hP hrd
          go_wp2_with fail
          refine ⟨⟨5 + 1, V + C % 128 * 128 ^ 5, rfl, congrArg (Value.int .u64) HSv.out, by omega, ?_, ?_, trivial⟩, by simp [intOf]⟩
          · have h1 : C % 128 * 128 ^ 5 ≤ 127 * 128 ^ 5 := Nat.mul_le_mul_right _ (by omega)
            have h2 := HV.out
            rw [Nat.pow_succ]
            omega
          · rw [show 10 - (5 + 1) = j from by have := HJ.out; omega]
            exact HRd.out
      · rw [if_neg (by omega)] at hrd
        by_cases hlt : C < 128
        · rw [if_pos hlt] at hrd
          have hlti : (C : Int) < 128 := by omega
          have hsv := sevens V C 6 hV hc256 (by omega)
          have hP : ((128 ^ 6 : Nat) : Int) = 4398046511104 := by decide
          rw [hP, show C % 128 = C from Nat.mod_eq_of_lt hlt] at hsv
          have HSv := Lib.hid hsv
          clear hsv hP
          by_cases hC0 : C = 0 ∧ 0 < (6 : Nat)
          · rw [if_pos hC0] at hrd
            obtain ⟨hC0, hK0⟩ := hC0
            subst hC0
            subst hrd
            go_wp2_with fail
            refine bodyPost_ret (results_tmp3 rfl _ _ _) rfl ?_
            exact ⟨rfl, Chg.refl _ _⟩
          · rw [if_neg hC0] at hrd
            have hC0i : (0 : Int) < 6 → ¬ (C : Int) = 0 := fun h h' => hC0 ⟨by omega, by omega⟩
            try simp only [Int.zero_lt_one, forall_const] at hC0i
            have hne : 6 = 0 ∨ ¬ (C : Int) = 0 := by omega
            have HRd := Lib.hid hrd
            clear hC0 hrd hC0i
            rcases hne with h0 | hne
            · first
                | exact absurd h0 (by decide)
                | (go_wp2_with fail
                   refine bodyPost_ret (results_tmp3 rfl _ _ _) rfl ?_
                   rw [← HRd.out]
                   exact ⟨congrArg (fun x => Ending.returned (.tuple #[.int .u64 x, .int .i64 ((6 + 1 : Nat) : Int), .int .i64 0])) HSv.out, Chg.refl _ _⟩)
            · go_wp2_with fail
              all_goals try refine bodyPost_ret (results_tmp3 rfl _ _ _) rfl ?_
              all_goals rw [← HRd.out]
              all_goals exact ⟨congrArg (fun x => Ending.returned (.tuple #[.int .u64 x, .int .i64 ((6 + 1 : Nat) : Int), .int .i64 0])) HSv.out, Chg.refl _ _⟩
        · rw [if_neg hlt] at hrd
          have hlti : ¬ (C : Int) < 128 := by omega
          have hsv := sevens V C 6 hV hc256 (by omega)
          have hP : ((128 ^ 6 : Nat) : Int) = 4398046511104 := by decide
          rw [hP] at hsv
          have HSv := Lib.hid hsv
          have HRd := Lib.hid hrd
          have HV := Lib.hid hV
          have HJ := Lib.hid hj
          clear hsv hP hrd
          go_wp2_with fail
          refine ⟨⟨6 + 1, V + C % 128 * 128 ^ 6, rfl, congrArg (Value.int .u64) HSv.out, by omega, ?_, ?_, trivial⟩, by simp [intOf]⟩
          · have h1 : C % 128 * 128 ^ 6 ≤ 127 * 128 ^ 6 := Nat.mul_le_mul_right _ (by omega)
            have h2 := HV.out
            rw [Nat.pow_succ]
            omega
          · rw [show 10 - (6 + 1) = j from by have := HJ.out; omega]
            exact HRd.out
      · rw [if_neg (by omega)] at hrd
        by_cases hlt : C < 128
        · rw [if_pos hlt] at hrd
          have hlti : (C : Int) < 128 := by omega
          have hsv := sevens V C 7 hV hc256 (by omega)
          have hP : ((128 ^ 7 : Nat) : Int) = 562949953421312 := by decide
          rw [hP, show C % 128 = C from Nat.mod_eq_of_lt hlt] at hsv
          have HSv := Lib.hid hsv
          clear hsv hP
          by_cases hC0 : C = 0 ∧ 0 < (7 : Nat)
          · rw [if_pos hC0] at hrd
            obtain ⟨hC0, hK0⟩ := hC0
            subst hC0
            subst hrd
            go_wp2_with fail
            refine bodyPost_ret (results_tmp3 rfl _ _ _) rfl ?_
            exact ⟨rfl, Chg.refl _ _⟩
          · rw [if_neg hC0] at hrd
            have hC0i : (0 : Int) < 7 → ¬ (C : Int) = 0 := fun h h' => hC0 ⟨by omega, by omega⟩
            try simp only [Int.zero_lt_one, forall_const] at hC0i
            have hne : 7 = 0 ∨ ¬ (C : Int) = 0 := by omega
            have HRd := Lib.hid hrd
            clear hC0 hrd hC0i
            rcases hne with h0 | hne
            · first
                | exact absurd h0 (by decide)
                | (go_wp2_with fail
                   refine bodyPost_ret (results_tmp3 rfl _ _ _) rfl ?_
                   rw [← HRd.out]
                   exact ⟨congrArg (fun x => Ending.returned (.tuple #[.int .u64 x, .int .i64 ((7 + 1 : Nat) : Int), .int .i64 0])) HSv.out, Chg.refl _ _⟩)
            · go_wp2_with fail
              all_goals try refine bodyPost_ret (results_tmp3 rfl _ _ _) rfl ?_
              all_goals rw [← HRd.out]
              all_goals exact ⟨congrArg (fun x => Ending.returned (.tuple #[.int .u64 x, .int .i64 ((7 + 1 : Nat) : Int), .int .i64 0])) HSv.out, Chg.refl _ _⟩
        · rw [if_neg hlt] at hrd
          have hlti : ¬ (C : Int) < 128 := by omega
          have hsv := sevens V C 7 hV hc256 (by omega)
          have hP : ((128 ^ 7 : Nat) : Int) = 562949953421312 := by decide
          rw [hP] at hsv
          have HSv := Lib.hid hsv
          have HRd := Lib.hid hrd
          have HV := Lib.hid hV
          have HJ := Lib.hid hj
          clear hsv hP hrd
          go_wp2_with fail
          refine ⟨⟨7 + 1, V + C % 128 * 128 ^ 7, rfl, congrArg (Value.int .u64) HSv.out, by omega, ?_, ?_, trivial⟩, by simp [intOf]⟩
          · have h1 : C % 128 * 128 ^ 7 ≤ 127 * 128 ^ 7 := Nat.mul_le_mul_right _ (by omega)
            have h2 := HV.out
            rw [Nat.pow_succ]
            omega
          · rw [show 10 - (7 + 1) = j from by have := HJ.out; omega]
            exact HRd.out
      · rw [if_neg (by omega)] at hrd
        by_cases hlt : C < 128
        · rw [if_pos hlt] at hrd
          have hlti : (C : Int) < 128 := by omega
          have hsv := sevens V C 8 hV hc256 (by omega)
          have hP : ((128 ^ 8 : Nat) : Int) = 72057594037927936 := by decide
          rw [hP, show C % 128 = C from Nat.mod_eq_of_lt hlt] at hsv
          have HSv := Lib.hid hsv
          clear hsv hP
          by_cases hC0 : C = 0 ∧ 0 < (8 : Nat)
          · rw [if_pos hC0] at hrd
            obtain ⟨hC0, hK0⟩ := hC0
            subst hC0
            subst hrd
            go_wp2_with fail
            refine bodyPost_ret (results_tmp3 rfl _ _ _) rfl ?_
            exact ⟨rfl, Chg.refl _ _⟩
          · rw [if_neg hC0] at hrd
            have hC0i : (0 : Int) < 8 → ¬ (C : Int) = 0 := fun h h' => hC0 ⟨by omega, by omega⟩
            try simp only [Int.zero_lt_one, forall_const] at hC0i
            have hne : 8 = 0 ∨ ¬ (C : Int) = 0 := by omega
            have HRd := Lib.hid hrd
            clear hC0 hrd hC0i
            rcases hne with h0 | hne
            · first
                | exact absurd h0 (by decide)
                | (go_wp2_with fail
                   refine bodyPost_ret (results_tmp3 rfl _ _ _) rfl ?_
                   rw [← HRd.out]
                   exact ⟨congrArg (fun x => Ending.returned (.tuple #[.int .u64 x, .int .i64 ((8 + 1 : Nat) : Int), .int .i64 0])) HSv.out, Chg.refl _ _⟩)
            · go_wp2_with fail
              all_goals try refine bodyPost_ret (results_tmp3 rfl _ _ _) rfl ?_
              all_goals rw [← HRd.out]
              all_goals exact ⟨congrArg (fun x => Ending.returned (.tuple #[.int .u64 x, .int .i64 ((8 + 1 : Nat) : Int), .int .i64 0])) HSv.out, Chg.refl _ _⟩
        · rw [if_neg hlt] at hrd
          have hlti : ¬ (C : Int) < 128 := by omega
          have hsv := sevens V C 8 hV hc256 (by omega)
          have hP : ((128 ^ 8 : Nat) : Int) = 72057594037927936 := by decide
          rw [hP] at hsv
          have HSv := Lib.hid hsv
          have HRd := Lib.hid hrd
          have HV := Lib.hid hV
          have HJ := Lib.hid hj
          clear hsv hP hrd
          go_wp2_with fail
          refine ⟨⟨8 + 1, V + C % 128 * 128 ^ 8, rfl, congrArg (Value.int .u64) HSv.out, by omega, ?_, ?_, trivial⟩, by simp [intOf]⟩
          · have h1 : C % 128 * 128 ^ 8 ≤ 127 * 128 ^ 8 := Nat.mul_le_mul_right _ (by omega)
            have h2 := HV.out
            rw [Nat.pow_succ]
            omega
          · rw [show 10 - (8 + 1) = j from by have := HJ.out; omega]
            exact HRd.out
      · by_cases h1c : 1 < C
        · have h1i : (1 : Int) < (C : Int) := by omega
          rw [if_pos ⟨rfl, h1c⟩] at hrd
          subst hrd
          go_wp2_with fail
          refine bodyPost_ret (results_tmp3 rfl _ _ _) rfl ?_
          exact ⟨rfl, Chg.refl _ _⟩
        · have h1i : ¬ (1 : Int) < (C : Int) := by omega
          rw [if_neg (fun h => h1c h.2)] at hrd
          have hlt : C < 128 := by omega
          rw [if_pos hlt] at hrd
          have hlti : (C : Int) < 128 := by omega
          have hsv := sevens V C 9 hV hc256 (by omega)
          have hP : ((128 ^ 9 : Nat) : Int) = 9223372036854775808 := by decide
          rw [hP, show C % 128 = C from Nat.mod_eq_of_lt hlt] at hsv
          have HSv := Lib.hid hsv
          clear hsv hP
          by_cases hC0 : C = 0 ∧ 0 < (9 : Nat)
          · rw [if_pos hC0] at hrd
            obtain ⟨hC0, hK0⟩ := hC0
            subst hC0
            subst hrd
            go_wp2_with fail
            refine bodyPost_ret (results_tmp3 rfl _ _ _) rfl ?_
            exact ⟨rfl, Chg.refl _ _⟩
          · rw [if_neg hC0] at hrd
            have hC0i : (0 : Int) < 9 → ¬ (C : Int) = 0 := fun h h' => hC0 ⟨by omega, by omega⟩
            try simp only [Int.zero_lt_one, forall_const] at hC0i
            have hne : 9 = 0 ∨ ¬ (C : Int) = 0 := by omega
            have HRd := Lib.hid hrd
            clear hC0 hrd hC0i
            rcases hne with h0 | hne
            · first
                | exact absurd h0 (by decide)
                | (go_wp2_with fail
                   refine bodyPost_ret (results_tmp3 rfl _ _ _) rfl ?_
                   rw [← HRd.out]
                   exact ⟨congrArg (fun x => Ending.returned (.tuple #[.int .u64 x, .int .i64 ((9 + 1 : Nat) : Int), .int .i64 0])) HSv.out, Chg.refl _ _⟩)
            · go_wp2_with fail
              all_goals try refine bodyPost_ret (results_tmp3 rfl _ _ _) rfl ?_
              all_goals rw [← HRd.out]
              all_goals exact ⟨congrArg (fun x => Ending.returned (.tuple #[.int .u64 x, .int .i64 ((9 + 1 : Nat) : Int), .int .i64 0])) HSv.out, Chg.refl _ _⟩
    · have hkli : (b.length : Int) ≤ (k : Int) := by omega
      rw [List.drop_eq_nil_of_le (by omega), rdN] at hrd
      subst hrd
      go_wp2_with fail
      refine bodyPost_ret (results_tmp3 rfl _ _ _) rfl ?_
      exact ⟨rfl, Chg.refl _ _⟩
  · have hki : ¬ (k : Int) < 10 := by omega
    obtain rfl : k = 10 := by omega
    rw [show 10 - 10 = 0 from rfl, rdN] at hrd
    subst hrd
    go_wp2_with fail
    refine bodyPost_ret (results_tmp3 rfl _ _ _) rfl ?_
    exact ⟨rfl, Chg.refl _ _⟩

end Go.Proofs.YtbkefhoapnaciaaGreat.kvs
end

/-
  kv: may, text, change.
-/
section
set_option linter.unusedSimpArgs false
set_option linter.unusedVariables false
namespace Go.Proofs.YtbkefhoapnaciaaGreat.kvs
open Go.RowKit Go.My disks bufs wals
set_option maxRecDepth 100000

variable {w w' : World}

def PV.row (p : PV) : List Value := [strV p.key, strV p.val, .bool p.gone]

theorem str_size (b : Txt) (s : ByteArray) (h : strV b = .string s) : s.size = b.length := by
  have : Value.string (⟨b.toArray⟩ : ByteArray) = .string s := h
  simp only [Value.string.injEq] at this
  rw [← this]; simp [ByteArray.size]
theorem str_nil (b : Txt) (s : ByteArray) (h : strV b = .string s) : (s.toList == ([] : List UInt8)) = decide (b = []) := by
  have : Value.string (⟨b.toArray⟩ : ByteArray) = .string s := h
  simp only [Value.string.injEq] at this
  rw [← this, Lib.toList_data]
  cases b <;> simp


theorem may_any (w : World) (p : PV) : Calls Tryz.prog 31 #[.agg p.row.toArray] w fun e w' => e = .returned (.bool p.may) ∧ Chg (fun _ => False) w w' := by
  obtain ⟨key, val, gone⟩ := p
  unfold PV.row PV.may
  simp only
  obtain ⟨sk, hsk⟩ : ∃ s : ByteArray, strV key = .string s := ⟨_, rfl⟩
  obtain ⟨sv, hsv⟩ : ∃ s : ByteArray, strV val = .string s := ⟨_, rfl⟩
  have h1 := str_size key sk hsk
  have h2 := str_size val sv hsv
  have h3 := str_nil val sv hsv
  rw [hsk, hsv]
  have hca : Chg (fun _ => False) w (w.alloc (.cells #[.string sk, .string sv, .bool gone] 45)) := (Chg.refl _ _).alloc _
  have HCa := Lib.hid hca
  clear hca hsk hsv
  by_cases a1 : 0 < key.length
  · have i1 : (0 : Int) < (sk.size : Int) := by omega
    by_cases a2 : key.length ≤ 64
    · have i2 : (sk.size : Int) ≤ 64 := by omega
      by_cases a3 : val.length ≤ 1024
      · have i3 : (sv.size : Int) ≤ 1024 := by omega
        by_cases a4 : val = []
        · have i4 : (sv.toList == ([] : List UInt8)) = true := by rw [h3]; simpa using a4
          have HA := Lib.hid (And.intro a1 (And.intro a2 (And.intro a3 a4)))
          clear h1 h2 h3 a1 a2 a3 a4
          cases gone
          · go_enter Tryz.func31, Tryz.ntmps31
            go_wp2_with fail
            go_ret
            exact ⟨by have := HA.out; simp [this], HCa.out⟩
          · go_enter Tryz.func31, Tryz.ntmps31
            go_wp2_with fail
            go_ret
            exact ⟨by have := HA.out; simp [this], HCa.out⟩
        · have i4 : (sv.toList == ([] : List UInt8)) = false := by rw [h3]; simpa using a4
          have HA := Lib.hid (And.intro a1 (And.intro a2 (And.intro a3 a4)))
          clear h1 h2 h3 a1 a2 a3 a4
          cases gone
          · go_enter Tryz.func31, Tryz.ntmps31
            go_wp2_with fail
            go_ret
            exact ⟨by have := HA.out; simp [this], HCa.out⟩
          · go_enter Tryz.func31, Tryz.ntmps31
            go_wp2_with fail
            go_ret
            exact ⟨by have := HA.out; simp [this], HCa.out⟩
      · have i3 : ¬ (sv.size : Int) ≤ 1024 := by omega
        have HA := Lib.hid (And.intro a1 (And.intro a2 a3))
        clear h1 h2 h3 a1 a2 a3
        cases gone
        · go_enter Tryz.func31, Tryz.ntmps31
          go_wp2_with fail
          go_ret
          exact ⟨by have := HA.out; simp [this], HCa.out⟩
        · go_enter Tryz.func31, Tryz.ntmps31
          go_wp2_with fail
          go_ret
          exact ⟨by have := HA.out; simp [this], HCa.out⟩
    · have i2 : ¬ (sk.size : Int) ≤ 64 := by omega
      have HA := Lib.hid (And.intro a1 a2)
      clear h1 h2 h3 a1 a2
      cases gone
      · go_enter Tryz.func31, Tryz.ntmps31
        go_wp2_with fail
        go_ret
        exact ⟨by have := HA.out; simp [this], HCa.out⟩
      · go_enter Tryz.func31, Tryz.ntmps31
        go_wp2_with fail
        go_ret
        exact ⟨by have := HA.out; simp [this], HCa.out⟩
  · have i1 : ¬ (0 : Int) < (sk.size : Int) := by omega
    have HA := Lib.hid a1
    clear h1 h2 h3 a1
    cases gone
    · go_enter Tryz.func31, Tryz.ntmps31
      go_wp2_with fail
      go_ret
      exact ⟨by have := HA.out; simp [this], HCa.out⟩
    · go_enter Tryz.func31, Tryz.ntmps31
      go_wp2_with fail
      go_ret
      exact ⟨by have := HA.out; simp [this], HCa.out⟩

end Go.Proofs.YtbkefhoapnaciaaGreat.kvs
end

/-
  kv: strings.Builder: copyCheck, Len, Write, WriteString, String. After the kit's Builder1 (its theorems are over the shelf's numbering), said with Chg.
-/
section
set_option linter.unusedSimpArgs false
set_option linter.unusedVariables false
namespace Go.Proofs.YtbkefhoapnaciaaGreat.kvs
open Go.RowKit Go.My disks bufs wals
set_option maxRecDepth 100000

variable {w w' : World}

abbrev IsB (B b : Nat) (bs : Txt) (w : World) : Prop := Lib.IsBuilder 78 5 B b (cellsB bs) w
abbrev UsedB (B b : Nat) (bs : Txt) (w : World) : Prop := Lib.BuilderAt 78 5 B b (.pointer (some ⟨b, 0, none⟩)) (cellsB bs) w

theorem size_builder : (Tryz.prog.info? 78).map (·.size) = some 2 := by kernel_rfl
theorem lies_builder : liesAt Tryz.prog Tryz.prog.depth 78 (2 / Tryz.prog.cellsOf 78) 0 78 1 = true := by kernel_rfl
theorem cells_u8 : Tryz.prog.cellsOf 5 = 1 := by kernel_rfl

set_option maxHeartbeats 1000000 in
theorem check_used (b : Nat) (w : World) (h0 : w.cell? ⟨b, 0, none⟩ = some (.pointer (some ⟨b, 0, none⟩))) :
    Calls Tryz.prog 58 #[.pointer (some ⟨b, 0, none⟩)] w fun e w' => e = .returned (.tuple #[]) ∧ w' = w := by
  obtain ⟨j, hj, _⟩ := Option.map_eq_some_iff.1 size_builder
  go_enter Tryz.func58, Tryz.ntmps58
  go_wp2_with fail
  rw [Lib.run_neq_ptr_same w _ Tryz.underlying75 hj]
  go_wp2_with fail
  go_end0
  exact ⟨rfl, rfl⟩

set_option maxHeartbeats 1000000 in
theorem check_fresh (b : Nat) (w : World) (h0 : w.cell? ⟨b, 0, none⟩ = some (.pointer none)) (hsh : w.shape? b = some (78, 2)) (hfz : w.frozen? ⟨b, 0, none⟩ = false) :
    Calls Tryz.prog 58 #[.pointer (some ⟨b, 0, none⟩)] w fun e w' => e = .returned (.tuple #[]) ∧ w' = w.setCell ⟨b, 0, none⟩ (.pointer (some ⟨b, 0, none⟩)) := by
  obtain ⟨j, hj, hjs⟩ := Option.map_eq_some_iff.1 size_builder
  go_enter Tryz.func58, Tryz.ntmps58
  go_wp2_with fail
  rw [Lib.run_to_unsafe w ⟨b, 0, none⟩ Tryz.underlying75 Tryz.underlying132 hj (by rw [hjs]; decide) hsh (Nat.zero_lt_succ 1)]
  simp only [Result.andThen]
  rw [Oper.upon_value]
  go_wp2_with fail
  rw [run_callFunc_extern Tryz.func78 (by kernel_rfl) (by kernel_rfl) (by kernel_rfl) (e := Extern.AbiNoEscape.same) (by kernel_rfl)]
  rw [Lib.run_noEscape]
  simp only [Result.andThen]
  rw [Oper.upon_value]
  go_wp2_with fail
  rw [Lib.run_from_unsafe w ⟨b, 0, none⟩ Tryz.underlying132 Tryz.underlying75 hj hsh lies_builder]
  simp only [Result.andThen]
  rw [Oper.upon_value]
  go_wp2_with fail
  go_end0
  exact ⟨rfl, rfl⟩

/-- Behind it the builder is used: its own address stands in it. -/
theorem check_any {B b : Nat} {bs : Txt} (w : World) (h : IsB B b bs w) :
    Calls Tryz.prog 58 #[.pointer (some ⟨b, 0, none⟩)] w fun e w' => e = .returned (.tuple #[]) ∧ UsedB B b bs w' ∧ Chg (· = b) w w' := by
  rcases h with h | h
  · refine (check_fresh b w h.cell0 h.shape h.frozen0).mono ?_
    rintro e w' ⟨rfl, rfl⟩
    exact ⟨rfl, h.used _, (Chg.refl (· = b) w).setCell (p := ⟨b, 0, none⟩) (fun _ => rfl) _⟩
  · refine (check_used b w h.cell0).mono ?_
    rintro e w' ⟨rfl, rfl⟩
    exact ⟨rfl, h, Chg.refl _ _⟩

set_option maxHeartbeats 1000000 in
theorem blen_any {B b : Nat} {bs : Txt} (w : World) (h : UsedB B b bs w) :
    Calls Tryz.prog 36 #[.pointer (some ⟨b, 0, none⟩)] w fun e w' => e = .returned (.int .i64 (bs.length : Int)) ∧ w' = w := by
  obtain ⟨hB, v, hbk, hown, hne⟩ := h
  rw [cellsB_length] at hown
  obtain ⟨ao, cap, rfl⟩ : ∃ ao cap, v = .slice ao bs.length cap := own_slice hown
  have c1 : w.cell? ⟨b, 1, none⟩ = some (.slice ao bs.length cap) := by rw [Lib.cell_of_heap hbk]; rfl
  clear hbk hown hne
  go_enter Tryz.func36, Tryz.ntmps36
  go_wp2_with fail
  go_ret
  exact ⟨rfl, rfl⟩

theorem neB : (78 : TypeId) ≠ 5 := by decide

/-- An append onto the buffer, laid into the builder. -/
theorem put_grown {B b : Nat} {cs : Txt} {v v' : Value} {n : Nat} {w1 w2 : World} (hB : B ≤ b) (hbk : w1.heap[b]? = some (.cells #[.pointer (some ⟨b, 0, none⟩), v] 78 (0, 0)))
    (hown : w2.ownsRow B 5 1 v' n (cellsB cs)) (hn : n = cs.length) (hg : Chg (fun k => some k = v.ownBlock) w1 w2) (hne : v.ownBlock ≠ some b) :
    w2.heap[b]? = some (.cells #[.pointer (some ⟨b, 0, none⟩), v] 78 (0, 0)) ∧ UsedB B b cs (w2.setCell ⟨b, 1, none⟩ v') := by
  have hb2 : w2.heap[b]? = some (.cells #[.pointer (some ⟨b, 0, none⟩), v] 78 (0, 0)) := hg.at hbk (fun e => hne e.symm)
  exact ⟨hb2, Lib.BuilderAt.put (T := 78) (e := 5) hB hb2 (bs' := cellsB cs) (by rw [cellsB_length, ← hn]; exact hown) neB⟩

theorem append_string {base n : Nat} {v : Value} {xs : Txt} {s : ByteArray} (h : w.ownsRow base 5 1 v n (cellsB xs)) (hb : base ≤ w.heap.size) (hl : xs.length + s.size ≤ 140737488355328) (ty : TypeId) :
    ∃ v' w', (Builtin.append_ #[76, 9] ty #[v, .string s]).run Tryz.prog w = .ok v' w' ∧ w'.ownsRow base 5 1 v' (xs ++ s.data.toList).length (cellsB (xs ++ s.data.toList)) ∧ Chg (fun k => some k = v.ownBlock) w w' := by
  obtain ⟨i, hi, hz, hs, hby⟩ := u8_parts
  have hn := own_len h
  obtain ⟨v', w', h1, h2, h3, -⟩ := Lib.run_append_own_string (P := Tryz.prog) w base 76 9 ty 5 i Tryz.underlying76 Tryz.underlying9 hi hz hs hby v n (cellsB xs) h s (by unfold maxLen; omega) (by omega) hb
  refine ⟨v', w', h1, ?_, Chg.of_grown h3⟩
  have e1 : (xs ++ s.data.toList).length = n + s.size := by rw [List.length_append, hn]; rfl
  have e2 : cellsB (xs ++ s.data.toList) = cellsB xs ++ Lib.strCells s := by simp [cellsB, Lib.strCells]
  rw [e1, e2]
  exact h2

theorem append_slice {base n : Nat} {v : Value} {xs ys : Txt} {oa : Option Addr} {m cap : Nat} (h : w.ownsRow base 5 1 v n (cellsB xs)) (hs : SlAt w (.slice oa m cap) (cellsB ys)) (hb : base ≤ w.heap.size) (hl : xs.length + ys.length ≤ 140737488355328) (ty : TypeId) :
    ∃ v' w', (Builtin.append_ #[76, 76] ty #[v, .slice oa m cap]).run Tryz.prog w = .ok v' w' ∧ w'.ownsRow base 5 1 v' (xs ++ ys).length (cellsB (xs ++ ys)) ∧ Chg (fun k => some k = v.ownBlock) w w' := by
  obtain ⟨v', w', h1, h2, h3, -⟩ := append_bytes h hs hb hl ty
  exact ⟨v', w', h1, h2, Chg.of_grown h3⟩

set_option maxHeartbeats 2000000 in
theorem writeString_any {B b : Nat} {bs : Txt} (w : World) (h : IsB B b bs w) (hBw : B ≤ w.heap.size) (t : Txt) (hl : bs.length + t.length ≤ 1000000) :
    Calls Tryz.prog 34 #[.pointer (some ⟨b, 0, none⟩), strV t] w fun e w' => (∃ v, e = .returned v) ∧ UsedB B b (bs ++ t) w' ∧ Chg (fun k => B ≤ k) w w' := by
  obtain ⟨s, hs⟩ : ∃ s : ByteArray, strV t = .string s := ⟨_, rfl⟩
  have hsz := str_size t s hs
  have hst : s.data.toList = t := by
    have : Value.string (⟨t.toArray⟩ : ByteArray) = .string s := hs
    simp only [Value.string.injEq] at this
    rw [← this]
  rw [hs]
  clear hs
  go_enter Tryz.func34, Tryz.ntmps34
  go_wp2_with (go_at_call 58; refine (check_any _ h).mono ?_)
  rintro e w1 ⟨rfl, h1, hb1⟩
  obtain ⟨hB, v, hbk, hown, hne⟩ := h1
  rw [cellsB_length] at hown
  have c0 : w1.cell? ⟨b, 0, none⟩ = some (.pointer (some ⟨b, 0, none⟩)) := by rw [Lib.cell_of_heap hbk]; rfl
  have c1 : w1.cell? ⟨b, 1, none⟩ = some v := by rw [Lib.cell_of_heap hbk]; rfl
  obtain ⟨v2, w2, hr, ho, hg⟩ := append_string (s := s) hown (by have := hb1.size; omega) (by omega) 76
  obtain ⟨hb2, hU⟩ := put_grown hB hbk ho rfl hg hne
  have d0 : w2.cell? ⟨b, 0, none⟩ = some (.pointer (some ⟨b, 0, none⟩)) := by rw [Lib.cell_of_heap hb2]; rfl
  have d1 : w2.cell? ⟨b, 1, none⟩ = some v := by rw [Lib.cell_of_heap hb2]; rfl
  have f1 : w2.frozen? ⟨b, 1, none⟩ = false := Lib.frozen_of_heap hb2 1
  have hc2 : Chg (fun k => B ≤ k) w w2 := (hb1.mono (fun k _ hk => by rw [hk]; exact hB)).trans (hg.mono (fun k _ hk => (hown.lt k hk.symm).1)) (fun _ _ h => h)
  obtain ⟨N, hN⟩ : ∃ N, (bs ++ s.data.toList).length = N := ⟨_, rfl⟩
  rw [hN] at ho
  obtain ⟨oa, cap, rfl⟩ := own_slice ho
  have HR := Lib.hid hr
  have HU := Lib.hid hU
  have HC := Lib.hid (hc2.setCell (p := ⟨b, 1, none⟩) (fun _ => hB) (.slice oa N cap))
  clear hr hU hc2 hg ho hown hbk hb2 hb1 hN
  go_wp2_with (first
    | (at_builtin; refine Lib.wpList_append_run _ rfl _ _ _ _ rfl _ _ rfl rfl _ _ HR.out ?_))
  go_ret2
  rw [← hst]
  exact ⟨⟨_, rfl⟩, HU.out, HC.out⟩

set_option maxHeartbeats 2000000 in
theorem write_any {B b : Nat} {bs : Txt} (w : World) (h : IsB B b bs w) (hBw : B ≤ w.heap.size) (x : Value) (t : Txt) (ht : SlAt w x (cellsB t)) (hfar : ∀ g, x.ownBlock = some g → g ≠ b) (hl : bs.length + t.length ≤ 1000000) :
    Calls Tryz.prog 32 #[.pointer (some ⟨b, 0, none⟩), x] w fun e w' => (∃ v, e = .returned v) ∧ UsedB B b (bs ++ t) w' ∧ Chg (fun k => B ≤ k) w w' := by
  obtain ⟨oa, cap, rfl⟩ := SlAt.shape ht
  go_enter Tryz.func32, Tryz.ntmps32
  go_wp2_with (go_at_call 58; refine (check_any _ h).mono ?_)
  rintro e w1 ⟨rfl, h1, hb1⟩
  obtain ⟨hB, v, hbk, hown, hne⟩ := h1
  rw [cellsB_length] at hown
  have ht1 : SlAt w1 (.slice oa t.length cap) (cellsB t) := by
    obtain ⟨oa', cap', he, k2, k3⟩ := ht
    rw [cellsB_length] at he
    cases he
    refine ⟨oa, cap, by rw [cellsB_length], k2, fun g off ho i y hy => hb1.cell (k3 g off ho i y hy) ?_⟩
    subst ho
    exact fun e => hfar g rfl e
  have c0 : w1.cell? ⟨b, 0, none⟩ = some (.pointer (some ⟨b, 0, none⟩)) := by rw [Lib.cell_of_heap hbk]; rfl
  have c1 : w1.cell? ⟨b, 1, none⟩ = some v := by rw [Lib.cell_of_heap hbk]; rfl
  obtain ⟨v2, w2, hr, ho, hg⟩ := append_slice hown ht1 (by have := hb1.size; omega) (by omega) 76
  obtain ⟨hb2, hU⟩ := put_grown hB hbk ho rfl hg hne
  have d0 : w2.cell? ⟨b, 0, none⟩ = some (.pointer (some ⟨b, 0, none⟩)) := by rw [Lib.cell_of_heap hb2]; rfl
  have d1 : w2.cell? ⟨b, 1, none⟩ = some v := by rw [Lib.cell_of_heap hb2]; rfl
  have f1 : w2.frozen? ⟨b, 1, none⟩ = false := Lib.frozen_of_heap hb2 1
  have hc2 : Chg (fun k => B ≤ k) w w2 := (hb1.mono (fun k _ hk => by rw [hk]; exact hB)).trans (hg.mono (fun k _ hk => (hown.lt k hk.symm).1)) (fun _ _ h => h)
  obtain ⟨N, hN⟩ : ∃ N, (bs ++ t).length = N := ⟨_, rfl⟩
  rw [hN] at ho
  obtain ⟨oa2, cap2, rfl⟩ := own_slice ho
  have HR := Lib.hid hr
  have HU := Lib.hid hU
  have HC := Lib.hid (hc2.setCell (p := ⟨b, 1, none⟩) (fun _ => hB) (.slice oa2 N cap2))
  clear hr hU hc2 hg ho hown hbk hb2 hb1 hN ht ht1
  go_wp2_with (first
    | (at_builtin; refine Lib.wpList_append_run _ rfl _ _ _ _ rfl _ _ rfl rfl _ _ HR.out ?_))
  go_ret2
  exact ⟨⟨_, rfl⟩, HU.out, HC.out⟩

set_option maxHeartbeats 2000000 in
/-- String: of a builder that holds a byte. The buffer's bytes are frozen. -/
theorem string_any {B b : Nat} {bs : Txt} (w : World) (h : UsedB B b bs w) (h0 : bs ≠ []) :
    Calls Tryz.prog 37 #[.pointer (some ⟨b, 0, none⟩)] w fun e w' => e = .returned (strV bs) ∧ Chg (fun k => B ≤ k) w w' := by
  obtain ⟨hB, v, hbk, hown, hne⟩ := h
  rw [cellsB_length] at hown
  have hl0 : bs.length ≠ 0 := by simpa using h0
  obtain ⟨g, cap, cur, rfl, hbg, hg, hnc, hcm, hcs, htake⟩ : ∃ g cap cur, v = .slice (some ⟨g, 0, none⟩) bs.length cap ∧ B ≤ g ∧ w.heap[g]? = some (.cells cur 5 (0, 0)) ∧ bs.length ≤ cap ∧ cap ≤ maxLen ∧ cur.size = cap * 1 ∧ cur.toList.take (bs.length * 1) = cellsB bs := by
    rcases hown.2 with ⟨_, hz⟩ | ⟨g, cap, cur, hv, r⟩
    · exact absurd hz hl0
    · exact ⟨g, cap, cur, hv, r⟩
  have c1 : w.drew.cell? ⟨b, 1, none⟩ = some (.slice (some ⟨g, 0, none⟩) bs.length cap) := by
    have : w.drew.heap[b]? = some (.cells #[.pointer (some ⟨b, 0, none⟩), .slice (some ⟨g, 0, none⟩) bs.length cap] 78 (0, 0)) := hbk
    rw [Lib.cell_of_heap this]; rfl
  have hSD : (Builtin.unsafeSliceData_ #[76] 111 #[.slice (some ⟨g, 0, none⟩) bs.length cap]).run Tryz.prog w.drew = .ok (.pointer (some ⟨g, 0, none⟩)) w.drew :=
    Lib.run_unsafeSliceData_row _ _ _ _ _ _ (by omega)
  have hUS : (Builtin.unsafeString_ #[111, 3] 9 #[.pointer (some ⟨g, 0, none⟩), .int .i64 bs.length]).run Tryz.prog w.drew = .ok (.string ⟨bs.toArray⟩) (w.drew.freeze ⟨g, 0, none⟩ bs.length) := by
    refine Lib.run_unsafeString_row w.drew 111 3 9 5 Tryz.underlying111 cells_u8 g cur.size (by have hg' : w.drew.heap[g]? = some (.cells cur 5 (0, 0)) := hg; simp [World.shape?, hg']) bs h0 (by omega) (by unfold maxLen at hcm; omega) ?_
    intro j x hx
    have := hown.cells (g := g) rfl j (.int .u8 x.toNat) (by simp [cellsB, hx])
    exact this
  have hcf : Chg (fun k => B ≤ k) w (w.drew.freeze ⟨g, 0, none⟩ bs.length) := by
    refine (Chg.refl _ w).drew.trans (?_ : Chg (fun k => B ≤ k) w.drew _) (fun _ _ h => h)
    unfold World.freeze
    split
    · exact Chg.refl _ _
    · refine ⟨rfl, rfl, rfl, by simp, fun k hk hn => ?_⟩
      simp only [Array.getElem?_modify]
      rw [if_neg (fun e => hn (by rw [← e]; exact hbg))]
  have HC := Lib.hid hcf
  clear hcf hown hg htake hbk hne
  go_enter Tryz.func37, Tryz.ntmps37
  go_wp2_with fail
  go_region
  all_goals (go_wp2_with fail; go_ret; exact ⟨rfl, HC.out⟩)

end Go.Proofs.YtbkefhoapnaciaaGreat.kvs
end
