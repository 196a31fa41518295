/- . -/
import Derived.Test.YtbjagmlbamjdbaaGreatPx1RootOnce
import Derived.Test.YtbjagmlbamjdbaaGreatPx13RootOnce
import Derived.Test.YtbjagmlbamjdbaaGreatPx16RootOnce
import Derived.WideKeyEntry
import Derived.WideKeyArr2

set_option linter.unusedSimpArgs false
set_option linter.unusedVariables false
section
namespace Go.Proofs.YtbjagmlbamjdbaaGreat.roots
open Go.My kvs

theorem mem_lkeys {c : UInt8} {i n : Nat} {k : Txt} : k ∈ lkeys c i n ↔ ∃ j, i ≤ j ∧ j < i + n ∧ k = [c, UInt8.ofNat j] := by
  unfold lkeys
  rw [List.mem_map]
  constructor
  · rintro ⟨j, hj, rfl⟩
    rw [List.mem_range'_1] at hj
    exact ⟨j, hj.1, hj.2, rfl⟩
  · rintro ⟨j, h1, h2, rfl⟩
    exact ⟨j, by rw [List.mem_range'_1]; exact ⟨h1, h2⟩, rfl⟩
theorem lst_none {c : UInt8} {l : List Pk} {i : Nat} {k : Txt} (h : k ∉ lkeys c i l.length) : mget (lst c i l) k = none := by
  cases hg : mget (lst c i l) k with
  | none => rfl
  | some v => exact absurd (mget_lst_key.1 (by rw [hg]; rfl)) h
theorem tlst_none {S : RS} {k : Txt} (h : k ≠ [116]) : mget (tlst S) k = none := mget_none (fun v hv => h (tlst_keys hv))
theorem dlst_none {l : List Nat} {i : Nat} {k : Txt} (h : ∀ e, k ≠ 99 :: e) : mget (dlst i l) k = none := mget_none (fun v hv => by obtain ⟨j, -, -, e⟩ := dlst_keys hv; exact h _ e)
theorem dl_none {l : List Nat} {i : Nat} {c : UInt8} {t : Txt} (h : c ≠ 99) : mget (dlst i l) (c :: t) = none := dlst_none (fun e he => by rw [List.cons.injEq] at he; exact h he.1)
theorem dlst_push : ∀ (l : List Nat) (i n : Nat), dlst i (l ++ [n]) = dlst i l ++ [(99 :: eight (i + l.length), eight n)]
  | [], i, n => rfl
  | x :: l, i, n => by
    rw [List.cons_append, dlst, dlst, dlst_push l (i + 1) n, List.cons_append, List.length_cons, show i + 1 + l.length = i + (l.length + 1) by omega]
theorem get_root (S : RS) (k : Txt) : mget (rootL S) k = (mget (dlst 0 S.done) k).or ((mget (lst 112 0 S.stack) k).or ((mget (lst 113 0 S.wants) k).or (mget (tlst S) k))) := by
  unfold rootL
  rw [mget_append, mget_append, mget_append]

def abortB (S : RS) : List PV := ([116] :: lkeys 113 0 S.wants.length).map delP
theorem abort_is {m : List KV} {S : RS} (hn : NoDup m) (h : sortF m = rootL S) (h1 : S.stack.length ≤ 200) (h3 : S.done.length ≤ 1000) :
    sortF (applyF m (abortB S)) = rootL ⟨S.stack, 0, [], S.done⟩ := by
  refine sort_is (applyF_nodup hn _) (by show S.stack.length ≤ 256; omega) (by simp) (by show S.done.length ≤ 1000000; omega) (fun k => ?_)
  unfold abortB
  rw [dels_get, get_is hn h, get_root, get_root]
  simp only
  have e1 : mget (lst 113 0 []) k = none := rfl
  have e2 : mget (tlst ⟨S.stack, 0, [], S.done⟩) k = none := rfl
  rw [e1, e2]
  by_cases hk : k ∈ [116] :: lkeys 113 0 S.wants.length
  · rw [if_pos hk]
    rcases List.mem_cons.1 hk with rfl | hk
    · rw [dl_none (by decide), lst_none (by rw [mem_lkeys]; rintro ⟨j, -, -, e⟩; simp at e)]; rfl
    · obtain ⟨j, -, -, rfl⟩ := mem_lkeys.1 hk
      rw [dl_none (by decide), lst_none (by rw [mem_lkeys]; rintro ⟨j', -, -, e⟩; simp at e)]; rfl
  · rw [if_neg hk]
    rw [List.mem_cons, not_or] at hk
    rw [lst_none (c := 113) (by simpa using hk.2), tlst_none hk.1]

def commitB (S : RS) (n : Nat) : List PV := delP [116] :: ofKV (99 :: eight S.done.length, eight n) :: ((lkeys 113 0 S.wants.length).map delP ++ ((lkeys 112 S.wants.length (S.stack.length - S.wants.length)).map delP ++ (lst 112 0 S.wants).map ofKV))
theorem commit_is {m : List KV} {S : RS} {n : Nat} (hn : NoDup m) (h : sortF m = rootL S) (h1 : S.stack.length ≤ 200) (h2 : S.wants.length ≤ 200) (h3 : S.done.length ≤ 1000) :
    sortF (applyF m (commitB S n)) = rootL ⟨S.wants, 0, [], S.done ++ [n]⟩ := by
  refine sort_is (applyF_nodup hn _) (by show S.wants.length ≤ 256; omega) (by simp) (by show (S.done ++ [n]).length ≤ 1000000; rw [List.length_append, List.length_singleton]; omega) (fun k => ?_)
  have hW : NoDup (lst 112 0 S.wants) := (lst_asc (by omega)).nodup
  have e0 : applyF m (commitB S n) = applyF (applyF (applyF (doneF (doneF m (delP [116])) (ofKV (99 :: eight S.done.length, eight n))) ((lkeys 113 0 S.wants.length).map delP)) ((lkeys 112 S.wants.length (S.stack.length - S.wants.length)).map delP)) ((lst 112 0 S.wants).map ofKV) := by
    unfold commitB
    rw [← applyF_append, ← applyF_append]
    rfl
  rw [e0, puts_get _ _ _ hW, dels_get, dels_get, doneF_get, doneF_get, get_is hn h, get_root, get_root]
  simp only
  have e1 : mget (lst 113 0 []) k = none := rfl
  have e2 : mget (tlst ⟨S.wants, 0, [], S.done ++ [n]⟩) k = none := rfl
  rw [e1, e2, dlst_push, mget_append, mget_cons, Nat.zero_add]
  have e3 : mget ([] : List KV) k = none := rfl
  rw [e3]
  show (mget (lst 112 0 S.wants) k).or (if k ∈ lkeys 112 S.wants.length (S.stack.length - S.wants.length) then none else if k ∈ lkeys 113 0 S.wants.length then none else if k = 99 :: eight S.done.length then some (eight n) else if k = [116] then none else _) = ((mget (dlst 0 S.done) k).or (if 99 :: eight S.done.length = k then some (eight n) else none)).or _
  by_cases hw : k ∈ lkeys 112 0 S.wants.length
  · obtain ⟨v, hv⟩ : ∃ v, mget (lst 112 0 S.wants) k = some v := Option.isSome_iff_exists.1 (mget_lst_key.2 hw)
    obtain ⟨j, -, -, rfl⟩ := mem_lkeys.1 hw
    rw [hv, dl_none (by decide), if_neg (show ¬ (99 :: eight S.done.length = [112, UInt8.ofNat j]) by simp)]
    rfl
  · rw [lst_none hw]
    by_cases k1 : k ∈ lkeys 112 S.wants.length (S.stack.length - S.wants.length)
    · rw [if_pos k1]
      obtain ⟨j, -, -, rfl⟩ := mem_lkeys.1 k1
      rw [dl_none (by decide), if_neg (show ¬ (99 :: eight S.done.length = [112, UInt8.ofNat j]) by simp)]; rfl
    · rw [if_neg k1]
      by_cases k2 : k ∈ lkeys 113 0 S.wants.length
      · rw [if_pos k2]
        obtain ⟨j, -, -, rfl⟩ := mem_lkeys.1 k2
        rw [dl_none (by decide), if_neg (show ¬ (99 :: eight S.done.length = [113, UInt8.ofNat j]) by simp)]; rfl
      · rw [if_neg k2]
        by_cases k3 : k = 99 :: eight S.done.length
        · rw [if_pos k3, if_pos k3.symm]
          have : mget (dlst 0 S.done) k = none := mget_none (fun v hv => by
            obtain ⟨j, -, j2, e⟩ := dlst_keys hv
            rw [k3] at e
            rw [List.cons.injEq] at e
            have := eight_inj (by omega) (by omega) e.2
            omega)
          rw [this]; rfl
        · have k3' : ¬ 99 :: eight S.done.length = k := fun e => k3 e.symm
          rw [if_neg k3, if_neg k3']
          by_cases k4 : k = [116]
          · rw [if_pos k4, k4, dl_none (by decide)]; rfl
          · rw [if_neg k4, tlst_none k4, lst_none k2]
            have hp : k ∉ lkeys 112 0 S.stack.length := by
              intro hk
              obtain ⟨j, j1, j2, e⟩ := mem_lkeys.1 hk
              by_cases hj : j < S.wants.length
              · exact hw (mem_lkeys.2 ⟨j, by omega, by omega, e⟩)
              · exact k1 (mem_lkeys.2 ⟨j, by omega, by omega, e⟩)
            rw [lst_none hp]
            cases mget (dlst 0 S.done) k <;> rfl

theorem may_of {k v : Txt} (h1 : 1 ≤ k.length) (h2 : k.length ≤ 9) (h3 : v.length ≤ 1024) : (ofKV (k, v)).may = true := by
  unfold PV.may ofKV
  simp only [Bool.and_eq_true, decide_eq_true_eq, Bool.not_eq_true', Bool.false_and, and_true]
  omega
theorem may_del {k : Txt} (h1 : 1 ≤ k.length) (h2 : k.length ≤ 9) : (delP k).may = true := by
  unfold PV.may delP
  simp only [Bool.and_eq_true, decide_eq_true_eq, Bool.not_eq_true', List.length_nil]
  refine ⟨⟨⟨by omega, by omega⟩, by omega⟩, by simp⟩
theorem varB_small {n : Nat} (h : n < 16384) : (varB n).length ≤ 2 := by
  by_cases h1 : n < 128
  · rw [varB_one h1]; simp
  · rw [varB_two (by omega) h]; simp
theorem bytes_of {k v : Txt} (h2 : k.length ≤ 9) (h3 : v.length ≤ 1024) : (ofKV (k, v)).bytes.length ≤ 13 + 1 + v.length := by
  have h5 := varB_small (n := v.length) (by omega)
  unfold PV.bytes ofKV textB
  simp only [Bool.false_eq_true, if_false, List.length_cons, List.length_append]
  rw [varB_one (n := k.length) (by omega)]
  simp only [List.length_cons, List.length_nil]
  omega
theorem bytes_del {k : Txt} (h2 : k.length ≤ 9) : (delP k).bytes.length ≤ 11 := by
  unfold PV.bytes delP textB
  simp only [if_true, List.length_cons, List.length_append]
  rw [varB_one (n := k.length) (by omega)]
  simp only [List.length_cons, List.length_nil]
  omega
theorem allB_dels : ∀ (ks : List Txt), (∀ k ∈ ks, k.length ≤ 9) → (allB (ks.map delP)).length ≤ 11 * ks.length
  | [], _ => by simp [allB]
  | k :: ks, h => by
    have e : allB ((k :: ks).map delP) = (delP k).bytes ++ allB (ks.map delP) := by simp [allB]
    have h1 := bytes_del (h k (by simp))
    have h2 := allB_dels ks (fun q hq => h q (by simp [hq]))
    rw [e, List.length_append, List.length_cons]
    omega
theorem lkeys_len (c : UInt8) (i n : Nat) : (lkeys c i n).length = n := by unfold lkeys; rw [List.length_map, List.length_range']
theorem lst_len (c : UInt8) : ∀ (l : List Pk) (i : Nat), (lst c i l).length = l.length
  | [], _ => rfl
  | p :: l, i => by rw [lst, List.length_cons, List.length_cons, lst_len c l]
theorem allB_lst (c : UInt8) : ∀ (l : List Pk) (i : Nat), (∀ p ∈ l, p.dig ∧ mchkF p.man = 0) → (allB ((lst c i l).map ofKV)).length ≤ 53 * l.length + 42 * nlay l ∧ ∀ q ∈ (lst c i l).map ofKV, q.may = true
  | [], _, _ => ⟨by simp [lst, allB], fun q hq => by cases hq⟩
  | p :: l, i, h => by
    obtain ⟨h1, h2⟩ := allB_lst c l (i + 1) (fun q hq => h q (by simp [hq]))
    obtain ⟨d1, d2⟩ := h p (by simp)
    obtain ⟨l1, l2⟩ := pencF_len d1 d2
    have hf := (mchkF_ok d2).few
    have e : allB ((lst c i (p :: l)).map ofKV) = (ofKV ([c, UInt8.ofNat i], pencF p)).bytes ++ allB ((lst c (i + 1) l).map ofKV) := by simp [lst, allB]
    have e2 : nlay (p :: l) = p.man.layers.length + nlay l := by simp [nlay]
    have h3 := bytes_of (k := [c, UInt8.ofNat i]) (v := pencF p) (by simp) (by omega)
    constructor
    · rw [e, List.length_append, List.length_cons, e2]
      omega
    · intro q hq
      rw [lst, List.map_cons] at hq
      rcases List.mem_cons.1 hq with rfl | hq
      · exact may_of (by simp) (by simp) (by omega)
      · exact h2 q hq

theorem stage_fits {n : Nat} {l : List Pk} (h : SOk l) (hd : ∀ p ∈ l, p.dig) : Fits (stageB n l) := by
  obtain ⟨h1, h2⟩ := allB_lst 113 l 0 (fun p hp => ⟨hd p hp, (h.each p hp).2.2⟩)
  have h3 := h.lays
  have h4 := h.few
  have hv : (eight n ++ [UInt8.ofNat l.length]).length = 9 := by rw [List.length_append, eight_length]; rfl
  have h5 := bytes_of (k := [116]) (v := eight n ++ [UInt8.ofNat l.length]) (by simp) (by omega)
  have e : allB (stageB n l) = (ofKV ([116], eight n ++ [UInt8.ofNat l.length])).bytes ++ allB ((lst 113 0 l).map ofKV) := by simp [stageB, allB]
  refine ⟨by simp [stageB], fun q hq => ?_, ?_, ?_⟩
  · rcases List.mem_cons.1 hq with rfl | hq
    · exact may_of (by simp) (by simp) (by omega)
    · exact h2 q hq
  · unfold stageB
    rw [List.length_cons, List.length_map, lst_len]
    omega
  · rw [e, List.length_append]
    omega
theorem abort_fits {S : RS} (h : S.wants.length ≤ 16) : Fits (abortB S) := by
  have hk : ∀ k ∈ [116] :: lkeys 113 0 S.wants.length, 1 ≤ k.length ∧ k.length ≤ 9 := by
    intro k hk
    rcases List.mem_cons.1 hk with rfl | hk
    · simp
    · obtain ⟨j, -, -, rfl⟩ := mem_lkeys.1 hk; simp
  have h1 := allB_dels ([116] :: lkeys 113 0 S.wants.length) (fun k hk' => (hk k hk').2)
  have hl : ([116] :: lkeys 113 0 S.wants.length).length = S.wants.length + 1 := by rw [List.length_cons, lkeys_len]
  refine ⟨by simp [abortB], fun q hq => ?_, ?_, ?_⟩
  · obtain ⟨k, hk', rfl⟩ := List.mem_map.1 hq
    exact may_del (hk k hk').1 (hk k hk').2
  · unfold abortB
    rw [List.length_map]
    omega
  · unfold abortB
    omega
theorem commit_fits {S : RS} {n : Nat} (hw : SOk S.wants) (hd : ∀ p ∈ S.wants, p.dig) (hs : S.stack.length ≤ 16) : Fits (commitB S n) := by
  obtain ⟨h1, h2⟩ := allB_lst 112 S.wants 0 (fun p hp => ⟨hd p hp, (hw.each p hp).2.2⟩)
  have h3 := hw.lays
  have h4 := hw.few
  have hk : ∀ c i j, ∀ k ∈ lkeys c i j, 1 ≤ k.length ∧ k.length ≤ 9 := by
    intro c i j k hk
    obtain ⟨j, -, -, rfl⟩ := mem_lkeys.1 hk; simp
  have hv : (eight n).length = 8 := eight_length n
  have hc : (99 :: eight S.done.length).length = 9 := by rw [List.length_cons, eight_length]
  have h5 := bytes_of (k := 99 :: eight S.done.length) (v := eight n) (by omega) (by omega)
  have h6 := bytes_del (k := [116]) (by simp)
  have h7 := allB_dels (lkeys 113 0 S.wants.length) (fun k hk' => (hk _ _ _ k hk').2)
  have h8 := allB_dels (lkeys 112 S.wants.length (S.stack.length - S.wants.length)) (fun k hk' => (hk _ _ _ k hk').2)
  rw [lkeys_len] at h7 h8
  have e : allB (commitB S n) = (delP [116]).bytes ++ ((ofKV (99 :: eight S.done.length, eight n)).bytes ++ (allB ((lkeys 113 0 S.wants.length).map delP) ++ (allB ((lkeys 112 S.wants.length (S.stack.length - S.wants.length)).map delP) ++ allB ((lst 112 0 S.wants).map ofKV)))) := by
    unfold commitB
    rw [← allB_append, ← allB_append]
    simp [allB]
  refine ⟨by simp [commitB], fun q hq => ?_, ?_, ?_⟩
  · unfold commitB at hq
    rcases List.mem_cons.1 hq with rfl | hq
    · exact may_del (by simp) (by simp)
    · rcases List.mem_cons.1 hq with rfl | hq
      · exact may_of (by omega) (by omega) (by omega)
      · rcases List.mem_append.1 hq with hq | hq
        · obtain ⟨k, hk', rfl⟩ := List.mem_map.1 hq
          exact may_del (hk _ _ _ k hk').1 (hk _ _ _ k hk').2
        · rcases List.mem_append.1 hq with hq | hq
          · obtain ⟨k, hk', rfl⟩ := List.mem_map.1 hq
            exact may_del (hk _ _ _ k hk').1 (hk _ _ _ k hk').2
          · exact h2 q hq
  · unfold commitB
    simp only [List.length_cons, List.length_append, List.length_map, lkeys_len, lst_len]
    omega
  · rw [e]
    simp only [List.length_append]
    omega

end Go.Proofs.YtbjagmlbamjdbaaGreat.roots
end

section
namespace Go.Proofs.YtbjagmlbamjdbaaGreat.roots
open Go.RowKit Go.Maps Go.My Go.ChangeMaps disks bufs wals kvs
set_option maxRecDepth 100000

variable {w w' : World}

theorem fixB_be : ∀ (k n : Nat), fixB k n = be k n
  | 0, _ => rfl
  | k + 1, n => by
    rw [fixB, be, fixB_be k]
    congr 2
    apply UInt8.toNat_inj.1
    simp only [UInt8.toNat_ofNat']
    omega
theorem eight_be (n : Nat) : eight n = be 8 n := fixB_be 8 n

set_option maxHeartbeats 1000000 in
theorem var_big (w : World) (n : Nat) (hn : n < 9223372036854775808) :
    Calls Tryz.prog 121 #[.int .u64 (n : Int)] w fun e w' => ∃ v, e = .returned v ∧ w'.ownsRow w.heap.size 5 1 v (varB n).length (cellsB (varB n)) ∧ Chg (fun _ => False) w w' := by
  go_enter Tryz.func121, Tryz.ntmps121
  go_wp2_with fail
  go_loopw [0, 3] (fun v out wr => ∃ (k m : Nat) (done : Txt), v = .int .u64 (m : Int) ∧ k ≤ 9 ∧ m < 128 ^ k ∧ varB n = done ++ varN k m ∧ wr.ownsRow w.heap.size 5 1 out done.length (cellsB done) ∧ Chg (fun _ => False) w wr) (fun v _ _ => (intOf v).toNat)
  · exact ⟨9, n, [], rfl, by omega, by have : (128 : Nat) ^ 9 = 9223372036854775808 := (by decide); omega, rfl, World.ownsRow_nil _ _ _ _, Chg.refl _ _⟩
  obtain ⟨k, m, done, rfl, hk9, hm, hvar, ho, hc⟩ := hrel
  obtain ⟨oa, cap, rfl⟩ := own_slice ho
  have hdl : done.length ≤ 10 := by
    have h1 := (varB_length n).1
    have h2 := congrArg List.length hvar
    rw [List.length_append] at h2
    omega
  have hm64 : m < 9223372036854775808 := by
    have h1 : (128 : Nat) ^ k ≤ 128 ^ 9 := Nat.pow_le_pow_right (by omega) hk9
    have h2 : (128 : Nat) ^ 9 = 9223372036854775808 := by decide
    omega
  have h0 : (0 : Int) ≤ (m : Int) := by omega
  have h1 : (m : Int) < 9223372036854775808 := by omega
  by_cases hlt : m < 128
  · have hlti : ¬ (128 : Int) ≤ (m : Int) := by omega
    have hv1 : varN k m = [UInt8.ofNat m] := by
      cases k with
      | zero => rfl
      | succ k => rw [varN, if_neg (by omega)]
    rw [hv1] at hvar
    have hmod : (m : Int) % 256 = (m : Int) := by omega
    have hca : Chg (fun _ => False) wr (wr.alloc (.cells #[.int .u8 (m : Int)] 5)) := (Chg.refl _ _).alloc _
    have hs2 : SlAt (wr.alloc (.cells #[.int .u8 (m : Int)] 5)) (.slice (some ⟨wr.heap.size, 0, none⟩) 1 1) (cellsB [UInt8.ofNat (m)]) := by
      have := SlAt.of_own (own_of_block (w := wr.alloc (.cells #[.int .u8 (m : Int)] 5)) (base := 0) (n := 1) at1 (Nat.zero_le _) rfl (by unfold maxLen; omega))
      simp only [cellsB, List.map_cons, List.map_nil, toNat_ofNat_lt (show m < 256 by omega)]
      skip
      exact this
    have hsz := hc.size
    obtain ⟨v3, w3, hr3, ho3, hg3⟩ := append_step (own_kept ho hca) hs2 (Nat.le_trans hsz hca.size) (by simp; omega) 101
    have hc3 : Chg (fun _ => False) w w3 := (hc.trans' hca).new hg3 (fun _ h => h)
    rw [← hvar] at ho3
    have HR3 := Lib.hid hr3
    have HO3 := Lib.hid ho3
    have HC3 := Lib.hid hc3
    clear hca hs2 hr3 ho3 hg3 hc3 ho hc hvar hm hv1 hsz
    go_wp2_with (first
      | (at_builtin; refine Lib.wpList_append_run _ rfl _ _ _ _ rfl _ _ rfl rfl _ _ HR3.out ?_))
    go_ret
    exact ⟨_, rfl, HO3.out, HC3.out⟩
  · have hlti : (128 : Int) ≤ (m : Int) := by omega
    obtain ⟨k, rfl⟩ : ∃ j, k = j + 1 := by
      cases k with
      | zero => simp at hm; omega
      | succ k => exact ⟨k, rfl⟩
    rw [varN, if_pos (by omega)] at hvar
    rw [Nat.pow_succ] at hm
    obtain ⟨X, hX⟩ : ∃ X : Int, bits .or .u8 ((m : Int) % 256) 128 = X := ⟨_, rfl⟩
    have hXv : X = ((m % 128 + 128 : Nat) : Int) := by
      rw [← hX]
      exact or128 m
    have hca : Chg (fun _ => False) wr (wr.alloc (.cells #[.int .u8 (X : Int)] 5)) := (Chg.refl _ _).alloc _
    have hs2 : SlAt (wr.alloc (.cells #[.int .u8 (X : Int)] 5)) (.slice (some ⟨wr.heap.size, 0, none⟩) 1 1) (cellsB [UInt8.ofNat (m % 128 + 128)]) := by
      have := SlAt.of_own (own_of_block (w := wr.alloc (.cells #[.int .u8 (X : Int)] 5)) (base := 0) (n := 1) at1 (Nat.zero_le _) rfl (by unfold maxLen; omega))
      simp only [cellsB, List.map_cons, List.map_nil, toNat_ofNat_lt (show m % 128 + 128 < 256 by omega)]
      rw [← hXv]
      exact this
    have hsz := hc.size
    obtain ⟨v3, w3, hr3, ho3, hg3⟩ := append_step (own_kept ho hca) hs2 (Nat.le_trans hsz hca.size) (by simp; omega) 101
    have hc3 : Chg (fun _ => False) w w3 := (hc.trans' hca).new hg3 (fun _ h => h)
    have hvar2 : varB n = (done ++ [UInt8.ofNat (m % 128 + 128)]) ++ varN k (m / 128) := by rw [hvar, List.append_assoc]; rfl
    have HR3 := Lib.hid hr3
    have HO3 := Lib.hid ho3
    have HC3 := Lib.hid hc3
    have HV2 := Lib.hid hvar2
    have HM := Lib.hid hm
    clear hca hs2 hr3 ho3 hg3 hc3 ho hc hvar hvar2 hm hXv hsz
    go_wp2_with (first
      | (at_builtin; refine Lib.wpList_append_run _ rfl _ _ _ _ rfl _ _ rfl rfl _ _ HR3.out ?_))
    exact ⟨⟨k, m / 128, _, congrArg (Value.int .u64) (by omega), by omega, by have := HM.out; omega, HV2.out, HO3.out, HC3.out⟩, by simp [intOf]; omega⟩

theorem eight_any (w : World) (n : Nat) (hn : n < 9223372036854775808) :
    Calls Tryz.prog 51 #[.int .i64 (n : Int)] w fun e w' => e = .returned (strV (eight n)) ∧ Chg (fun _ => False) w w' := by
  have h0 : (0 : Int) ≤ (n : Int) := by omega
  have h1 : (n : Int) < 9223372036854775808 := by omega
  have hm : (n : Int) % 18446744073709551616 = (n : Int) := by omega
  have HF := Lib.hid (fixed_any w 8 n (Or.inr rfl) (by have : (256 : Nat) ^ 8 = 18446744073709551616 := (by decide); omega))
  rw [eight_be]
  obtain ⟨s, hs⟩ : ∃ s, strV (be 8 n) = .string s := ⟨_, rfl⟩
  rw [hs]
  have HS := Lib.hid hs
  clear hs
  go_enter Tryz.func51, Tryz.ntmps51
  go_wp2_with (first
    | (go_at_call 92; try rw [hm]
       refine HF.out.mono ?_; rintro e w1 ⟨v, rfl, ho, hc⟩
       have hcv : (convert 101 9 v).run Tryz.prog w1 = .ok (.string s) w1 := by
         rw [← HS.out]; exact conv_own ho
       obtain ⟨oa, cap, rfl⟩ := own_slice ho
       have HC := Lib.hid hc
       clear ho hc))
  go_ret
  exact ⟨rfl, HC.out⟩

theorem key_any (w : World) (c : UInt8) (i : Nat) (hi : i < 9223372036854775808) :
    Calls Tryz.prog 94 #[strV [c], .int .i64 (i : Int)] w fun e w' => e = .returned (strV [c, UInt8.ofNat i]) ∧ Chg (fun _ => False) w w' := by
  have h0 : (0 : Int) ≤ (i : Int) := by omega
  have h1 : (i : Int) < 9223372036854775808 := by omega
  have hca : Chg (fun _ => False) w (w.alloc (.cells #[.int .u8 ((i : Int) % 256)] 5)) := (Chg.refl _ _).alloc _
  have hcv : (convert 101 9 (.slice (some ⟨w.heap.size, 0, none⟩) 1 1)).run Tryz.prog (w.alloc (.cells #[.int .u8 ((i : Int) % 256)] 5)) = .ok (strV [UInt8.ofNat i]) (w.alloc (.cells #[.int .u8 ((i : Int) % 256)] 5)) := by
    refine conv_own (b := [UInt8.ofNat i]) (n := 1) (base := 0) ?_
    have := own_of_block (w := w.alloc (.cells #[.int .u8 ((i : Int) % 256)] 5)) (base := 0) (n := 1) at1 (Nat.zero_le _) rfl (by unfold maxLen; omega)
    have e : (i : Int) % 256 = ((UInt8.ofNat i).toNat : Int) := by rw [UInt8.toNat_ofNat']; omega
    rw [e] at this ⊢
    exact this
  have hadd : ∀ s t, strV [c] = .string s → strV [UInt8.ofNat i] = .string t → strV [c, UInt8.ofNat i] = .string (s ++ t) := by
    intro s t hs ht
    have hs' := strV_string [c] s hs
    have ht' := strV_string _ t ht
    subst hs'; subst ht'
    rw [str_append]
    rfl
  obtain ⟨s, hs⟩ : ∃ s, strV [c] = .string s := ⟨_, rfl⟩
  obtain ⟨t, ht⟩ : ∃ t, strV [UInt8.ofNat i] = .string t := ⟨_, rfl⟩
  rw [hadd s t hs ht]
  have hsz : s.size = 1 := str_size [c] s hs
  have htz : t.size = 1 := str_size _ t ht
  rw [ht] at hcv
  rw [hs]
  have HCa := Lib.hid hca
  clear hadd hs ht hca
  go_enter Tryz.func94, Tryz.ntmps94
  go_wp2_with fail
  go_ret
  exact ⟨rfl, HCa.out⟩

end Go.Proofs.YtbjagmlbamjdbaaGreat.roots
end

section
namespace Go.My
open Go.RowKit Go.Maps Go.MapKept Go.ChangeMaps

section
variable {P : Program} {kt : TypeId} {K V : Type} [DecidableEq K] {E : KeyEnc P kt K} {ev : V → Value} {w : World} {b : Nat} {m : List (K × V)} {t e : TypeId}

theorem MapIs.entry (h : MapIs E ev w b m) (L : WideMaps.KeyLaw P kt) (ht : P.underlying t = some (.map kt e)) (z : V) (hz : ∀ u : World, (zeroValue e).run P u = .ok (ev z) u) (hm : m.length ≤ maxLen) (k : K) (hk : E.ok k) :
    ∃ (v0 : Value) (st : Nat) (ob : Obj) (m1 : List (K × V)), (Instr.mapEntry t (.map (some b)) (E.enc k)).run P w = .ok (.tuple #[v0, goInt st]) (setBlock w b ob) ∧ MapIs E ev (setBlock w b ob) b m1 ∧ (mget m1 k).getD z = (mget m k).getD z ∧
      ∀ (w2 : World) (v : V), w2.heap[b]? = some ob → ∃ ob2, (Instr.entryStore t (.map (some b)) (goInt st) (ev v)).run P w2 = .ok () (setBlock w2 b ob2) ∧ MapIs E ev (setBlock w2 b ob2) b (mput m k v) := by
  have h' := h
  obtain ⟨es, clock, hb, hp, hok, hst⟩ := h
  obtain ⟨l, hl⟩ := E.reads k hk
  have hsz : es.size = m.length := by have := congrArg List.length hp; simpa using this
  have F : WideElems.Fit (H := Unit) P kt (fun _ => some (.nil, [])) es clock := ⟨by omega, hst, fun x hx => by
    obtain ⟨j, hj⟩ := List.getElem?_of_mem hx
    obtain ⟨p, hpj, hkey, -⟩ := pair_at hp hj
    obtain ⟨l', hl'⟩ := E.reads p.1 (hok p (List.mem_of_getElem? hpj))
    exact ⟨_, by unfold WideElems.rd; rw [hkey, hl']; rfl⟩⟩
  obtain ⟨v0, st, es1, clock1, hrun, -, hstore⟩ := WideElems.entry_then_store L ht hz hb F hl
  have hmid : ∃ ob m1 x0, (Instr.mapEntry t (.map (some b)) (E.enc k)).run P w = .ok x0 (setBlock w b ob) ∧ MapIs E ev (setBlock w b ob) b m1 ∧ (mget m1 k).getD z = (mget m k).getD z := by
    rcases MapIs.find w hp hok hst.2.2 k hk with ⟨h1, h2, h3⟩ | ⟨j, e0, v1, h1, h3, h4, h5, h6⟩
    · obtain ⟨o, hu, hM⟩ := h'.put ht k hk z
      refine ⟨o, mput m k z, .tuple #[ev z, goInt clock], ?_, hM, ?_⟩
      · have hu2 : (Instr.mapUpdate t (.map (some b)) (E.enc k) (ev z)).run P w = .ok () (setBlock w b (.map (es.push ⟨E.enc k, ev z, clock⟩) (clock + 1))) := by
          simp [Instr.mapUpdate, run_underlying ht, MapKept.run_getObj_map hb, E.keyed.check w false hl, h1, MapKept.run_setObj_map _ hb, Result.andThen, setBlock]
        rw [hu] at hu2
        have hw : setBlock w b o = setBlock w b (.map (es.push ⟨E.enc k, ev z, clock⟩) (clock + 1)) := by injection hu2
        rw [hw]
        simp [Instr.mapEntry, run_underlying ht, MapKept.run_getObj_map hb, E.keyed.check w false hl, h1, hz, MapKept.run_setObj_map _ hb, Result.andThen, setBlock]
      · rw [mget_mput, if_pos rfl, h2]; rfl
    · have hj : es[j]? = some e0 := by simpa using h3
      have hsame : es.modify j (fun e => { e with key := E.enc k }) = es := by
        apply Array.ext'
        rw [Array.toList_modify, modify_eq_set _ _ _ _ h3]
        have : ({ e0 with key := E.enc k } : MapEntry) = e0 := by rw [← h4]
        rw [this]
        exact WideElems.set_self _ _ _ h3
      refine ⟨.map es clock, m, .tuple #[ev v1, goInt e0.born], ?_, h'.of_eq (by rw [heap_setBlock_same hb, hb]), rfl⟩
      simp [Instr.mapEntry, run_underlying ht, MapKept.run_getObj_map hb, E.keyed.check w false hl, h1, hj, h4, E.keyed.stays w hl, hsame, MapKept.run_setObj_map _ hb, Result.andThen, setBlock]
  obtain ⟨ob, m1, x0, hr1, hM1, hg⟩ := hmid
  rw [hrun] at hr1
  have hw1 : setBlock w b (.map es1 clock1) = setBlock w b ob := by injection hr1
  refine ⟨v0, st, .map es1 clock1, m1, hrun, by rw [hw1]; exact hM1, hg, fun w2 v hw2 => ?_⟩
  obtain ⟨es', clock', hs1, hs2⟩ := hstore w2 (ev v) hw2
  obtain ⟨o, hu, hM⟩ := h'.put ht k hk v
  rw [hu] at hs2
  have hw : setBlock w b o = setBlock w b (.map es' clock') := by injection hs2
  rw [hw] at hM
  exact ⟨.map es' clock', hs1, hM.of_eq (by rw [heap_setBlock_same hw2, heap_setBlock_same hb])⟩

end
end Go.My
end

section
namespace Go.Proofs.YtbjagmlbamjdbaaGreat.roots
open Go.RowKit Go.Maps Go.My Go.ChangeMaps disks bufs wals kvs
set_option maxRecDepth 100000

variable {w w' : World}

theorem all_take_succ {x : Txt} {k : Nat} {c : UInt8} (h : x[k]? = some c) : (x.take (k + 1)).all sign = ((x.take k).all sign && sign c) := by
  rw [List.take_add_one, h, Option.toList_some, List.all_append]; simp
theorem nameB_bad {x : Txt} {k : Nat} {c : UInt8} (h : x[k]? = some c) (hs : sign c = false) : nameB x = false := by
  have : x.all sign = false := by
    rw [List.all_eq_false]
    exact ⟨c, List.mem_of_getElem? h, by rw [hs]; exact Bool.false_ne_true⟩
  unfold nameB
  rw [this]; rfl

set_option maxHeartbeats 1000000 in
theorem name_is (w : World) (x : Txt) (hx : x.length ≤ maxLen) : Calls Tryz.prog 86 #[strV x] w fun e w' => e = .returned (.bool (nameB x)) ∧ w = w' := by
  obtain ⟨s, hs⟩ : ∃ s : ByteArray, strV x = .string s := ⟨_, rfl⟩
  have hsz := str_size x s hs
  have hss := strV_string x s hs
  have hidx : ∀ (k : Nat) (hk : k < x.length), (Instr.index 9 (.string s) (.int .i64 k)).run Tryz.prog w = .ok (.int .u8 ((x[k].toNat : Nat) : Int)) w := by
    intro k hk
    subst hss
    rw [run_index_string _ _ _ _ _ Tryz.underlying9, dif_pos ⟨by omega, by omega⟩]
    rfl
  rw [hs]
  have HI := Lib.hid hidx
  have hmx := hx
  unfold maxLen at hmx
  clear hidx hs hss
  go_enter Tryz.func86, Tryz.ntmps86
  go_wp2_with fail
  go_loopw [7] (fun j wr => ∃ k : Nat, j = .int .i64 k ∧ k ≤ x.length ∧ (x.take k).all sign = true ∧ w = wr) (fun j _ => x.length - (intOf j).toNat)
  · exact ⟨0, rfl, Nat.zero_le _, by simp, rfl⟩
  obtain ⟨k, rfl, hk, hall, rfl⟩ := hrel
  have HA := Lib.hid hall
  clear hall
  by_cases hlt : k < x.length
  · have hki : (k : Int) < (s.size : Int) := by omega
    have hc := HI.out k hlt
    obtain ⟨b, hb⟩ : ∃ b, x[k] = b := ⟨_, rfl⟩
    have HB := Lib.hid (show x[k]? = some b by rw [List.getElem?_eq_getElem hlt, hb])
    rw [hb] at hc
    obtain ⟨c, hcn⟩ : ∃ c, b.toNat = c := ⟨_, rfl⟩
    rw [hcn] at hc
    have hc0 : (0 : Int) ≤ (c : Int) := by omega
    have hc1 : (c : Int) < 256 := by have := b.toNat_lt; omega
    have hsg : sign b = ((decide (97 ≤ c) && decide (c ≤ 122)) || (decide (48 ≤ c) && decide (c ≤ 57)) || decide (c = 45) || decide (c = 46)) := by unfold sign; rw [hcn]
    have HSg := Lib.hid hsg
    clear hb hsg hcn
    rcases (by omega : (97 ≤ c ∧ c ≤ 122) ∨ 122 < c ∨ (c < 97 ∧ 48 ≤ c ∧ c ≤ 57) ∨ (c < 97 ∧ 57 < c) ∨ c = 45 ∨ c = 46 ∨ (c < 48 ∧ c ≠ 45 ∧ c ≠ 46)) with hcc | hcc | hcc | hcc | hcc | hcc | hcc
    · have f1 : (97 : Int) ≤ (c : Int) := by omega
      have f2 : (c : Int) ≤ 122 := by omega
      go_wp2_with fail
      exact ⟨⟨k + 1, by go_num, hlt, by rw [all_take_succ HB.out, HA.out, HSg.out, Bool.true_and]; simp [show 97 ≤ c by omega, show c ≤ 122 by omega], trivial⟩, meas_step hlt⟩
    · have f1 : (97 : Int) ≤ (c : Int) := by omega
      have f2 : ¬ (c : Int) ≤ 122 := by omega
      have f3 : (48 : Int) ≤ (c : Int) := by omega
      have f4 : ¬ (c : Int) ≤ 57 := by omega
      have f5 : ((c : Int) == 45) = false := by simp; omega
      have f6 : ((c : Int) == 46) = false := by simp; omega
      go_wp2_with fail
      go_ret
      rw [nameB_bad HB.out (by rw [HSg.out]; simp; omega)]
      exact ⟨rfl, rfl⟩
    · have f1 : ¬ (97 : Int) ≤ (c : Int) := by omega
      have f3 : (48 : Int) ≤ (c : Int) := by omega
      have f4 : (c : Int) ≤ 57 := by omega
      go_wp2_with fail
      exact ⟨⟨k + 1, by go_num, hlt, by rw [all_take_succ HB.out, HA.out, HSg.out, Bool.true_and]; simp; omega, trivial⟩, meas_step hlt⟩
    · have f1 : ¬ (97 : Int) ≤ (c : Int) := by omega
      have f3 : (48 : Int) ≤ (c : Int) := by omega
      have f4 : ¬ (c : Int) ≤ 57 := by omega
      have f5 : ((c : Int) == 45) = false := by simp; omega
      have f6 : ((c : Int) == 46) = false := by simp; omega
      go_wp2_with fail
      go_ret
      rw [nameB_bad HB.out (by rw [HSg.out]; simp; omega)]
      exact ⟨rfl, rfl⟩
    · subst hcc
      go_wp2_with fail
      exact ⟨⟨k + 1, by go_num, hlt, by rw [all_take_succ HB.out, HA.out, HSg.out]; rfl, trivial⟩, meas_step hlt⟩
    · subst hcc
      go_wp2_with fail
      exact ⟨⟨k + 1, by go_num, hlt, by rw [all_take_succ HB.out, HA.out, HSg.out]; rfl, trivial⟩, meas_step hlt⟩
    · have f1 : ¬ (97 : Int) ≤ (c : Int) := by omega
      have f3 : ¬ (48 : Int) ≤ (c : Int) := by omega
      have f5 : ((c : Int) == 45) = false := by simp; omega
      have f6 : ((c : Int) == 46) = false := by simp; omega
      go_wp2_with fail
      go_ret
      rw [nameB_bad HB.out (by rw [HSg.out]; simp; omega)]
      exact ⟨rfl, rfl⟩
  · have hki : ¬ (k : Int) < (s.size : Int) := by omega
    obtain rfl : k = x.length := by omega
    have hA := HA.out
    rw [List.take_length] at hA
    have hnm : nameB x = (decide (0 < x.length) && decide (x.length ≤ 16)) := by unfold nameB; rw [hA, Bool.true_and]
    have HN := Lib.hid hnm
    clear hnm hA
    by_cases p1 : 0 < x.length
    · have q1 : (0 : Int) < (s.size : Int) := by omega
      by_cases p2 : x.length ≤ 16
      · have q2 : (s.size : Int) ≤ 16 := by omega
        go_wp2_with fail
        go_ret
        rw [HN.out, show (decide (0 < x.length) && decide (x.length ≤ 16)) = true by simp; omega]
        exact ⟨congrArg (fun b => Ending.returned (.bool b)) (show decide ((x.length : Int) ≤ 16) = true by simp; omega), rfl⟩
      · have q2 : ¬ (s.size : Int) ≤ 16 := by omega
        go_wp2_with fail
        go_ret
        rw [HN.out, show (decide (0 < x.length) && decide (x.length ≤ 16)) = false by simp; omega]
        exact ⟨congrArg (fun b => Ending.returned (.bool b)) (show decide ((x.length : Int) ≤ 16) = false by simp; omega), rfl⟩
    · have q1 : ¬ (0 : Int) < (s.size : Int) := by omega
      go_wp2_with fail
      go_ret
      rw [HN.out, show (decide (0 < x.length) && decide (x.length ≤ 16)) = false by simp; omega]
      exact ⟨rfl, rfl⟩

theorem arrD : WideMaps.ArrKey Tryz.prog 96 5 32 := ⟨Tryz.underlying96, by kernel_rfl, by kernel_rfl, by kernel_rfl⟩
theorem types_some : ∃ m, Tryz.prog.types.size = m + 1 := ⟨Tryz.prog.types.size - 1, by decide +kernel⟩
theorem mapM_all {α β : Type} {f : α → Option β} {g : α → β} : ∀ (l : List α), (∀ x ∈ l, f x = some (g x)) → l.mapM f = some (l.map g)
  | [], _ => rfl
  | a :: l, h => by
    rw [List.mapM_cons, h a (by simp), mapM_all l (fun x hx => h x (by simp [hx]))]; rfl
theorem dig_reads (d : Dg) (h : d.length = 32) : ∃ l, keyOf Tryz.prog 96 (.agg (cellsB d).toArray) = some l := by
  have hcl : (cellsB d).length = 32 := by rw [cellsB_length, h]
  have hl : ∀ D, (List.range 32).mapM (fun i => Tryz.prog.keyLits (D + 1) 5 (((cellsB d).drop (i * 1)).take 1)) = some ((List.range 32).map (fun i => [Lit.int .u8 ((d.getD i 0).toNat : Int)])) := by
    intro D
    refine mapM_all _ (fun i hi => ?_)
    have hi : i < 32 := List.mem_range.1 hi
    have hg : ((cellsB d).drop (i * 1)).take 1 = [.int .u8 ((d.getD i 0).toNat : Int)] := by
      rw [Nat.mul_one]
      apply List.ext_getElem?
      intro j
      rw [List.getElem?_take]
      by_cases hj : j < 1
      · obtain rfl : j = 0 := by omega
        rw [if_pos (by omega), List.getElem?_drop, Nat.add_zero]
        simp only [cellsB, List.getElem?_map, List.getElem?_eq_getElem (show i < d.length by omega), List.getD, Option.map_some, Option.getD_some, List.getElem?_cons_zero]
      · rw [if_neg hj, List.getElem?_eq_none (by simp; omega)]
    rw [hg]
    unfold Program.keyLits
    rw [Tryz.underlying5]
    have hb := (d.getD i 0).toNat_lt
    have hwf : (Lit.int .u8 ((d.getD i 0).toNat : Int)).wf = true := by
      obtain ⟨n, hn⟩ : ∃ n, (d.getD i 0).toNat = n := ⟨_, rfl⟩
      rw [hn] at hb ⊢
      simp [Lit.wf, IntKind.min, IntKind.max, IntKind.signed, IntKind.bits]
      omega
    simp only [hwf, and_self, if_true]
  obtain ⟨m, hm⟩ := types_some
  unfold keyOf
  simp only [arrD.hu]
  rw [if_pos (by simp [arrD.keyType types_some, Value.formed, arrD.hu, arrD.size, hcl]), hm]
  unfold Program.keyLits
  simp only [arrD.hu, Value.cells]
  rw [if_pos (by rw [arrD.size]; simpa using hcl), show Tryz.prog.cellsOf 5 = 1 from arrD.one]
  rw [hl]
  exact ⟨_, rfl⟩

def dgK : KeyEnc Tryz.prog 96 Dg where
  enc d := .agg (cellsB d).toArray
  ok d := d.length = 32
  keyed := Keyed.of_law arrD.law
  reads := dig_reads
  inj := fun k k' h => by
    have h1 : (cellsB k).toArray = (cellsB k').toArray := by injection h
    have h2 : cellsB k = cellsB k' := by simpa using congrArg Array.toList h1
    unfold cellsB at h2
    exact (List.map_inj_right (fun a b h => by injection h with _ h; exact UInt8.toNat_inj.1 (by omega))).1 h2

end Go.Proofs.YtbjagmlbamjdbaaGreat.roots
end

section
namespace Go.Proofs.YtbjagmlbamjdbaaGreat.roots
open Go.RowKit Go.Maps Go.My Go.ChangeMaps disks bufs wals kvs
set_option maxRecDepth 100000

variable {w w' : World}

def InF (F : Nat → Prop) (oa : Option Addr) (n : Nat) : Prop := n ≠ 0 → ∀ b off, oa = some ⟨b, off, none⟩ → F b
theorem rows_keptF {w w' : World} {n m : Nat} {oa : Option Addr} {l : List (List Value)} (h : RowsAt w n oa l) {S F : Nat → Prop} (hc : Chg S w w') (hF : InF F oa m) (hm : l.length = m) (hs : ∀ k, F k → ¬ S k) : RowsAt w' n oa l :=
  ⟨h.spot, h.row, fun b off ho i r j v hi hj => by
    have h1 := h.cell b off ho i r j v hi hj
    refine hc.cell h1 (hs _ (hF ?_ b off ho))
    intro e
    have := (List.getElem?_eq_some_iff.1 hi).1
    omega⟩

def rfC (x : Rf) : List Value := cellsB x.sum ++ [.int .i64 x.size]
structure LysAt (w : World) (F : Nat → Prop) (v : Value) (l : List Rf) : Prop where
  is : ∃ oa cap, v = .slice oa l.length cap ∧ RowsAt w 33 oa (l.map rfC) ∧ InF F oa l.length ∧ l.length ≤ cap ∧ cap ≤ maxLen
  dig : ∀ x ∈ l, x.sum.length = 32
def pkC (p : Pk) (v : Value) : List Value := [.int .i64 p.owner, strV p.man.name, strV p.man.ver, v]
structure PksAt (w : World) (F : Nat → Prop) (v : Value) (l : List Pk) : Prop where
  is : ∃ oa cap, ∃ lv : List Value, v = .slice oa l.length cap ∧ lv.length = l.length ∧ RowsAt w 4 oa (List.zipWith pkC l lv) ∧ InF F oa l.length ∧ (∀ (i : Nat) (p : Pk) (u : Value), l[i]? = some p → lv[i]? = some u → LysAt w F u p.man.layers) ∧ l.length ≤ cap ∧ cap ≤ maxLen
  txt : ∀ p ∈ l, p.man.name.length ≤ maxLen ∧ p.man.ver.length ≤ maxLen

theorem LysAt.kept {F S : Nat → Prop} {v : Value} {l : List Rf} (h : LysAt w F v l) (hc : Chg S w w') (hs : ∀ k, F k → ¬ S k) : LysAt w' F v l := by
  obtain ⟨oa, cap, h1, h2, h3, h4⟩ := h.is
  exact ⟨⟨oa, cap, h1, rows_keptF h2 hc h3 (List.length_map ..) hs, h3, h4⟩, h.dig⟩
theorem LysAt.fresh {F : Nat → Prop} {v : Value} {l : List Rf} (h : LysAt w F v l) (hc : Chg (fun _ => False) w w') : LysAt w' F v l := h.kept hc (fun _ _ h => h)
theorem LysAt.wide {F F' : Nat → Prop} {v : Value} {l : List Rf} (h : LysAt w F v l) (hs : ∀ k, F k → F' k) : LysAt w F' v l := by
  obtain ⟨oa, cap, h1, h2, h3, h4⟩ := h.is
  exact ⟨⟨oa, cap, h1, h2, fun hn b off ho => hs _ (h3 hn b off ho), h4⟩, h.dig⟩
theorem PksAt.kept {F S : Nat → Prop} {v : Value} {l : List Pk} (h : PksAt w F v l) (hc : Chg S w w') (hs : ∀ k, F k → ¬ S k) : PksAt w' F v l := by
  obtain ⟨oa, cap, lv, h1, h2, h3, h4, h5, h6⟩ := h.is
  exact ⟨⟨oa, cap, lv, h1, h2, rows_keptF h3 hc h4 (by rw [List.length_zipWith]; omega) hs, h4, fun i p u hi hu => (h5 i p u hi hu).kept hc hs, h6⟩, h.txt⟩
theorem PksAt.fresh {F : Nat → Prop} {v : Value} {l : List Pk} (h : PksAt w F v l) (hc : Chg (fun _ => False) w w') : PksAt w' F v l := h.kept hc (fun _ _ h => h)
theorem PksAt.wide {F F' : Nat → Prop} {v : Value} {l : List Pk} (h : PksAt w F v l) (hs : ∀ k, F k → F' k) : PksAt w F' v l := by
  obtain ⟨oa, cap, lv, h1, h2, h3, h4, h5, h6⟩ := h.is
  exact ⟨⟨oa, cap, lv, h1, h2, h3, fun hn b off ho => hs _ (h4 hn b off ho), fun i p u hi hu => (h5 i p u hi hu).wide hs, h6⟩, h.txt⟩
theorem LysAt.nil (w : World) (F : Nat → Prop) : LysAt w F (.slice none 0 0) [] := ⟨⟨none, 0, rfl, ⟨fun h => absurd rfl h, by simp, by simp⟩, fun h => absurd rfl h, Nat.le_refl _, by unfold maxLen; omega⟩, by simp⟩
theorem PksAt.nil (w : World) (F : Nat → Prop) : PksAt w F (.slice none 0 0) [] :=
  ⟨⟨none, 0, [], rfl, rfl, ⟨fun h => absurd rfl h, by simp, by simp⟩, fun h => absurd rfl h, by simp, Nat.le_refl _, by unfold maxLen; omega⟩, by simp⟩

theorem oper_look {P : Program} {o : Oper} {a : Go.Act} {w : World} {K : Go.Act → World → Prop} {Q : Exit → Go.Act → World → Prop} (t : TypeId) (x y : Operand)
    (ho : o.op = .lookup t x y false) {xv yv v : Value} (hx : a.eval x = xv) (hy : a.eval y = yv)
    (hr : (Instr.lookup t xv yv false).run P w = .ok v w) (h : K (a.put o.dst v) w) : Oper.wp P o a w K Q := by
  unfold Oper.wp
  simp only [execOp, ho, hx, hy]
  simp [hr, Result.andThen]
  exact h
theorem oper_entry {P : Program} {o : Oper} {a : Go.Act} {w w' : World} {K : Go.Act → World → Prop} {Q : Exit → Go.Act → World → Prop} (t : TypeId) (x y : Operand)
    (ho : o.op = .mapEntry t x y) {xv yv v : Value} (hx : a.eval x = xv) (hy : a.eval y = yv)
    (hr : (Instr.mapEntry t xv yv).run P w = .ok v w') (h : K (a.put o.dst v) w') : Oper.wp P o a w K Q := by
  unfold Oper.wp
  simp only [execOp, ho, hx, hy]
  simp [hr, Result.andThen]
  exact h
theorem oper_estore {P : Program} {o : Oper} {a : Go.Act} {w w' : World} {K : Go.Act → World → Prop} {Q : Exit → Go.Act → World → Prop} (t : TypeId) (x y u : Operand)
    (ho : o.op = .entryStore t x y u) {xv yv uv : Value} (hx : a.eval x = xv) (hy : a.eval y = yv) (hu : a.eval u = uv)
    (hr : (Instr.entryStore t xv yv uv).run P w = .ok () w') (h : K (a.put o.dst (.tuple #[])) w') : Oper.wp P o a w K Q := by
  unfold Oper.wp
  simp only [execOp, ho, hx, hy, hu]
  simp [hr, Result.andThen]
  exact h
theorem mput_len {K V : Type} [DecidableEq K] (m : List (K × V)) (k : K) (v : V) : (mput m k v).length ≤ m.length + 1 := by
  unfold mput
  split
  · simp
  · simp
theorem zero_int (w : World) : (zeroValue 3).run Tryz.prog w = .ok (.int .i64 0) w := by kernel_rfl
theorem size_ref : (Tryz.prog.info? 98).map (·.size) = some 33 := by kernel_rfl
theorem size_dig : (Tryz.prog.info? 96).map (·.size) = some 32 := by kernel_rfl

theorem name_s (w : World) (s : ByteArray) (hs : s.size ≤ maxLen) : Calls Tryz.prog 86 #[.string s] w fun e w' => e = .returned (.bool (nameB s.data.toList)) ∧ w = w' := by
  have h := name_is w s.data.toList (show s.data.toList.length ≤ maxLen from hs)
  have e : strV s.data.toList = .string s := by
    show Value.string ⟨s.data.toList.toArray⟩ = .string s
    rw [Array.toArray_toList]
  rw [e] at h
  exact h

set_option maxHeartbeats 2000000 in
theorem mcheck_is (w : World) (m : Mf) {F : Nat → Prop} {v : Value} (h : LysAt w F v m.layers) (h1 : m.name.length ≤ maxLen) (h2 : m.ver.length ≤ maxLen) :
    Calls Tryz.prog 41 #[.agg #[strV m.name, strV m.ver, v]] w fun e w' => e = .returned (.int .i64 (mchkF m : Int)) ∧ Chg (fun _ => False) w w' := by
  have hmm := @run_makeMap Tryz.prog
  obtain ⟨nm, vr, L⟩ := m
  simp only at h h1 h2 ⊢
  obtain ⟨oa, cap, rfl, hr, -, -, -⟩ := h.is
  have HD := Lib.hid h.dig
  have H := Lib.hid hr
  obtain ⟨R, hR⟩ : ∃ R, mchkF ⟨nm, vr, L⟩ = R := ⟨_, rfl⟩
  rw [hR]
  have HR := Lib.hid hR
  have hchg := @Chg.refl (fun _ => False) w
  obtain ⟨sn, hsn⟩ : ∃ s, strV nm = .string s := ⟨_, rfl⟩
  obtain ⟨sv, hsv⟩ : ∃ s, strV vr = .string s := ⟨_, rfl⟩
  have hcx := hchg.alloc (.cells #[.string sn, .string sv, .slice oa L.length cap] 88)
  have hn1 : nameB sn.data.toList = nameB nm := by rw [strV_string nm sn hsn]
  have hn2 : nameB sv.data.toList = nameB vr := by rw [strV_string vr sv hsv]
  have HSs := Lib.hid (show ∀ s, s = sn ∨ s = sv → s.size ≤ maxLen from fun s h => by
    rcases h with rfl | rfl
    · rw [str_size nm s hsn]; exact h1
    · rw [str_size vr s hsv]; exact h2)
  rw [hsn, hsv]
  clear h hr hR h1 h2 hsn hsv hchg
  cases b1 : nameB nm with
  | false =>
    have hR : R = 2 := by rw [← HR.out]; unfold mchkF; rw [if_pos (Or.inl b1)]
    subst hR
    rw [b1] at hn1
    have HN1 := Lib.hid hn1
    have HN2 := Lib.hid hn2
    have HCx := Lib.hid hcx
    clear hn1 hn2 hcx HR b1
    go_enter Tryz.func41, Tryz.ntmps41
    go_wp2_with (go_at_call 86; refine (name_s _ _ (HSs.out _ (by simp))).mono ?_; first | rw [HN1.out] | rw [HN2.out]
                 rintro e w1 ⟨rfl, rfl⟩)
    go_ret
    exact ⟨rfl, HCx.out⟩
  | true =>
  cases b2 : nameB vr with
  | false =>
    have hR : R = 2 := by rw [← HR.out]; unfold mchkF; rw [if_pos (Or.inr b2)]
    subst hR
    rw [b1] at hn1
    rw [b2] at hn2
    have HN1 := Lib.hid hn1
    have HN2 := Lib.hid hn2
    have HCx := Lib.hid hcx
    clear hn1 hn2 hcx HR b1 b2
    go_enter Tryz.func41, Tryz.ntmps41
    go_wp2_with (go_at_call 86; refine (name_s _ _ (HSs.out _ (by simp))).mono ?_; first | rw [HN1.out] | rw [HN2.out]
                 rintro e w1 ⟨rfl, rfl⟩)
    go_ret
    exact ⟨rfl, HCx.out⟩
  | true =>
  have hR : R = if L.length = 0 then 9 else if 8 < L.length then 3 else layF [] L := by
    rw [← HR.out]; unfold mchkF; rw [if_neg (by simp [b1, b2])]
  rw [b1] at hn1
  rw [b2] at hn2
  have HN1 := Lib.hid hn1
  have HN2 := Lib.hid hn2
  have HCx := Lib.hid hcx
  clear hn1 hn2 hcx HR b1 b2
  by_cases h0 : L.length = 0
  · rw [if_pos h0] at hR
    subst hR
    have h0i : ((L.length : Int) == 0) = true := by simp [h0]
    clear h0
    go_enter Tryz.func41, Tryz.ntmps41
    go_wp2_with (go_at_call 86; refine (name_s _ _ (HSs.out _ (by simp))).mono ?_; first | rw [HN1.out] | rw [HN2.out]
                 rintro e w1 ⟨rfl, rfl⟩)
    go_ret
    exact ⟨rfl, HCx.out⟩
  rw [if_neg h0] at hR
  have h0i : ((L.length : Int) == 0) = false := by simpa using h0
  by_cases h8 : 8 < L.length
  · rw [if_pos h8] at hR
    subst hR
    have h8i : (8 : Int) < (L.length : Int) := by omega
    clear h0 h8
    go_enter Tryz.func41, Tryz.ntmps41
    go_wp2_with (go_at_call 86; refine (name_s _ _ (HSs.out _ (by simp))).mono ?_; first | rw [HN1.out] | rw [HN2.out]
                 rintro e w1 ⟨rfl, rfl⟩)
    go_ret
    exact ⟨rfl, HCx.out⟩
  rw [if_neg h8] at hR
  have h8i : ¬ (8 : Int) < (L.length : Int) := by omega
  have HL := Lib.hid h8
  have HR := Lib.hid hR
  obtain ⟨b, off, rfl⟩ := H.out.spot (by intro e; rw [List.map_eq_nil_iff] at e; rw [e] at h0; exact h0 rfl)
  clear h0 h8 hR
  go_enter Tryz.func41, Tryz.ntmps41
  go_wp2_with (go_at_call 86; refine (name_s _ _ (HSs.out _ (by simp))).mono ?_; first | rw [HN1.out] | rw [HN2.out]
               rintro e w1 ⟨rfl, rfl⟩)
  obtain ⟨w0, hw0⟩ : ∃ w0, (w.alloc (.cells #[.string sn, .string sv, .slice (some ⟨b, off, none⟩) L.length cap] 88)).alloc (.map #[] 0) = w0 := ⟨_, rfl⟩
  rw [hw0]
  have hmp : MapIs dgK (Value.int .i64) w0 (w.heap.size + 1) [] := MapIs.made (clock := 0) _ _ (by subst hw0; simp only [heap_alloc_get, World.size_alloc]; rw [if_pos trivial])
  have hc0 : Chg (fun _ => False) w w0 := by subst hw0; exact ((Chg.refl _ _).alloc _).alloc _
  have HMp := Lib.hid hmp
  have HC0 := Lib.hid hc0
  clear hmp hc0 hw0
  go_loopw [31] (fun j wr => ∃ (k : Nat) (mp : List (Dg × Int)) (seen : List Dg), j = .int .i64 k ∧ k ≤ L.length ∧ MapIs dgK (Value.int .i64) wr (w.heap.size + 1) mp ∧ mp.length ≤ k ∧ (∀ d, (mget mp d).getD 0 = if d ∈ seen then 1 else 0) ∧ R = layF seen (L.drop k) ∧ Chg (fun _ => False) w wr) (fun j _ => L.length - (intOf j).toNat)
  · exact ⟨0, [], [], rfl, Nat.zero_le _, HMp.out, Nat.le_refl _, fun d => by simp [mget], HR.out, HC0.out⟩
  clear HMp HC0 HR
  obtain ⟨k, mp, seen, rfl, hk, hM, hml, hsn, hlf, hc⟩ := hrel
  have HM := Lib.hid hM
  have HMl := Lib.hid hml
  have HSn := Lib.hid hsn
  have HLf := Lib.hid hlf
  have HC := Lib.hid hc
  clear hM hml hsn hlf hc
  by_cases hlt : k < L.length
  · have hki : (k : Int) < (L.length : Int) := by omega
    obtain ⟨x, hx⟩ : ∃ x, L[k]? = some x := ⟨L[k], List.getElem?_eq_getElem hlt⟩
    have hdr : L.drop k = x :: L.drop (k + 1) := by rw [List.drop_eq_getElem_cons hlt]; congr 1; exact (List.getElem?_eq_some_iff.1 hx).2
    have hlf := HLf.out
    rw [hdr, layF] at hlf
    have HLf1 := Lib.hid hlf
    have hok : dgK.ok x.sum := HD.out x (List.mem_of_getElem? hx)
    have hb32 : x.sum.length = 32 := hok
    have hlen : (rfC x).length = 33 := by simp [rfC, cellsB_length, hb32]
    have hrng : wr.rangeAt b (off + k * 33) (rfC x) := fun j v hj => (H.out.kept HC.out (fun _ _ h => h)).cell b off rfl k (rfC x) j v (by rw [List.getElem?_map, hx]; rfl) hj
    have hone : ∀ v ∈ rfC x, v.oneCell' = true := by
      intro v hv
      simp only [rfC, cellsB, List.mem_append, List.mem_map, List.mem_singleton] at hv
      rcases hv with ⟨z, -, rfl⟩ | rfl <;> rfl
    have HRng := Lib.hid hrng
    have HOne := Lib.hid hone
    have HLen := Lib.hid hlen
    have HOk := Lib.hid hok
    have HDl := Lib.hid (show (cellsB x.sum).length = 32 by rw [cellsB_length, hb32])
    obtain ⟨row, hrow⟩ : ∃ row, rfC x = row := ⟨_, rfl⟩
    rw [hrow] at HRng HOne HLen
    have HRow := Lib.hid hrow
    clear hx hb32 hok hlen hrng hone hrow hdr hlf HLf
    have hba := block_alloc_new wr (.cells row.toArray 98)
    have hca : Chg (fun _ => False) wr (wr.alloc (.cells row.toArray 98)) := (Chg.refl _ _).alloc _
    have hsA : (wr.alloc (.cells row.toArray 98)).heap.size = wr.heap.size + 1 := World.size_alloc _ _
    obtain ⟨wA, hwA⟩ : ∃ wA, wr.alloc (.cells row.toArray 98) = wA := ⟨_, rfl⟩
    rw [hwA] at hba hca hsA
    have a32 : wA.cell? ⟨wr.heap.size, 32, none⟩ = some (.int .i64 x.size) := cell_of_block hba (by rw [List.getElem?_toArray, ← HRow.out, rfC, List.getElem?_append_right (by rw [HDl.out]; exact Nat.le_refl _), HDl.out]; rfl)
    have hrd : wA.rangeAt wr.heap.size 0 (cellsB x.sum) := fun j v hj => by
      rw [Nat.zero_add]
      refine cell_of_block hba ?_
      rw [List.getElem?_toArray, ← HRow.out, rfC, List.getElem?_append_left (List.getElem?_eq_some_iff.1 hj).1]
      exact hj
    have hMA := HM.out.kept hca id
    have hlr : ∀ o : Option Int, lookRes false (.int .i64 0) (Value.int .i64) o = .int .i64 (o.getD 0) := fun o => by cases o <;> rfl
    have hlk : (Instr.lookup 156 (.map (some (w.heap.size + 1))) (.agg (cellsB x.sum).toArray) false).run Tryz.prog wA = .ok (.int .i64 (if x.sum ∈ seen then 1 else 0)) wA := by
      have := hMA.look Tryz.underlying156 (zero_int _) false x.sum HOk.out
      rw [hlr, HSn.out] at this
      exact this
    obtain ⟨z, hz⟩ : ∃ z, x.size = z := ⟨_, rfl⟩
    rw [hz] at a32 HLf1
    have HRd := Lib.hid hrd
    have HMA := Lib.hid hMA
    have HCA := Lib.hid hca
    have HSA := Lib.hid hsA
    have HLr := Lib.hid hlr
    have HLk := Lib.hid hlk
    clear hba hrd hMA hca hsA hlr hz hlk
    by_cases hz0 : z < 0
    · have hl := HLf1.out
      rw [if_pos (Or.inl hz0)] at hl
      subst hl
      go_wp2_with (first
        | (refine wpList_load_mid rfl 98 _ rfl b (off + k * 33) rfl row _ HRng.out Tryz.underlying98 rfl (size_ref.trans (by rw [HLen.out])) ?_)
        | (refine wpList_store_new rfl 98 _ _ rfl row.toArray rfl rfl (size_ref.trans (by rw [List.size_toArray, HLen.out])) (by rw [show row.toArray.size = 33 from by rw [List.size_toArray, HLen.out]]; rfl) (all_oneCell_toArray HOne.out) ?_))
      go_ret
      exact ⟨rfl, HC.out.trans' HCA.out⟩
    by_cases hz1 : 2147483647 < z
    · have hl := HLf1.out
      rw [if_pos (Or.inr hz1)] at hl
      subst hl
      go_wp2_with (first
        | (refine wpList_load_mid rfl 98 _ rfl b (off + k * 33) rfl row _ HRng.out Tryz.underlying98 rfl (size_ref.trans (by rw [HLen.out])) ?_)
        | (refine wpList_store_new rfl 98 _ _ rfl row.toArray rfl rfl (size_ref.trans (by rw [List.size_toArray, HLen.out])) (by rw [show row.toArray.size = 33 from by rw [List.size_toArray, HLen.out]]; rfl) (all_oneCell_toArray HOne.out) ?_))
      go_ret
      exact ⟨rfl, HC.out.trans' HCA.out⟩
    have hl := HLf1.out
    rw [if_neg (by omega)] at hl
    have hlk := HLk.out
    by_cases hse : x.sum ∈ seen
    · rw [if_pos hse] at hl hlk
      subst hl
      clear hse
      go_wp2_with (first
        | (refine wpList_load_mid rfl 98 _ rfl b (off + k * 33) rfl row _ HRng.out Tryz.underlying98 rfl (size_ref.trans (by rw [HLen.out])) ?_)
        | (refine wpList_store_new rfl 98 _ _ rfl row.toArray rfl rfl (size_ref.trans (by rw [List.size_toArray, HLen.out])) (by rw [show row.toArray.size = 33 from by rw [List.size_toArray, HLen.out]]; rfl) (all_oneCell_toArray HOne.out) ?_)
        | (refine wpList_load_mid rfl 96 _ rfl wr.heap.size 0 rfl (cellsB x.sum) _ HRd.out Tryz.underlying96 rfl (size_dig.trans (by rw [HDl.out])) ?_))
      go_ret
      exact ⟨rfl, HC.out.trans' HCA.out⟩
    rw [if_neg hse] at hl hlk
    have hg0 : (mget mp x.sum).getD 0 = 0 := by rw [HSn.out, if_neg hse]
    have HLf2 := Lib.hid hl
    have HG0 := Lib.hid hg0
    have HSn2 := Lib.hid (show ∀ d, (mget (mput mp x.sum (IntKind.i64.wrap (0 + 1))) d).getD 0 = if d ∈ x.sum :: seen then 1 else 0 from fun d => by
      rw [mget_mput]
      by_cases hd : d = x.sum
      · rw [if_pos hd, if_pos (by simp [hd])]; rfl
      · rw [if_neg hd, HSn.out]
        by_cases h' : d ∈ seen
        · rw [if_pos h', if_pos (by simp [h'])]
        · rw [if_neg h', if_neg (by simp [h', hd])])
    clear hl hg0 hse HLf1
    go_wp2_with (first
      | (refine wpList_load_mid rfl 98 _ rfl b (off + k * 33) rfl row _ HRng.out Tryz.underlying98 rfl (size_ref.trans (by rw [HLen.out])) ?_)
      | (refine wpList_store_new rfl 98 _ _ rfl row.toArray rfl rfl (size_ref.trans (by rw [List.size_toArray, HLen.out])) (by rw [show row.toArray.size = 33 from by rw [List.size_toArray, HLen.out]]; rfl) (all_oneCell_toArray HOne.out) ?_)
      | (refine wpList_load_mid rfl 96 _ rfl wr.heap.size 0 rfl (cellsB x.sum) _ HRd.out Tryz.underlying96 rfl (size_dig.trans (by rw [HDl.out])) ?_))
    have hql : w.heap.size + 1 < wr.heap.size := HM.out.lt
    have hdr : Chg (fun _ => False) wA wA.drew := (Chg.refl _ _).drew
    have hMd := HMA.out.kept hdr id
    have hlk1 : (Instr.lookup 156 (.map (some (w.heap.size + 1))) (.agg (cellsB x.sum).toArray) false).run Tryz.prog wA.drew = .ok (.int .i64 0) wA.drew := by
      have := hMd.look Tryz.underlying156 (zero_int _) false x.sum HOk.out
      rw [HLr.out, HG0.out] at this
      exact this
    obtain ⟨x0, st, ob, m1, hent, hM1, hm1, hst⟩ := hMd.entry arrD.law Tryz.underlying156 0 zero_int (by have := HMl.out; have := HL.out; unfold maxLen; omega) x.sum HOk.out
    have hent : (Instr.mapEntry 156 (.map (some (w.heap.size + 1))) (.agg (cellsB x.sum).toArray)).run Tryz.prog wA.drew = .ok (.tuple #[x0, goInt st]) (setBlock wA.drew (w.heap.size + 1) ob) := hent
    have hc1 : Chg (· = w.heap.size + 1) wA.drew (setBlock wA.drew (w.heap.size + 1) ob) := Chg.setBlock (S := (· = w.heap.size + 1)) (Chg.refl _ _) (fun _ => rfl) _
    obtain ⟨w1, hw1⟩ : ∃ w1, setBlock wA.drew (w.heap.size + 1) ob = w1 := ⟨_, rfl⟩
    have hob : w1.heap[w.heap.size + 1]? = some ob := by
      rw [← hw1]
      obtain ⟨es, clock, hb, _⟩ := hMd
      exact heap_setBlock_same hb _
    rw [hw1] at hent hM1 hc1
    have hlk2 : (Instr.lookup 156 (.map (some (w.heap.size + 1))) (.agg (cellsB x.sum).toArray) false).run Tryz.prog w1 = .ok (.int .i64 0) w1 := by
      have := hM1.look Tryz.underlying156 (zero_int _) false x.sum HOk.out
      rw [HLr.out, hm1, HG0.out] at this
      exact this
    obtain ⟨ob2, hst1, hM2⟩ := hst w1 (IntKind.i64.wrap (0 + 1)) hob
    have hc2 : Chg (· = w.heap.size + 1) w1 (setBlock w1 (w.heap.size + 1) ob2) := Chg.setBlock (S := (· = w.heap.size + 1)) (Chg.refl _ _) (fun _ => rfl) _
    obtain ⟨w2, hw2⟩ : ∃ w2, setBlock w1 (w.heap.size + 1) ob2 = w2 := ⟨_, rfl⟩
    rw [hw2] at hst1 hM2 hc2
    have hne : ¬ wr.heap.size = w.heap.size + 1 := by omega
    have r1 : w1.rangeAt wr.heap.size 0 (cellsB x.sum) := fun j v hj => hc1.cell (hdr.cell (HRd.out j v hj) id) hne
    have r2 : w2.rangeAt wr.heap.size 0 (cellsB x.sum) := fun j v hj => hc2.cell (r1 j v hj) hne
    have HM2 := Lib.hid hM2
    have HC2 := Lib.hid (((HC.out.trans' HCA.out).trans' hdr).new (hc1.trans' hc2) (fun j e => by omega))
    clear hM2 hc1 hc2 hw1 hw2 hob hM1 hm1 hst hMd hdr hlk
    refine wp_region_noPanic ?_
    refine wp_region_held_drew (S := (fun w' => w'.rangeAt wr.heap.size 0 (cellsB x.sum))) (by kernel_rfl) (HRd.out) (fun hHeld => ?_)
    refine tk 0 (v := ?_) hHeld rfl (fun w hSw => ?_) ?_
    rotate_left
    · go_simp
      try with_reducible rfl
    simp only [Act.put, zA, zB, zC]
    refine tk 1 (v := ?_) hHeld rfl (fun w hSw => ?_) ?_
    rotate_left
    · go_simp
      try with_reducible rfl
    simp only [Act.put, zA, zB, zC]
    refine take_list (i := 2) rfl (by kernel_rfl) (by kernel_rfl) (by kernel_rfl) (fun _ _ _ h => h) (yieldsIf_load_mid (by rfl) 96 _ rfl wr.heap.size 0 rfl (cellsB x.sum) _ (fun w h => h) Tryz.underlying96 rfl (size_dig.trans (by rw [HDl.out]))) hHeld ?_
    simp only [Act.put, zA, zB, zC]
    refine wpAnyH_ready (rs := [3, 5]) (by kernel_rfl) (by simp) (one_list (i := 3) rfl (by rfl) (fun K hK => ?_) (one_list (i := 5) rfl (by rfl) (fun K hK => ?_) AllReadyH.nil))
    · refine oper_look _ _ _ rfl rfl rfl hlk1 ?_
      refine hK _ _ ((fun j v hj => (show Chg (fun _ => False) wA wA.drew from (Chg.refl _ _).drew).cell (HRd.out j v hj) id)) (fun hA1 => ?_)
      try simp only [Act.put, zA, zB, zC]
      refine tk 4 (v := ?_) hA1 rfl (fun w hSw => ?_) ?_
      rotate_left
      · go_simp
        try with_reducible rfl
      simp only [Act.put, zA, zB, zC]
      refine on1 5 rfl (fun K hK => ?_)
      refine oper_entry _ _ _ rfl rfl rfl hent ?_
      refine hK _ _ (r1) (fun hA2 => ?_)
      try simp only [Act.put, zA, zB, zC]
      refine tk 6 (v := ?_) hA2 rfl (fun w hSw => ?_) ?_
      rotate_left
      · go_simp
        try with_reducible rfl
      simp only [Act.put, zA, zB, zC]
      refine on1 7 rfl (fun K hK => ?_)
      refine oper_estore (xv := .map (some (w.heap.size + 1))) (yv := goInt st) (uv := .int .i64 (IntKind.i64.wrap (0 + 1))) _ _ _ _ rfl rfl rfl rfl hst1 ?_
      refine hK _ _ r2 (fun hA3 => ?_)
      simp only [Act.put]
      refine wpAnyH_done (by kernel_rfl) ?_ _
      refine NoPanic.normal ?_
      go_wp2_with fail
      exact ⟨⟨k + 1, _, _, by go_num, hlt, HM2.out, by have := HMl.out; have := mput_len mp x.sum (IntKind.i64.wrap (0 + 1)); omega, HSn2.out, HLf2.out, HC2.out⟩, meas_step hlt⟩
    · refine oper_entry _ _ _ rfl rfl rfl hent ?_
      refine hK _ _ (r1) (fun hB1 => ?_)
      try simp only [Act.put, zA, zB, zC]
      refine tk 6 (v := ?_) hB1 rfl (fun w hSw => ?_) ?_
      rotate_left
      · go_simp
        try with_reducible rfl
      simp only [Act.put, zA, zB, zC]
      refine on1 3 rfl (fun K hK => ?_)
      refine oper_look _ _ _ rfl rfl rfl hlk2 ?_
      refine hK _ _ (r1) (fun hB2 => ?_)
      try simp only [Act.put, zA, zB, zC]
      refine tk 4 (v := ?_) hB2 rfl (fun w hSw => ?_) ?_
      rotate_left
      · go_simp
        try with_reducible rfl
      simp only [Act.put, zA, zB, zC]
      refine on1 7 rfl (fun K hK => ?_)
      refine oper_estore (xv := .map (some (w.heap.size + 1))) (yv := goInt st) (uv := .int .i64 (IntKind.i64.wrap (0 + 1))) _ _ _ _ rfl rfl rfl rfl hst1 ?_
      refine hK _ _ r2 (fun hB3 => ?_)
      simp only [Act.put]
      refine wpAnyH_done (by kernel_rfl) ?_ _
      refine NoPanic.normal ?_
      go_wp2_with fail
      exact ⟨⟨k + 1, _, _, by go_num, hlt, HM2.out, by have := HMl.out; have := mput_len mp x.sum (IntKind.i64.wrap (0 + 1)); omega, HSn2.out, HLf2.out, HC2.out⟩, meas_step hlt⟩
  · have hki : ¬ (k : Int) < (L.length : Int) := by omega
    have hl := HLf.out
    rw [List.drop_eq_nil_of_le (by omega), layF] at hl
    subst hl
    go_wp2_with fail
    go_ret
    exact ⟨rfl, HC.out⟩

end Go.Proofs.YtbjagmlbamjdbaaGreat.roots
end
