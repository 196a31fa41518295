/-
  kv: the plain model: numbers by sevens of bits, changes, batches as bytes, and back.
-/
import Derived.Test.YtbkefhoapnaciaaGreatPkAa
import Derived.Test.YtbkefhoapnaciaaGreatPkAb
import Derived.Test.YtbkefhoapnaciaaGreatPkAg
import Derived.Lib.Bytealg
import Derived.WalkLawsBesides
import Derived.BigQuiet
import Derived.Lib.LazyBuf
import Derived.Deep.QuietTactic
import Derived.Lib.Hide

section
set_option linter.unusedSimpArgs false
set_option linter.unusedVariables false
namespace Go.Proofs.YtbkefhoapnaciaaGreat.kvs
open Go.My

abbrev Txt := List UInt8

/-! ### numbers by sevens of bits -/
def varN : Nat → Nat → Txt
  | 0, n => [UInt8.ofNat n]
  | k + 1, n => if 128 ≤ n then UInt8.ofNat (n % 128 + 128) :: varN k (n / 128) else [UInt8.ofNat n]
def varB (n : Nat) : Txt := varN 9 n

/-- What ReadVar says from place i on, with v ahead of it: the number, how many bytes, the error. -/
def rdN : Nat → Nat → Nat → Txt → Nat × Nat × Nat
  | 0, _, _, _ => (0, 0, 5)
  | _ + 1, _, _, [] => (0, 0, 4)
  | k + 1, i, v, c :: b => if i = 9 ∧ 1 < c.toNat then (0, 0, 5)
      else if c.toNat < 128 then (if c.toNat = 0 ∧ 0 < i then (0, 0, 5) else (v + c.toNat * 128 ^ i, i + 1, 0))
      else rdN k (i + 1) (v + c.toNat % 128 * 128 ^ i) b
def rdV (b : Txt) : Nat × Nat × Nat := rdN 10 0 0 b

theorem toNat_ofNat_lt {n : Nat} (h : n < 256) : (UInt8.ofNat n).toNat = n := by
  rw [UInt8.toNat_ofNat']; exact Nat.mod_eq_of_lt h

theorem varN_length (k n : Nat) : (varN k n).length ≤ k + 1 ∧ 1 ≤ (varN k n).length := by
  induction k generalizing n with
  | zero => simp [varN]
  | succ k ih =>
    unfold varN
    split
    · have := ih (n / 128); simp only [List.length_cons]; omega
    · simp
theorem varB_length (n : Nat) : (varB n).length ≤ 10 ∧ 1 ≤ (varB n).length := varN_length 9 n

theorem varB_one {n : Nat} (h : n < 128) : varB n = [UInt8.ofNat n] := by
  unfold varB varN
  rw [if_neg (by omega)]
theorem varB_two {n : Nat} (h1 : 128 ≤ n) (h2 : n < 16384) : varB n = [UInt8.ofNat (n % 128 + 128), UInt8.ofNat (n / 128)] := by
  unfold varB varN
  rw [if_pos h1]
  unfold varN
  rw [if_neg (by omega)]

theorem rdN_length (k : Nat) : ∀ (i v : Nat) (b : Txt), (rdN k i v b).2.1 ≤ i + b.length ∧ (rdN k i v b).2.1 ≤ i + k ∧ ((rdN k i v b).2.2 ≠ 0 → (rdN k i v b).2.1 = 0 ∧ (rdN k i v b).1 = 0) ∧ ((rdN k i v b).2.2 = 0 ∨ (rdN k i v b).2.2 = 4 ∨ (rdN k i v b).2.2 = 5) := by
  induction k with
  | zero => intro i v b; simp [rdN]
  | succ k ih =>
    intro i v b
    cases b with
    | nil => simp [rdN]
    | cons c b =>
      rw [rdN]
      split
      · simp
      · split
        · split
          · simp
          · simp only [List.length_cons]; refine ⟨by omega, by omega, fun h => absurd rfl h, Or.inl trivial⟩
        · have := ih (i + 1) (v + c.toNat % 128 * 128 ^ i) b
          simp only [List.length_cons]
          refine ⟨by omega, by omega, this.2.2.1, this.2.2.2⟩
theorem rdN_lt (k : Nat) : ∀ (i v : Nat) (b : Txt), k + i = 10 → v < 128 ^ i → (rdN k i v b).1 < 18446744073709551616 := by
  induction k with
  | zero => intro i v b _ _; simp [rdN]
  | succ k ih =>
    intro i v b hk hv
    cases b with
    | nil => simp [rdN]
    | cons c b =>
      rw [rdN]
      split
      · simp
      · rename_i h9
        split
        · split
          · simp
          · rename_i hc _
            show v + c.toNat * 128 ^ i < _
            by_cases hi : i = 9
            · subst hi
              have hc1 : c.toNat ≤ 1 := by
                apply Nat.le_of_not_lt
                intro h
                exact h9 ⟨rfl, h⟩
              have : c.toNat * 128 ^ 9 ≤ 1 * 128 ^ 9 := Nat.mul_le_mul_right _ hc1
              have hv' : v < 9223372036854775808 := hv
              have h2 : (128 : Nat) ^ 9 = 9223372036854775808 := by decide
              omega
            · have h1 : c.toNat * 128 ^ i ≤ 127 * 128 ^ i := Nat.mul_le_mul_right _ (by omega)
              have h2 : (128 : Nat) ^ (i + 1) ≤ 128 ^ 9 := Nat.pow_le_pow_right (by omega) (by omega)
              have h3 : (128 : Nat) ^ 9 = 9223372036854775808 := by decide
              rw [Nat.pow_succ] at h2
              omega
        · refine ih (i + 1) _ b (by omega) ?_
          have h1 : c.toNat % 128 * 128 ^ i ≤ 127 * 128 ^ i := Nat.mul_le_mul_right _ (by omega)
          rw [Nat.pow_succ]
          omega
theorem rdV_lt (b : Txt) : (rdV b).1 < 18446744073709551616 := rdN_lt 10 0 0 b rfl (by simp)

/-- What was written is read, whatever stands behind it. -/
theorem rdV_varB {n : Nat} (h : n < 16384) (rest : Txt) : rdV (varB n ++ rest) = (n, (varB n).length, 0) := by
  by_cases h1 : n < 128
  · rw [varB_one h1]
    simp only [List.cons_append, List.nil_append, List.length_cons, List.length_nil]
    unfold rdV
    rw [rdN, toNat_ofNat_lt (by omega), if_neg (by omega), if_pos h1, if_neg (by omega)]
    simp
  · rw [varB_two (by omega) h]
    simp only [List.cons_append, List.nil_append, List.length_cons, List.length_nil]
    unfold rdV
    rw [rdN, toNat_ofNat_lt (by omega), if_neg (by omega), if_neg (by omega), rdN, toNat_ofNat_lt (by omega), if_neg (by omega), if_pos (by omega), if_neg (by omega)]
    simp only [Nat.pow_zero, Nat.pow_one, Nat.mul_one, Nat.zero_add]
    congr 1
    omega
theorem rdV_take (b : Txt) : ∀ {k : Nat}, (∀ i v, rdN k i v (b.take k) = rdN k i v b) := by
  intro k
  induction k generalizing b with
  | zero => intro i v; simp [rdN]
  | succ k ih =>
    intro i v
    cases b with
    | nil => simp
    | cons c b => rw [List.take_succ_cons, rdN, rdN, ih b]
theorem rdV_take10 (b : Txt) : rdV (b.take 10) = rdV b := rdV_take b 0 0

/-! ### changes -/
structure PV where
  key : Txt
  val : Txt
  gone : Bool
deriving DecidableEq

def PV.may (p : PV) : Bool := decide (0 < p.key.length) && decide (p.key.length ≤ 64) && decide (p.val.length ≤ 1024) && !(p.gone && decide (p.val ≠ []))
def textB (s : Txt) : Txt := varB s.length ++ s
def PV.bytes (p : PV) : Txt := if p.gone then 1 :: textB p.key else 0 :: (textB p.key ++ textB p.val)
def allB (l : List PV) : Txt := (l.map PV.bytes).flatten

/-- Encode: the bytes, the error. -/
def encF (l : List PV) : Txt × Nat :=
  if l = [] ∨ ∃ p ∈ l, p.may = false then ([], 2) else if 64 < l.length then ([], 3)
  else if 4096 < (varB l.length ++ allB l).length then ([], 3) else (varB l.length ++ allB l, 0)

/-! ### reading -/
/-- What is left, and whether all was good. -/
structure Rd where
  left : Txt
  good : Bool
def Rd.take (r : Rd) (n : Nat) : Txt × Rd := if r.good = true ∧ n ≤ r.left.length then (r.left.take n, ⟨r.left.drop n, true⟩) else ([], ⟨r.left, false⟩)
def Rd.num (r : Rd) : Nat × Rd := ((rdV r.left).1, (Rd.take ⟨r.left, r.good && decide ((rdV r.left).2.2 = 0)⟩ (rdV r.left).2.1).2)
def Rd.text (r : Rd) : Txt × Rd := r.num.2.take r.num.1
def Rd.put (r : Rd) : PV × Rd :=
  if (r.take 1).1 = [1] then (⟨(r.take 1).2.text.1, [], true⟩, (r.take 1).2.text.2)
  else (⟨(r.take 1).2.text.1, (r.take 1).2.text.2.text.1, false⟩, (r.take 1).2.text.2.text.2)
/-- As many changes as are said; none, if one is not good. -/
def Rd.puts : Nat → Rd → Option (List PV × Rd)
  | 0, r => some ([], r)
  | k + 1, r => if r.put.2.good then (Rd.puts k r.put.2).map (fun x => (r.put.1 :: x.1, x.2)) else none
def decF (s : Txt) : Option (List PV) :=
  if (Rd.num ⟨s, true⟩).2.good = false ∨ 64 < (Rd.num ⟨s, true⟩).1 then none
  else match Rd.puts (Rd.num ⟨s, true⟩).1 (Rd.num ⟨s, true⟩).2 with
    | none => none
    | some (l, _) => if encF l = (s, 0) then some l else none

theorem num_var {n : Nat} (h : n < 16384) (rest : Txt) : Rd.num ⟨varB n ++ rest, true⟩ = (n, ⟨rest, true⟩) := by
  unfold Rd.num
  simp only
  rw [rdV_varB h]
  simp only [Bool.true_and, decide_true]
  unfold Rd.take
  rw [if_pos ⟨rfl, by simp⟩]
  simp
theorem take_left (s rest : Txt) : Rd.take ⟨s ++ rest, true⟩ s.length = (s, ⟨rest, true⟩) := by
  unfold Rd.take
  rw [if_pos ⟨rfl, by simp⟩]
  simp
theorem text_text {s : Txt} (h : s.length < 16384) (rest : Txt) : Rd.text ⟨textB s ++ rest, true⟩ = (s, ⟨rest, true⟩) := by
  unfold Rd.text textB
  rw [List.append_assoc, num_var h]
  exact take_left s rest

theorem may_key {p : PV} (h : p.may = true) : 0 < p.key.length ∧ p.key.length ≤ 64 ∧ p.val.length ≤ 1024 ∧ (p.gone = true → p.val = []) := by
  simp only [PV.may, Bool.and_eq_true, decide_eq_true_eq, Bool.not_eq_true', Bool.and_eq_false_iff, decide_eq_false_iff_not, ne_eq, Decidable.not_not] at h
  refine ⟨h.1.1.1, h.1.1.2, h.1.2, fun hg => ?_⟩
  rcases h.2 with h2 | h2
  · rw [hg] at h2; cases h2
  · exact h2

theorem put_bytes {p : PV} (h : p.may = true) (rest : Txt) : Rd.put ⟨p.bytes ++ rest, true⟩ = (p, ⟨rest, true⟩) := by
  obtain ⟨k1, k2, k3, k4⟩ := may_key h
  obtain ⟨key, val, gone⟩ := p
  unfold PV.bytes
  cases gone with
  | true =>
    have hv : val = [] := k4 rfl
    subst hv
    have e1 : Rd.take ⟨1 :: (textB key ++ rest), true⟩ 1 = ([1], ⟨textB key ++ rest, true⟩) := take_left [1] _
    simp only [if_true, List.cons_append]
    unfold Rd.put
    rw [e1]
    simp only [if_true]
    rw [text_text (by simp only at k2; omega)]
  | false =>
    have e1 : Rd.take ⟨0 :: (textB key ++ textB val ++ rest), true⟩ 1 = ([0], ⟨textB key ++ textB val ++ rest, true⟩) := take_left [0] _
    simp only [Bool.false_eq_true, if_false, List.cons_append]
    unfold Rd.put
    rw [e1, if_neg (by simp)]
    simp only
    rw [List.append_assoc, text_text (by simp only at k2; omega)]
    simp only
    rw [text_text (by simp only at k3; omega)]

theorem puts_all : ∀ (l : List PV) (rest : Txt), (∀ p ∈ l, p.may = true) → Rd.puts l.length ⟨allB l ++ rest, true⟩ = some (l, ⟨rest, true⟩)
  | [], rest, _ => rfl
  | p :: l, rest, h => by
    rw [List.length_cons, Rd.puts]
    have e : allB (p :: l) ++ rest = p.bytes ++ (allB l ++ rest) := by simp [allB]
    rw [e, put_bytes (h p (by simp)), if_pos rfl, puts_all l rest (fun q hq => h q (by simp [hq]))]
    rfl

theorem encF_ok {l : List PV} {s : Txt} (h : encF l = (s, 0)) : l ≠ [] ∧ (∀ p ∈ l, p.may = true) ∧ l.length ≤ 64 ∧ s = varB l.length ++ allB l ∧ s.length ≤ 4096 := by
  unfold encF at h
  split at h
  · cases h
  · rename_i h1
    split at h
    · cases h
    · rename_i h2
      split at h
      · cases h
      · rename_i h3
        cases h
        refine ⟨fun e => h1 (Or.inl e), fun p hp => ?_, by omega, rfl, by omega⟩
        cases hm : p.may with
        | true => rfl
        | false => exact absurd (Or.inr ⟨p, hp, hm⟩) h1

/-- What is encoded is decoded. -/
theorem dec_enc {l : List PV} {s : Txt} (h : encF l = (s, 0)) : decF s = some l := by
  obtain ⟨h1, h2, h3, h4, h5⟩ := encF_ok h
  unfold decF
  have e1 : Rd.num ⟨s, true⟩ = (l.length, ⟨allB l, true⟩) := by rw [h4]; exact num_var (by omega) _
  have e2 := puts_all l [] h2
  rw [List.append_nil] at e2
  rw [e1, if_neg (by simp; omega)]
  simp only
  rw [e2]
  simp only
  rw [if_pos h]
/-- .. and is not, with anything behind it. -/
theorem dec_more {l : List PV} {s t : Txt} (h : encF l = (s, 0)) (ht : t ≠ []) : decF (s ++ t) = none := by
  obtain ⟨h1, h2, h3, h4, h5⟩ := encF_ok h
  unfold decF
  have e1 : Rd.num ⟨s ++ t, true⟩ = (l.length, ⟨allB l ++ t, true⟩) := by rw [h4, List.append_assoc]; exact num_var (by omega) _
  rw [e1, if_neg (by simp; omega)]
  simp only
  rw [puts_all l t h2]
  simp only
  rw [h, if_neg]
  intro e
  have := congrArg (fun x : Txt × Nat => x.1.length) e
  simp at this
  exact ht this
/-- What is decoded has just those bytes. -/
theorem enc_dec {l : List PV} {s : Txt} (h : decF s = some l) : encF l = (s, 0) := by
  unfold decF at h
  split at h
  · cases h
  · split at h
    · cases h
    · split at h
      · cases h; assumption
      · cases h

end Go.Proofs.YtbkefhoapnaciaaGreat.kvs
end

/-
  kv: the plain model: the order of keys, a map as a list that rises, batches done to it, snapshots.
-/
section
set_option linter.unusedSimpArgs false
set_option linter.unusedVariables false
namespace Go.Proofs.YtbkefhoapnaciaaGreat.kvs
open Go.My

/-! ### the order -/
def ltB (a b : Txt) : Bool := Op.bytesLess a b
theorem ltB_irrefl (a : Txt) : ltB a a = false := by
  induction a with
  | nil => rfl
  | cons x a ih =>
    unfold ltB at *
    simp only [Op.bytesLess, beq_self_eq_true, Bool.true_and, Bool.or_eq_false_iff, decide_eq_false_iff_not]
    exact ⟨UInt8.lt_irrefl x, ih⟩
theorem ltB_cons (x y : UInt8) (a b : Txt) : ltB (x :: a) (y :: b) = true ↔ x < y ∨ (x = y ∧ ltB a b = true) := by
  unfold ltB
  simp [Op.bytesLess]
theorem ltB_trans : ∀ {a b c : Txt}, ltB a b = true → ltB b c = true → ltB a c = true
  | _, [], _, h, _ => by unfold ltB at h; simp [Op.bytesLess] at h
  | _, _ :: _, [], _, h => by unfold ltB at h; simp [Op.bytesLess] at h
  | [], _ :: _, _ :: _, _, _ => rfl
  | x :: a, y :: b, z :: c, h1, h2 => by
    rw [ltB_cons] at *
    rcases h1 with h1 | ⟨rfl, h1⟩
    · rcases h2 with h2 | ⟨rfl, h2⟩
      · exact Or.inl (UInt8.lt_trans h1 h2)
      · exact Or.inl h1
    · rcases h2 with h2 | ⟨rfl, h2⟩
      · exact Or.inl h2
      · exact Or.inr ⟨rfl, ltB_trans h1 h2⟩
theorem ltB_tri : ∀ (a b : Txt), ltB a b = true ∨ a = b ∨ ltB b a = true
  | [], [] => Or.inr (Or.inl rfl)
  | [], _ :: _ => Or.inl rfl
  | _ :: _, [] => Or.inr (Or.inr rfl)
  | x :: a, y :: b => by
    rw [ltB_cons, ltB_cons]
    rcases Nat.lt_trichotomy x.toNat y.toNat with h | h | h
    · exact Or.inl (Or.inl (UInt8.lt_iff_toNat_lt.2 h))
    · have hxy : x = y := UInt8.toNat_inj.1 h
      subst hxy
      rcases ltB_tri a b with h | h | h
      · exact Or.inl (Or.inr ⟨rfl, h⟩)
      · exact Or.inr (Or.inl (by rw [h]))
      · exact Or.inr (Or.inr (Or.inr ⟨rfl, h⟩))
    · exact Or.inr (Or.inr (Or.inl (UInt8.lt_iff_toNat_lt.2 h)))
theorem ltB_asymm {a b : Txt} (h : ltB a b = true) : ltB b a = false := by
  cases h2 : ltB b a with
  | false => rfl
  | true => have := ltB_trans h h2; rw [ltB_irrefl] at this; cases this
theorem ltB_cmp : ∀ (a b : Txt), Lib.compareBytes a b = if ltB a b = true then -1 else if a = b then 0 else 1
  | [], [] => rfl
  | [], _ :: _ => rfl
  | _ :: _, [] => rfl
  | x :: a, y :: b => by
    rw [Lib.compareBytes, ltB_cmp a b]
    by_cases h1 : x < y
    · rw [if_pos h1, if_pos ((ltB_cons _ _ _ _).2 (Or.inl h1))]
    · rw [if_neg h1]
      by_cases h2 : y < x
      · rw [if_pos h2, if_neg (fun h => by rcases (ltB_cons _ _ _ _).1 h with h | ⟨rfl, -⟩; exact h1 h; exact UInt8.lt_irrefl _ h2), if_neg (fun e => by cases e; exact UInt8.lt_irrefl _ h2)]
      · have hxy : x = y := by
          apply UInt8.toNat_inj.1
          rw [UInt8.lt_iff_toNat_lt] at h1 h2
          omega
        subst hxy
        rw [if_neg h2]
        by_cases h3 : ltB a b = true
        · have h5 : ltB (x :: a) (x :: b) = true := (ltB_cons _ _ _ _).2 (Or.inr ⟨rfl, h3⟩)
          rw [if_pos h3, if_pos h5]
        · have h5 : ¬ ltB (x :: a) (x :: b) = true := fun h => by
            rcases (ltB_cons _ _ _ _).1 h with h | ⟨-, h⟩
            · exact UInt8.lt_irrefl _ h
            · exact h3 h
          rw [if_neg h3, if_neg h5]
          by_cases h4 : a = b
          · rw [if_pos h4, if_pos (by rw [h4])]
          · rw [if_neg h4, if_neg (fun e => h4 (by cases e; rfl))]

/-! ### maps as lists -/
abbrev KV := Txt × Txt
def NoDup (m : List KV) : Prop := (m.map (·.1)).Nodup
def Asc (m : List KV) : Prop := m.Pairwise (fun p q => ltB p.1 q.1 = true)
def sortF (m : List KV) : List KV := m.mergeSort (fun p q => !ltB q.1 p.1)

theorem sortF_perm (m : List KV) : (sortF m).Perm m := List.mergeSort_perm m _
theorem sortF_len (m : List KV) : (sortF m).length = m.length := List.length_mergeSort _
theorem sortF_asc {m : List KV} (h : NoDup m) : Asc (sortF m) := by
  have h1 : (sortF m).Pairwise (fun p q => (!ltB q.1 p.1) = true) := List.pairwise_mergeSort (le := fun p q : KV => !ltB q.1 p.1) (fun a b c h1 h2 => by
    simp only [Bool.not_eq_true'] at *
    cases h3 : ltB c.1 a.1 with
    | false => rfl
    | true =>
      rcases ltB_tri a.1 b.1 with h | h | h
      · have := ltB_trans h3 h; rw [h2] at this; cases this
      · rw [h] at h3; rw [h3] at h2; cases h2
      · rw [h] at h1; cases h1) (fun a b => by
    cases h : ltB b.1 a.1 with
    | false => rfl
    | true => rw [ltB_asymm h]; rfl) m
  have h2 : NoDup (sortF m) := by
    unfold NoDup
    exact ((sortF_perm m).map Prod.fst).nodup_iff.2 h
  have h3 : (sortF m).Pairwise (fun p q => p.1 ≠ q.1) := by
    unfold NoDup List.Nodup at h2
    rw [List.pairwise_map] at h2
    exact h2
  exact (h1.and h3).imp (fun {p q} h => by
    obtain ⟨h4, h5⟩ := h
    rcases ltB_tri p.1 q.1 with h | h | h
    · exact h
    · exact absurd h h5
    · rw [h] at h4; cases h4)
theorem Asc.nodup {m : List KV} (h : Asc m) : NoDup m := by
  unfold NoDup List.Nodup
  rw [List.pairwise_map]
  exact h.imp (fun {p q} h e => by rw [e, ltB_irrefl] at h; cases h)
/-- A list that rises is told by what is in it. -/
theorem asc_unique {l m : List KV} (hl : Asc l) (hm : Asc m) (h : l.Perm m) : l = m :=
  h.eq_of_pairwise (le := fun p q : KV => ltB p.1 q.1 = true ∨ p = q) (fun a b _ _ h1 h2 => by
    rcases h1 with h1 | h1
    · rcases h2 with h2 | h2
      · rw [ltB_asymm h1] at h2; cases h2
      · exact h2.symm
    · exact h1) (hl.imp Or.inl) (hm.imp Or.inl)

theorem mget_mem {m : List KV} {k v : Txt} (h : mget m k = some v) : (k, v) ∈ m := by
  induction m with
  | nil => cases h
  | cons p m ih =>
    rw [mget_cons] at h
    split at h
    · rename_i hp; cases h; subst hp; exact List.mem_cons_self ..
    · exact List.mem_cons_of_mem _ (ih h)
theorem mem_mget {m : List KV} (hn : NoDup m) {k v : Txt} (h : (k, v) ∈ m) : mget m k = some v := by
  induction m with
  | nil => cases h
  | cons p m ih =>
    rw [mget_cons]
    unfold NoDup at hn
    rw [List.map_cons, List.nodup_cons] at hn
    rcases List.mem_cons.1 h with rfl | h
    · rw [if_pos rfl]
    · rw [if_neg (fun e => hn.1 (List.mem_map.2 ⟨_, h, e.symm⟩))]
      exact ih hn.2 h
theorem perm_of_get {l m : List KV} (hl : NoDup l) (hm : NoDup m) (h : ∀ k, mget l k = mget m k) : l.Perm m := by
  have hl' : l.Nodup := List.Pairwise.of_map _ (fun a b h e => h (by rw [e])) hl
  have hm' : m.Nodup := List.Pairwise.of_map _ (fun a b h e => h (by rw [e])) hm
  rw [List.perm_ext_iff_of_nodup hl' hm']
  rintro ⟨k, v⟩
  exact ⟨fun hp => mget_mem (by rw [← h k]; exact mem_mget hl hp), fun hp => mget_mem (by rw [h k]; exact mem_mget hm hp)⟩
theorem get_perm {l m : List KV} (hl : NoDup l) (h : l.Perm m) : ∀ k, mget l k = mget m k := by
  intro k
  have hm : NoDup m := (h.map Prod.fst).nodup_iff.1 hl
  cases h1 : mget l k with
  | some v => exact (mem_mget hm (h.mem_iff.1 (mget_mem h1))).symm
  | none =>
    cases h2 : mget m k with
    | none => rfl
    | some v => rw [mem_mget hl (h.mem_iff.2 (mget_mem h2))] at h1; cases h1
/-- Two maps of the same values, put in order, are the same list. -/
theorem sortF_same {l m : List KV} (hl : NoDup l) (hm : NoDup m) (h : ∀ k, mget l k = mget m k) : sortF l = sortF m :=
  asc_unique (sortF_asc hl) (sortF_asc hm) (((sortF_perm l).trans (perm_of_get hl hm h)).trans (sortF_perm m).symm)
theorem sortF_get {m : List KV} (hm : NoDup m) (k : Txt) : mget (sortF m) k = mget m k := (get_perm hm (sortF_perm m).symm k).symm

/-! ### changes done to a map -/
def doneF (m : List KV) (p : PV) : List KV := if p.gone then mdel m p.key else mput m p.key p.val
def applyF (m : List KV) (l : List PV) : List KV := l.foldl doneF m
theorem mput_keys (m : List KV) (k v : Txt) (h : NoDup m) : NoDup (mput m k v) := by
  unfold mput
  split
  · unfold NoDup
    have : (m.map (fun p => if p.1 = k then (k, v) else p)).map (·.1) = m.map (·.1) := by
      rw [List.map_map]
      refine List.map_congr_left (fun p _ => ?_)
      simp only [Function.comp]
      split <;> simp_all
    rw [this]; exact h
  · rename_i hn
    unfold NoDup at *
    rw [List.map_append, List.nodup_append]
    refine ⟨h, by simp, fun a ha b hb => ?_⟩
    simp only [List.map_cons, List.map_nil, List.mem_singleton] at hb
    subst hb
    rintro rfl
    obtain ⟨p, hp, rfl⟩ := List.mem_map.1 ha
    rw [mem_mget h hp] at hn
    exact hn rfl
theorem mdel_keys (m : List KV) (k : Txt) (h : NoDup m) : NoDup (mdel m k) := by
  unfold NoDup mdel at *
  exact List.Nodup.sublist (List.Sublist.map _ List.filter_sublist) h
theorem doneF_nodup {m : List KV} (h : NoDup m) (p : PV) : NoDup (doneF m p) := by
  unfold doneF
  split
  · exact mdel_keys m _ h
  · exact mput_keys m _ _ h
theorem applyF_nodup {m : List KV} (h : NoDup m) (l : List PV) : NoDup (applyF m l) := by
  unfold applyF
  induction l generalizing m with
  | nil => exact h
  | cons p l ih => exact ih (doneF_nodup h p)
theorem doneF_get (m : List KV) (p : PV) (k : Txt) : mget (doneF m p) k = if k = p.key then (if p.gone then none else some p.val) else mget m k := by
  unfold doneF
  cases p.gone
  · simp only [Bool.false_eq_true, if_false]; rw [mget_mput]
  · simp only [if_true]; rw [mget_mdel]
theorem applyF_get {l m : List KV} (h : ∀ k, mget l k = mget m k) (ps : List PV) : ∀ k, mget (applyF l ps) k = mget (applyF m ps) k := by
  unfold applyF
  induction ps generalizing l m with
  | nil => exact h
  | cons p ps ih => exact ih (fun k => by rw [doneF_get, doneF_get, h k])
theorem applyF_append (m : List KV) (a b : List PV) : applyF m (a ++ b) = applyF (applyF m a) b := List.foldl_append ..

def ofKV (p : KV) : PV := ⟨p.1, p.2, false⟩
/-- Puts of other keys, one behind the other, are the list itself. -/
theorem apply_puts : ∀ (l m : List KV), (∀ p ∈ l, ∀ q ∈ m, q.1 ≠ p.1) → NoDup l → applyF m (l.map ofKV) = m ++ l
  | [], m, _, _ => by simp [applyF]
  | p :: l, m, h, hn => by
    unfold NoDup at hn
    rw [List.map_cons, List.nodup_cons] at hn
    have e : doneF m (ofKV p) = m ++ [p] := by
      show mput m p.1 p.2 = _
      unfold mput
      rw [if_neg]
      cases hg : mget m p.1 with
      | none => simp
      | some v => exact absurd rfl (h p (by simp) (p.1, v) (mget_mem hg))
    show applyF (doneF m (ofKV p)) (l.map ofKV) = _
    rw [e, apply_puts l (m ++ [p]) (fun r hr q hq => ?_) hn.2]
    · simp
    · rcases List.mem_append.1 hq with hq | hq
      · exact h r (by simp [hr]) q hq
      · rw [List.mem_singleton] at hq
        subst hq
        exact fun e => hn.1 (List.mem_map.2 ⟨r, hr, e.symm⟩)

end Go.Proofs.YtbkefhoapnaciaaGreat.kvs
end

/-
  kv: the plain model: snapshots; the records that tell a map.
-/
section
set_option linter.unusedSimpArgs false
set_option linter.unusedVariables false
namespace Go.Proofs.YtbkefhoapnaciaaGreat.kvs
open Go.My

theorem bytes_length (p : PV) (h : p.may = true) : 2 ≤ p.bytes.length ∧ p.bytes.length ≤ 1111 := by
  obtain ⟨k1, k2, k3, k4⟩ := may_key h
  have h1 := varB_length p.key.length
  have h2 := varB_length p.val.length
  unfold PV.bytes textB
  split <;> (simp only [List.length_cons, List.length_append]; omega)
theorem allB_append (a b : List PV) : allB (a ++ b) = allB a ++ allB b := by simp [allB]
theorem allB_one (p : PV) : allB [p] = p.bytes := by simp [allB]

/-- A batch that may be. -/
structure Fits (l : List PV) : Prop where
  any : l ≠ []
  may : ∀ p ∈ l, p.may = true
  few : l.length ≤ 64
  short : 1 + (allB l).length ≤ 4096
theorem Fits.enc {l : List PV} (h : Fits l) : encF l = (varB l.length ++ allB l, 0) ∧ (varB l.length ++ allB l).length = 1 + (allB l).length := by
  have h1 : (varB l.length).length = 1 := by rw [varB_one (by have := h.few; omega)]; rfl
  have h2 : (varB l.length ++ allB l).length = 1 + (allB l).length := by rw [List.length_append, h1]
  refine ⟨?_, h2⟩
  unfold encF
  rw [if_neg, if_neg (by have := h.few; omega), if_neg (by rw [h2]; have := h.short; omega)]
  rintro (e | ⟨p, hp, e⟩)
  · exact h.any e
  · rw [h.may p hp] at e; cases e
theorem Fits.of {l : List PV} {s : Txt} (h : encF l = (s, 0)) : Fits l := by
  obtain ⟨h1, h2, h3, h4, h5⟩ := encF_ok h
  refine ⟨h1, h2, h3, ?_⟩
  rw [h4, List.length_append, varB_one (by omega)] at h5
  simpa using h5

/-! ### snapshots -/
structure Sn where
  out : List Txt
  now : List PV
  size : Nat
def Sn.close (x : Sn) : Sn := if x.now = [] then ⟨x.out, [], 0⟩ else ⟨x.out ++ [(encF x.now).1], [], 0⟩
def Sn.room (x : Sn) (n : Nat) : Sn := if x.now.length = 64 ∨ 4096 < 1 + x.size + n then x.close else x
def Sn.step (x : Sn) (p : PV) : Sn := ⟨(x.room p.bytes.length).out, (x.room p.bytes.length).now ++ [p], (x.room p.bytes.length).size + p.bytes.length⟩
def snapL (l : List PV) : Sn := l.foldl Sn.step ⟨[], [], 0⟩
def snapF (m : List KV) : List Txt := (snapL ((sortF m).map ofKV)).close.out

structure Sn.Ok (x : Sn) (l : List PV) : Prop where
  size : x.size = (allB x.now).length
  few : x.now.length ≤ 64
  short : 1 + x.size ≤ 4096
  may : ∀ p ∈ x.now, p.may = true
  batches : ∃ bs : List (List PV), x.out = bs.map (fun b => (encF b).1) ∧ (∀ b ∈ bs, Fits b) ∧ bs.flatten ++ x.now = l

theorem Sn.Ok.close {x : Sn} {l : List PV} (h : x.Ok l) : x.close.Ok l ∧ x.close.now = [] := by
  obtain ⟨bs, h1, h2, h3⟩ := h.batches
  unfold Sn.close
  split
  · rename_i hn
    refine ⟨⟨rfl, by simp, by simp, by simp, bs, h1, h2, by rw [hn] at h3; exact h3⟩, rfl⟩
  · rename_i hn
    refine ⟨⟨rfl, by simp, by simp, by simp, bs ++ [x.now], by simp [h1], fun b hb => ?_, by simpa using h3⟩, rfl⟩
    rcases List.mem_append.1 hb with hb | hb
    · exact h2 b hb
    · rw [List.mem_singleton] at hb
      subst hb
      exact ⟨hn, h.may, h.few, by rw [← h.size]; exact h.short⟩
theorem Sn.Ok.step {x : Sn} {l : List PV} (h : x.Ok l) {p : PV} (hp : p.may = true) : (x.step p).Ok (l ++ [p]) := by
  have hb := bytes_length p hp
  have hr : (x.room p.bytes.length).Ok l ∧ (x.room p.bytes.length).now.length < 64 ∧ 1 + (x.room p.bytes.length).size + p.bytes.length ≤ 4096 := by
    unfold Sn.room
    split
    · obtain ⟨h1, h2⟩ := h.close
      refine ⟨h1, by rw [h2]; simp, ?_⟩
      have := h1.size
      rw [h2] at this
      rw [this]
      show 1 + 0 + _ ≤ _
      omega
    · rename_i hn
      exact ⟨h, by have := h.few; omega, by omega⟩
  obtain ⟨h1, h2, h3⟩ := hr
  unfold Sn.step
  generalize x.room p.bytes.length = y at *
  obtain ⟨bs, b1, b2, b3⟩ := h1.batches
  refine ⟨?_, ?_, (by show 1 + (y.size + p.bytes.length) ≤ 4096; omega), ?_, bs, b1, b2, ?_⟩
  · show y.size + _ = _
    rw [allB_append, allB_one, List.length_append, h1.size]
  · show (y.now ++ [p]).length ≤ 64
    rw [List.length_append]; exact h2
  · intro q hq
    rcases List.mem_append.1 hq with hq | hq
    · exact h1.may q hq
    · rw [List.mem_singleton] at hq; subst hq; exact hp
  · show bs.flatten ++ (y.now ++ [p]) = l ++ [p]
    rw [← List.append_assoc, b3]

theorem snapL_ok : ∀ (l : List PV) (x : Sn) (l0 : List PV), x.Ok l0 → (∀ p ∈ l, p.may = true) → (l.foldl Sn.step x).Ok (l0 ++ l)
  | [], x, l0, h, _ => by rw [List.append_nil]; exact h
  | p :: l, x, l0, h, hm => by
    have := snapL_ok l (x.step p) (l0 ++ [p]) (h.step (hm p (by simp))) (fun q hq => hm q (by simp [hq]))
    rw [List.append_assoc] at this
    exact this

/-- Keys and values that may be. -/
def Mays (m : List KV) : Prop := ∀ p ∈ m, (ofKV p).may = true
theorem Mays.perm {l m : List KV} (h : Mays l) (hp : l.Perm m) : Mays m := fun p hm => h p (hp.mem_iff.2 hm)
theorem mays_done {m : List KV} (h : Mays m) {p : PV} (hp : p.may = true) : Mays (doneF m p) := by
  unfold doneF
  split
  · exact fun q hq => h q (List.mem_filter.1 hq).1
  · rename_i hg
    intro q hq
    have hof : (ofKV (p.key, p.val)).may = true := by
      have hg' : p.gone = false := by simpa using hg
      have : ofKV (p.key, p.val) = p := by cases p; simp only at hg'; subst hg'; rfl
      rw [this]; exact hp
    unfold mput at hq
    split at hq
    · obtain ⟨r, hr, rfl⟩ := List.mem_map.1 hq
      split
      · exact hof
      · exact h r hr
    · rcases List.mem_append.1 hq with hq | hq
      · exact h q hq
      · rw [List.mem_singleton] at hq; subst hq; exact hof
theorem mays_apply {m : List KV} (h : Mays m) : ∀ (l : List PV), (∀ p ∈ l, p.may = true) → Mays (applyF m l)
  | [], _ => h
  | p :: l, hl => mays_apply (mays_done h (hl p (by simp))) l (fun q hq => hl q (by simp [hq]))

/-! ### records that tell a map -/
/-- The records are batches, which make the map's values. -/
structure Rep (recs : List Txt) (m : List KV) : Prop where
  nd : NoDup m
  may : Mays m
  bs : ∃ bs : List (List PV), recs = bs.map (fun b => (encF b).1) ∧ (∀ b ∈ bs, Fits b) ∧ ∀ k, mget (applyF [] bs.flatten) k = mget m k

theorem nodup_nil : NoDup [] := List.nodup_nil
theorem Rep.nil : Rep [] [] where
  nd := nodup_nil
  may := fun p h => by cases h
  bs := ⟨[], rfl, by simp, fun _ => rfl⟩
theorem Rep.len {recs : List Txt} {m : List KV} (h : Rep recs m) : m.length ≤ 64 * recs.length := by
  obtain ⟨bs, h1, h2, h3⟩ := h.bs
  have hp := perm_of_get (applyF_nodup nodup_nil bs.flatten) h.nd h3
  rw [← hp.length_eq, h1, List.length_map]
  have h4 : ∀ (l : List PV) (m : List KV), (applyF m l).length ≤ m.length + l.length := by
    intro l
    induction l with
    | nil => intro m; simp [applyF]
    | cons p l ih =>
      intro m
      have h5 : (doneF m p).length ≤ m.length + 1 := by
        unfold doneF mdel mput
        split
        · exact Nat.le_succ_of_le (List.length_filter_le _ m)
        · split <;> simp
      have := ih (doneF m p)
      show (applyF (doneF m p) l).length ≤ _
      simp only [List.length_cons]
      omega
  have h5 : bs.flatten.length ≤ 64 * bs.length := by
    clear h1 h3 hp h
    induction bs with
    | nil => simp
    | cons b bs ih =>
      have := (h2 b (by simp)).few
      have := ih (fun c hc => h2 c (by simp [hc]))
      simp only [List.flatten_cons, List.length_append, List.length_cons]
      omega
  have := h4 bs.flatten []
  simp only [List.length_nil] at this
  omega
theorem Rep.push {recs : List Txt} {m : List KV} (h : Rep recs m) {l : List PV} (hl : Fits l) : Rep (recs ++ [(encF l).1]) (applyF m l) := by
  obtain ⟨bs, h1, h2, h3⟩ := h.bs
  refine ⟨applyF_nodup h.nd l, mays_apply h.may l hl.may, bs ++ [l], by simp [h1], fun b hb => ?_, fun k => ?_⟩
  · rcases List.mem_append.1 hb with hb | hb
    · exact h2 b hb
    · rw [List.mem_singleton] at hb; subst hb; exact hl
  · rw [List.flatten_append, applyF_append]
    simp only [List.flatten_cons, List.flatten_nil, List.append_nil]
    exact applyF_get h3 l k
theorem Rep.same {recs : List Txt} {m m' : List KV} (h : Rep recs m) (hn : NoDup m') (hs : ∀ k, mget m k = mget m' k) : Rep recs m' :=
  ⟨hn, h.may.perm (perm_of_get h.nd hn hs), by obtain ⟨bs, h1, h2, h3⟩ := h.bs; exact ⟨bs, h1, h2, fun k => (h3 k).trans (hs k)⟩⟩

theorem snap_batches {m : List KV} (hn : NoDup m) (hm : Mays m) : ∃ bs : List (List PV), snapF m = bs.map (fun b => (encF b).1) ∧ (∀ b ∈ bs, Fits b) ∧ bs.flatten = (sortF m).map ofKV := by
  have h0 : (Sn.mk [] [] 0).Ok [] := ⟨rfl, by simp, by simp, by simp, [], rfl, by simp, rfl⟩
  have h1 := snapL_ok ((sortF m).map ofKV) _ _ h0 (fun p hp => by
    obtain ⟨q, hq, rfl⟩ := List.mem_map.1 hp
    exact hm q ((sortF_perm m).mem_iff.1 hq))
  obtain ⟨h2, h3⟩ := h1.close
  obtain ⟨bs, b1, b2, b3⟩ := h2.batches
  rw [h3, List.append_nil, List.nil_append] at b3
  exact ⟨bs, b1, b2, b3⟩
/-- A snapshot tells its map. -/
theorem Rep.snap {m : List KV} (hn : NoDup m) (hm : Mays m) : Rep (snapF m) m := by
  obtain ⟨bs, h1, h2, h3⟩ := snap_batches hn hm
  refine ⟨hn, hm, bs, h1, h2, fun k => ?_⟩
  rw [h3, apply_puts _ _ (by simp) (sortF_asc hn).nodup, List.nil_append, sortF_get hn]
theorem snap_short {m : List KV} (hn : NoDup m) (hm : Mays m) : ∀ r ∈ snapF m, r.length ≤ 4096 := by
  obtain ⟨bs, h1, h2, -⟩ := snap_batches hn hm
  intro r hr
  rw [h1] at hr
  obtain ⟨b, hb, rfl⟩ := List.mem_map.1 hr
  have := (h2 b hb).enc
  rw [this.1]
  have h := (h2 b hb).short
  simp only
  omega
theorem Rep.decs {recs : List Txt} {m : List KV} (h : Rep recs m) : ∃ bs : List (List PV), recs.length = bs.length ∧ (∀ (i : Nat) r b, recs[i]? = some r → bs[i]? = some b → decF r = some b) ∧ ∀ k, mget (applyF [] bs.flatten) k = mget m k := by
  obtain ⟨bs, h1, h2, h3⟩ := h.bs
  refine ⟨bs, by rw [h1, List.length_map], fun i r b hr hb => ?_, h3⟩
  rw [h1, List.getElem?_map, hb] at hr
  cases hr
  have := (h2 b (List.mem_of_getElem? hb)).enc.1
  show decF (encF b).1 = some b
  rw [this]
  exact dec_enc this

end Go.Proofs.YtbkefhoapnaciaaGreat.kvs
end

/-
  GENERAL: arguments that are slices of records, opened with the form's own reach: what each slice within takes.
-/
section
set_option linter.unusedSimpArgs false
set_option linter.unusedVariables false
namespace Go.My
open Go.ChangeShapes Go.WideShapes Go.RowKit Go.Deep

section
variable {H : Type} {enc : TypeId × Value → H} {P : Program}

theorem weightsAll_mem {e : TypeId} : ∀ {l : List (DataW H)} {d : DataW H}, d ∈ l → ∀ n ∈ d.weights P e, n ∈ DataW.weightsAll P e l
  | [], _, h, _, _ => by cases h
  | x :: l, d, h, n, hn => by
    rw [DataW.weightsAll]
    rcases List.mem_cons.1 h with rfl | h
    · exact List.mem_append_left _ hn
    · exact List.mem_append_right _ (weightsAll_mem h n hn)

theorem weightsEach_mem : ∀ {ts : List TypeId} {ds : List (DataW H)} {i : Nat} {t : TypeId} {d : DataW H}, ts[i]? = some t → ds[i]? = some d → ∀ n ∈ d.weights P t, n ∈ DataW.weightsEach P ts ds
  | [], _, _, _, _, h, _, _, _ => by simp at h
  | _ :: _, [], _, _, _, _, h, _, _ => by simp at h
  | t' :: ts, d' :: ds, 0, t, d, ht, hd, n, hn => by
    rw [DataW.weightsEach]
    simp only [List.getElem?_cons_zero, Option.some.injEq] at ht hd
    subst ht; subst hd
    exact List.mem_append_left _ hn
  | t' :: ts, d' :: ds, i + 1, t, d, ht, hd, n, hn => by
    rw [DataW.weightsEach]
    simp only [List.getElem?_cons_succ] at ht hd
    exact List.mem_append_right _ (weightsEach_mem ht hd n hn)

theorem open_rows_sized {W : World} {base : Nat} {sp : Nat → Bool} {held : Bool} {t e n fuel : Nat} {cs : List Value} {y : DataW H × List MemPlace} (ht : P.underlying t = some (.slice e)) (hc : P.cellsOf e = n) (hn : 0 < n)
    (hf : DataW.trod enc P W base sp held fuel t cs = some y) (hw : ∀ n ∈ y.1.weights P t, n ≤ reachBytes) :
    ∃ (oa : Option Addr) (l : List (List Value)) (cap : Nat), cs = [.slice oa l.length cap] ∧ l.length ≤ cap ∧ cap ≤ maxLen ∧ RowsAt W n oa l ∧ l.length * P.bytesOf e ≤ reachBytes ∧ (∀ x ∈ l, ∃ fuel y, DataW.trod enc P W base sp held fuel e x = some y ∧ ∀ n ∈ y.1.weights P e, n ≤ reachBytes) := by
  rcases open_slice ht hf with ⟨h1, _⟩ | ⟨a, len0, cap0, m, k, D, Pl, h1, hb, hl, hm, hmm, hy, hx⟩
  · exact ⟨none, [], 0, h1, Nat.le_refl _, by unfold maxLen; omega, ⟨fun h => absurd rfl h, by simp, by simp⟩, by simp, by simp⟩
  · subst h1
    subst hy
    have hle : len0 ≤ m := by rw [hmm]; split <;> omega
    simp only [DataW.weights, ht, List.mem_cons, List.mem_append] at hw
    have hbytes : len0 * P.bytesOf e ≤ reachBytes := by
      have := hw _ (Or.inl rfl)
      simp only [List.length_map, List.length_range] at this
      exact Nat.le_trans (Nat.mul_le_mul_right _ (Nat.le_add_right _ _)) this
    obtain ⟨R, hR⟩ := choose_lt (α := List Value) (n := len0) (p := fun i cs' => W.cells? base (a.add (i * n)) n = some cs' ∧ DataW.trod enc P W base sp held k e cs' = some (D i, Pl i)) (fun i hi => by
      obtain ⟨cs', h1, h2⟩ := hx i (by omega)
      rw [hc] at h1
      exact ⟨cs', h1, h2⟩)
    refine ⟨some a, (List.range len0).map R, cap0, by simp, by simpa using hl, hm, ⟨?_, ?_, ?_⟩, by simpa using hbytes, ?_⟩
    · intro hne
      have h0 : 0 < len0 := by
        rcases Nat.eq_zero_or_pos len0 with h | h
        · subst h; simp at hne
        · exact h
      obtain ⟨h1, _⟩ := hR 0 h0
      obtain ⟨_, h2, h3⟩ := World.cells?_some h1
      have h4 := h3 0 hn
      have h5 : a.add (0 * n) = a := by simp [Addr.add]
      rw [h5] at h4
      have h6 : a.add 0 = a := by simp [Addr.add]
      rw [h6, List.getElem?_eq_getElem (by omega)] at h4
      obtain ⟨bl, of, spt⟩ := a
      cases spt with
      | none => exact ⟨bl, of, rfl⟩
      | some s =>
        unfold World.cell? at h4
        cases hh : W.heap[bl]? with
        | none => simp [hh] at h4
        | some o => cases o <;> simp [hh] at h4
    · intro i r hr
      simp only [List.getElem?_map, Option.map_eq_some_iff] at hr
      obtain ⟨i', hi', rfl⟩ := hr
      obtain ⟨hlt, rfl⟩ := List.getElem?_eq_some_iff.1 hi'
      simp only [List.length_range] at hlt
      simp only [List.getElem_range]
      obtain ⟨h1, _⟩ := hR i hlt
      exact (World.cells?_some h1).2.1
    · intro b off hab i r j v hi hj
      cases hab
      simp only [List.getElem?_map, Option.map_eq_some_iff] at hi
      obtain ⟨i', hi', rfl⟩ := hi
      obtain ⟨hlt, rfl⟩ := List.getElem?_eq_some_iff.1 hi'
      simp only [List.length_range] at hlt
      simp only [List.getElem_range] at hj
      obtain ⟨h1, _⟩ := hR i hlt
      obtain ⟨_, h2, h3⟩ := World.cells?_some h1
      have hjn : j < n := by have := (List.getElem?_eq_some_iff.1 hj).1; omega
      have h4 := h3 j hjn
      rw [hj] at h4
      rw [← h4]
      congr 1
      unfold Addr.add
      by_cases e1 : i * n = 0 <;> by_cases e2 : j = 0 <;> simp [e1, e2]
    · intro x hx'
      simp only [List.mem_map, List.mem_range] at hx'
      obtain ⟨i, hi, rfl⟩ := hx'
      refine ⟨_, _, (hR i hi).2, fun n hn => hw n (Or.inr (Or.inl ?_))⟩
      exact weightsAll_mem (List.mem_map_of_mem (List.mem_range.2 hi)) n hn

/-- A record of single cells, with what its fields take. -/
theorem fields_sized {W : World} {base : Nat} {sp : Nat → Bool} {held : Bool} {e n fuel : Nat} {fs : Array Field} {cs : List Value} {y : DataW H × List MemPlace} (he : P.underlying e = some (.struct fs)) (hc : P.cellsOf e = n) (hn : fs.size = n)
    (hf : ∀ (i : Nat) (f : Field), fs[i]? = some f → f.offset = i ∧ P.cellsOf f.type = 1) (h : DataW.trod enc P W base sp held fuel e cs = some y) (hw : ∀ n ∈ y.1.weights P e, n ≤ reachBytes) :
    cs.length = n ∧ ∃ k, ∀ (i : Nat) (f : Field) (u : Value), fs[i]? = some f → cs[i]? = some u → ∃ x, DataW.trod enc P W base sp held k f.type [u] = some x ∧ ∀ n ∈ x.1.weights P f.type, n ≤ reachBytes := by
  obtain ⟨xs, k, _, rfl, hlen, hxs, hx⟩ := DataW.trod_struct he h
  rw [hc] at hlen
  simp only [DataW.weights, he] at hw
  refine ⟨hlen, k, fun i f u hfi hu => ?_⟩
  obtain ⟨h1, h2⟩ := hf i f hfi
  have h4 := hx i f hfi
  have hi : i < xs.length := by have := (Array.getElem?_eq_some_iff.1 hfi).1; omega
  have hic : i < cs.length := by have := (Array.getElem?_eq_some_iff.1 hfi).1; omega
  rw [List.getElem?_eq_getElem hi] at h4
  refine ⟨xs[i], ?_, fun n hn => hw n ?_⟩
  · rw [← h4, h1, h2]
    congr 1
    rw [List.getElem?_eq_getElem hic] at hu
    cases hu
    rw [List.drop_eq_getElem_cons hic]
    rfl
  · refine weightsEach_mem (i := i) ?_ ?_ n hn
    · rw [List.getElem?_map, Array.getElem?_toList, hfi]; rfl
    · rw [List.getElem?_map, List.getElem?_eq_getElem hi]; rfl

end
end Go.My
end

/-
  disk: what each method does to a disk that no call made (nil, or a plain Disk{}).
-/
section
set_option linter.unusedSimpArgs false
set_option linter.unusedVariables false
namespace Go.Proofs.YtbkefhoapnaciaaGreat.disks
set_option maxRecDepth 100000
open Go.RowKit Go.My

def NoDisk (w : World) (p : Option Addr) : Prop := p = none ∨ ∃ T, p = some ⟨T, 0, none⟩ ∧ w.cell? ⟨T, 0, none⟩ = some (.slice none 0 0)

theorem none_yes (w : World) (p : Option Addr) (h : NoDisk w p) : Calls Tryz.prog 55 #[.pointer p] w fun e w' => e = .returned (.bool true) ∧ w = w' := by
  rcases h with rfl | ⟨T, rfl, c⟩
  · go_enter Tryz.func55, Tryz.ntmps55
    go_wp2
    go_ret
    exact ⟨rfl, rfl⟩
  · have hq := fun w => run_eql_slice_nil (P := Tryz.prog) w 59 _ none 0 0 Tryz.underlying59
    go_enter Tryz.func55, Tryz.ntmps55
    go_wp2
    go_ret
    exact ⟨rfl, rfl⟩

set_option linter.unusedVariables false
theorem asked_no (w : World) (p : Option Addr) (h : NoDisk w p) (i : Int) : Calls Tryz.prog 54 #[.pointer p, .int .i64 i] w fun e w' => e = .returned (.int .i64 1) ∧ w = w' := by
  have H := Lib.hid h
  clear h
  go_enter Tryz.func54, Tryz.ntmps54
  go_wp2_with (first
    | (go_at_call 55; refine (none_yes _ _ H.out).mono ?_; rintro e w' ⟨rfl, rfl⟩))
  go_ret
  exact ⟨rfl, rfl⟩

theorem blocks_no (w : World) (p : Option Addr) (h : NoDisk w p) : Calls Tryz.prog 63 #[.pointer p] w fun e w' => e = .returned (.int .i64 0) ∧ w = w' := by
  have H := Lib.hid h
  clear h
  go_enter Tryz.func63, Tryz.ntmps63
  go_wp2_with (first
    | (go_at_call 55; refine (none_yes _ _ H.out).mono ?_; rintro e w' ⟨rfl, rfl⟩)
    | (go_at_call 54; refine (asked_no _ _ H.out _).mono ?_; rintro e w' ⟨rfl, rfl⟩))
  go_ret
  exact ⟨rfl, rfl⟩

theorem read_no (w : World) (p : Option Addr) (h : NoDisk w p) (i : Int) : Calls Tryz.prog 62 #[.pointer p, .int .i64 i] w fun e w' => e = .returned (.tuple #[.slice none 0 0, .int .i64 1]) ∧ w = w' := by
  have H := Lib.hid h
  clear h
  go_enter Tryz.func62, Tryz.ntmps62
  go_wp2_with (first
    | (go_at_call 55; refine (none_yes _ _ H.out).mono ?_; rintro e w' ⟨rfl, rfl⟩)
    | (go_at_call 54; refine (asked_no _ _ H.out _).mono ?_; rintro e w' ⟨rfl, rfl⟩))
  go_ret2
  exact ⟨rfl, rfl⟩

theorem write_no (w : World) (p : Option Addr) (h : NoDisk w p) (i : Int) (v : Value) : Calls Tryz.prog 85 #[.pointer p, .int .i64 i, v] w fun e w' => e = .returned (.int .i64 1) ∧ w = w' := by
  have H := Lib.hid h
  clear h
  go_enter Tryz.func85, Tryz.ntmps85
  go_wp2_with (first
    | (go_at_call 55; refine (none_yes _ _ H.out).mono ?_; rintro e w' ⟨rfl, rfl⟩)
    | (go_at_call 54; refine (asked_no _ _ H.out _).mono ?_; rintro e w' ⟨rfl, rfl⟩))
  go_ret
  exact ⟨rfl, rfl⟩

theorem flush_no (w : World) (p : Option Addr) (h : NoDisk w p) : Calls Tryz.prog 86 #[.pointer p] w fun e w' => e = .returned (.int .i64 1) ∧ w = w' := by
  have H := Lib.hid h
  clear h
  go_enter Tryz.func86, Tryz.ntmps86
  go_wp2_with (first
    | (go_at_call 55; refine (none_yes _ _ H.out).mono ?_; rintro e w' ⟨rfl, rfl⟩)
    | (go_at_call 54; refine (asked_no _ _ H.out _).mono ?_; rintro e w' ⟨rfl, rfl⟩))
  go_ret
  exact ⟨rfl, rfl⟩

theorem fuse_no (w : World) (p : Option Addr) (h : NoDisk w p) (n : Int) : Calls Tryz.prog 26 #[.pointer p, .int .i64 n] w fun e w' => e = .returned (.int .i64 1) ∧ w = w' := by
  have H := Lib.hid h
  clear h
  go_enter Tryz.func26, Tryz.ntmps26
  go_wp2_with (first
    | (go_at_call 55; refine (none_yes _ _ H.out).mono ?_; rintro e w' ⟨rfl, rfl⟩)
    | (go_at_call 54; refine (asked_no _ _ H.out _).mono ?_; rintro e w' ⟨rfl, rfl⟩))
  go_ret
  exact ⟨rfl, rfl⟩

theorem crash_no (w : World) (p : Option Addr) (h : NoDisk w p) (v : Value) : Calls Tryz.prog 28 #[.pointer p, v] w fun e w' => e = .returned (.int .i64 1) ∧ w = w' := by
  have H := Lib.hid h
  clear h
  go_enter Tryz.func28, Tryz.ntmps28
  go_wp2_with (first
    | (go_at_call 55; refine (none_yes _ _ H.out).mono ?_; rintro e w' ⟨rfl, rfl⟩)
    | (go_at_call 54; refine (asked_no _ _ H.out _).mono ?_; rintro e w' ⟨rfl, rfl⟩))
  go_ret
  exact ⟨rfl, rfl⟩

theorem up_no (w : World) (p : Option Addr) (h : NoDisk w p) : Calls Tryz.prog 27 #[.pointer p] w fun e w' => e = .returned (.bool false) ∧ w = w' := by
  have H := Lib.hid h
  clear h
  go_enter Tryz.func27, Tryz.ntmps27
  go_wp2_with (first
    | (go_at_call 55; refine (none_yes _ _ H.out).mono ?_; rintro e w' ⟨rfl, rfl⟩)
    | (go_at_call 54; refine (asked_no _ _ H.out _).mono ?_; rintro e w' ⟨rfl, rfl⟩))
  go_ret
  exact ⟨rfl, rfl⟩

theorem waiting_no (w : World) (p : Option Addr) (h : NoDisk w p) : Calls Tryz.prog 56 #[.pointer p] w fun e w' => e = .returned (.slice none 0 0) ∧ w = w' := by
  have H := Lib.hid h
  clear h
  go_enter Tryz.func56, Tryz.ntmps56
  go_wp2_with (first
    | (go_at_call 55; refine (none_yes _ _ H.out).mono ?_; rintro e w' ⟨rfl, rfl⟩)
    | (go_at_call 54; refine (asked_no _ _ H.out _).mono ?_; rintro e w' ⟨rfl, rfl⟩))
  go_ret
  exact ⟨rfl, rfl⟩

end Go.Proofs.YtbkefhoapnaciaaGreat.disks
end

/-
  wal: what each method does to a log that no call made (nil, or a plain Log{}); Open of what is no disk.
-/
section
set_option linter.unusedSimpArgs false
set_option linter.unusedVariables false
namespace Go.Proofs.YtbkefhoapnaciaaGreat.wals
set_option maxRecDepth 100000
open Go.RowKit Go.My disks

def NoLog (w : World) (p : Option Addr) : Prop := p = none ∨ ∃ T, p = some ⟨T, 0, none⟩ ∧ w.cell? ⟨T, 0, none⟩ = some (.pointer none)
theorem NoLog.kept {w w' : World} {p : Option Addr} (h : NoLog w p) (hc : Chg (fun _ => False) w w') : NoLog w' p := by
  rcases h with h | ⟨T, h1, h2⟩
  · exact Or.inl h
  · exact Or.inr ⟨T, h1, hc.cell h2 id⟩

theorem none_log (w : World) (p : Option Addr) (h : NoLog w p) : Calls Tryz.prog 68 #[.pointer p] w fun e w' => e = .returned (.bool true) ∧ w = w' := by
  rcases h with rfl | ⟨T, rfl, c⟩
  · go_enter Tryz.func68, Tryz.ntmps68
    go_wp2
    go_ret
    exact ⟨rfl, rfl⟩
  · go_enter Tryz.func68, Tryz.ntmps68
    go_wp2
    go_ret
    exact ⟨rfl, rfl⟩

set_option linter.unusedVariables false
theorem add_no (w : World) (p : Option Addr) (h : NoLog w p) (s : ByteArray) : Calls Tryz.prog 49 #[.pointer p, .string s] w fun e w' => e = .returned (.int .i64 1) ∧ w = w' := by
  have H := Lib.hid h
  clear h
  go_enter Tryz.func49, Tryz.ntmps49
  go_wp2_with (first
    | (go_at_call 68; refine (none_log _ _ H.out).mono ?_; rintro e w' ⟨rfl, rfl⟩))
  go_ret
  exact ⟨rfl, rfl⟩

theorem sync_no (w : World) (p : Option Addr) (h : NoLog w p) : Calls Tryz.prog 50 #[.pointer p] w fun e w' => e = .returned (.int .i64 1) ∧ w = w' := by
  have H := Lib.hid h
  clear h
  go_enter Tryz.func50, Tryz.ntmps50
  go_wp2_with (first
    | (go_at_call 68; refine (none_log _ _ H.out).mono ?_; rintro e w' ⟨rfl, rfl⟩))
  go_ret
  exact ⟨rfl, rfl⟩

theorem reset_no (w : World) (p : Option Addr) (h : NoLog w p) (v : Value) : Calls Tryz.prog 52 #[.pointer p, v] w fun e w' => e = .returned (.int .i64 1) ∧ w = w' := by
  have H := Lib.hid h
  clear h
  go_enter Tryz.func52, Tryz.ntmps52
  go_wp2_with (first
    | (go_at_call 68; refine (none_log _ _ H.out).mono ?_; rintro e w' ⟨rfl, rfl⟩))
  go_ret
  exact ⟨rfl, rfl⟩

theorem records_no (w : World) (p : Option Addr) (h : NoLog w p) : Calls Tryz.prog 46 #[.pointer p] w fun e w' => e = .returned (.slice none 0 0) ∧ w = w' := by
  have H := Lib.hid h
  clear h
  go_enter Tryz.func46, Tryz.ntmps46
  go_wp2_with (first
    | (go_at_call 68; refine (none_log _ _ H.out).mono ?_; rintro e w' ⟨rfl, rfl⟩))
  go_ret
  exact ⟨rfl, rfl⟩

theorem room_no (w : World) (p : Option Addr) (h : NoLog w p) : Calls Tryz.prog 70 #[.pointer p] w fun e w' => e = .returned (.int .i64 0) ∧ w = w' := by
  have H := Lib.hid h
  clear h
  go_enter Tryz.func70, Tryz.ntmps70
  go_wp2_with (first
    | (go_at_call 68; refine (none_log _ _ H.out).mono ?_; rintro e w' ⟨rfl, rfl⟩))
  go_ret
  exact ⟨rfl, rfl⟩

theorem open_no (w : World) (p : Option Addr) (h : NoDisk w p) : Calls Tryz.prog 45 #[.pointer p] w fun e w' => e = .returned (.tuple #[.pointer none, .int .i64 1]) ∧ w = w' := by
  have H := Lib.hid h
  clear h
  go_enter Tryz.func45, Tryz.ntmps45
  go_wp2_with (first
    | (go_at_call 62; refine (read_no _ _ H.out _).mono ?_; rintro e w' ⟨rfl, rfl⟩))
  go_ret2
  exact ⟨rfl, rfl⟩

end Go.Proofs.YtbkefhoapnaciaaGreat.wals
end
