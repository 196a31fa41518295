/- . -/
import Derived.Maps.Keyed
import Derived.Carry
import Derived.WalkKit
import Derived.WalkSpells
import Derived.DeepKeys4
import Derived.Deep.Draws
import Derived.Deep.Quiet
import Derived.BigQuiet
import Derived.Lib.Bytealg

set_option linter.unusedSimpArgs false
set_option linter.unusedVariables false
section
namespace Go.My
open Go.RowKit

structure Chg (S : Nat → Prop) (w w' : World) : Prop where
  os : w'.os = w.os
  tape : w'.tape = w.tape
  output : w'.output = w.output
  size : w.heap.size ≤ w'.heap.size
  block : ∀ k, k < w.heap.size → ¬ S k → w'.heap[k]? = w.heap[k]?

theorem Chg.refl (S : Nat → Prop) (w : World) : Chg S w w := ⟨rfl, rfl, rfl, Nat.le_refl _, fun _ _ _ => rfl⟩

theorem Chg.trans {S S' : Nat → Prop} {a b c : World} (h : Chg S a b) (k : Chg S' b c) (hs : ∀ i, i < a.heap.size → S' i → S i) : Chg S a c :=
  ⟨k.os.trans h.os, k.tape.trans h.tape, k.output.trans h.output, Nat.le_trans h.size k.size, fun i hi hn =>
    (k.block i (Nat.lt_of_lt_of_le hi h.size) (fun hc => hn (hs i hi hc))).trans (h.block i hi hn)⟩

theorem Chg.trans' {S : Nat → Prop} {a b c : World} (h : Chg S a b) (k : Chg S b c) : Chg S a c := h.trans k (fun _ _ h => h)

theorem Chg.mono {S S' : Nat → Prop} {a b : World} (h : Chg S a b) (hs : ∀ i, i < a.heap.size → S i → S' i) : Chg S' a b :=
  ⟨h.os, h.tape, h.output, h.size, fun i hi hn => h.block i hi (fun hc => hn (hs i hi hc))⟩

theorem Chg.drew {S : Nat → Prop} {a w : World} (h : Chg S a w) : Chg S a w.drew := ⟨h.os, h.tape, h.output, h.size, h.block⟩
theorem Chg.drewN {S : Nat → Prop} {a w : World} (h : Chg S a w) (n : Nat) : Chg S a (w.drewN n) := ⟨h.os, h.tape, h.output, h.size, h.block⟩

theorem Chg.alloc {S : Nat → Prop} {a w : World} (h : Chg S a w) (o : Obj) : Chg S a (w.alloc o) :=
  h.trans (S' := fun _ => False) ⟨rfl, rfl, rfl, by simp, fun k hk _ => Below.heap_alloc _ _ _ hk⟩ (fun _ _ h => h.elim)

theorem Chg.setCell {S : Nat → Prop} {a w : World} (h : Chg S a w) {p : Addr} (hp : p.block < a.heap.size → S p.block) (u : Value) : Chg S a (w.setCell p u) :=
  h.trans (S' := fun k => k = p.block) ⟨rfl, rfl, rfl, by simp [World.setCell], fun k _ hk => Below.heap_setCell _ _ _ _ hk⟩ (fun i hi e => e ▸ hp (e ▸ hi))

theorem Chg.setBlock {S : Nat → Prop} {a w : World} (h : Chg S a w) {b : Nat} (hp : b < a.heap.size → S b) (o : Obj) : Chg S a (ChangeMaps.setBlock w b o) :=
  h.trans (S' := fun k => k = b) ⟨rfl, rfl, rfl, by simp [ChangeMaps.setBlock], fun k _ hk => by simp [ChangeMaps.setBlock, Array.getElem?_setIfInBounds]; omega⟩ (fun i hi e => e ▸ hp (e ▸ hi))

theorem Chg.below {S : Nat → Prop} {w w' : World} {B : Nat} (h : Chg S w w') (hB : B ≤ w.heap.size) (hs : ∀ k, S k → B ≤ k) : Below B w w' :=
  ⟨h.os, h.tape, h.output, h.size, fun k hk => h.block k (by omega) (fun hc => by have := hs k hc; omega)⟩

theorem Chg.new {S : Nat → Prop} {a b c : World} (h : Chg (fun _ => False) a b) (k : Chg S b c) (hs : ∀ i, S i → a.heap.size ≤ i) : Chg (fun _ => False) a c :=
  h.trans k (fun i hi h => by have := hs i h; omega)

theorem Chg.at {S : Nat → Prop} {w w' : World} (h : Chg S w w') {b : Nat} {o : Obj} (hb : w.heap[b]? = some o) (hn : ¬ S b) : w'.heap[b]? = some o :=
  (h.block b (Array.getElem?_eq_some_iff.1 hb).1 hn).trans hb

theorem lt_of_block {w : World} {b : Nat} {o : Obj} (hb : w.heap[b]? = some o) : b < w.heap.size := (Array.getElem?_eq_some_iff.1 hb).1

theorem cell_of_block {w : World} {b i : Nat} {cs : Array Value} {t : TypeId} {fr : Nat × Nat} {v : Value} (hb : w.heap[b]? = some (.cells cs t fr)) (hi : cs[i]? = some v) : w.cell? ⟨b, i, none⟩ = some v := by
  simp [World.cell?, hb, hi]

theorem free_of_block {w : World} {b i : Nat} {cs : Array Value} {t : TypeId} (hb : w.heap[b]? = some (.cells cs t (0, 0))) : w.frozen? ⟨b, i, none⟩ = false := by
  simp [World.frozen?, hb]

theorem block_setCell {w : World} {b i : Nat} {cs : Array Value} {t : TypeId} {fr : Nat × Nat} {v : Value} (hb : w.heap[b]? = some (.cells cs t fr)) : (w.setCell ⟨b, i, none⟩ v).heap[b]? = some (.cells (cs.setIfInBounds i v) t fr) := by
  simp [World.setCell, Array.getElem?_modify, hb]

theorem block_alloc_new (w : World) (o : Obj) : (w.alloc o).heap[w.heap.size]? = some o := by
  show (w.heap.push o)[w.heap.size]? = _; simp

theorem heap_alloc_get (w : World) (o : Obj) (k : Nat) : (w.alloc o).heap[k]? = if k = w.heap.size then some o else w.heap[k]? := by
  show (w.heap.push o)[k]? = _
  rw [Array.getElem?_push]

theorem heap_setCell_get (w : World) (a : Addr) (u : Value) (k : Nat) (h : k ≠ a.block) : (w.setCell a u).heap[k]? = w.heap[k]? := Below.heap_setCell w a u k h

structure FreshW (w : World) where
  val : World
  chg : Chg (fun _ => False) w val

instance {w : World} : Inhabited (FreshW w) := ⟨⟨w, Chg.refl _ _⟩⟩

theorem wp_region_fresh {P : Program} {id : Nat} {Q : Exit → Act → World → Prop} {a : Act} {w : World} {l : List Oper} (hm : P.follows .mixedOrders = true) (hB : Region.lexB .any l.toArray = true)
    (h : wpQuiet P l.toArray (fun w' => ∃ n : FreshW w, w' = n.val) (fun a' => ∀ w', (∃ n : FreshW w, w' = n.val) → Q .normal a' w') l a) : (Code.region id l.toArray true).wp P Q a w :=
  wp_region_quiet (C := fun w' => ∃ n : FreshW w, w' = n.val) hm hB ⟨⟨_, (Chg.refl _ _).drew⟩, rfl⟩ (by simpa using h)

theorem fresh_call {P : Program} {f : FuncId} {args : Array Value} {w : World} {n : FreshW w} {v : Value} (h : Calls P f args n.val fun e w' => e = .returned v ∧ Chg (fun _ => False) n.val w') :
    Calls P f args n.val fun e w'' => e = .returned v ∧ ∃ m : FreshW w, w'' = m.val :=
  h.mono fun _ _ ⟨he, hc⟩ => ⟨he, ⟨_, n.chg.trans' hc⟩, rfl⟩

def SlAt (w : World) (v : Value) (xs : List Value) : Prop :=
  ∃ (oa : Option Addr) (cap : Nat), v = .slice oa xs.length cap ∧ (xs ≠ [] → ∃ b off, oa = some ⟨b, off, none⟩) ∧
    ∀ (b off : Nat), oa = some ⟨b, off, none⟩ → ∀ (i : Nat) (x : Value), xs[i]? = some x → w.cell? ⟨b, off + i, none⟩ = some x

theorem Chg.cell {S : Nat → Prop} {w w' : World} (h : Chg S w w') {a : Addr} {v : Value} (hc : w.cell? a = some v) (hn : ¬ S a.block) : w'.cell? a = some v := by
  rw [← hc]; exact World.cell?_of_block (w := w) (h.block a.block (World.block_lt_of_cell? _ _ hc) hn)

theorem SlAt.kept {w w' : World} {v : Value} {xs : List Value} (h : SlAt w v xs) (hc : Chg (fun _ => False) w w') : SlAt w' v xs := by
  obtain ⟨oa, cap, h1, h2, h3⟩ := h
  exact ⟨oa, cap, h1, h2, fun b off ho i x hx => hc.cell (h3 b off ho i x hx) id⟩

theorem SlAt.cell {w : World} {oa : Option Addr} {n cap : Nat} {xs : List Value} (h : SlAt w (.slice oa n cap) xs) {k : Nat} (hk : k < xs.length) :
    ∃ b off, oa = some ⟨b, off, none⟩ ∧ n = xs.length ∧ w.cell? ⟨b, off + k, none⟩ = some (xs[k]'hk) := by
  obtain ⟨oa', cap', h1, h2, h3⟩ := h
  cases h1
  obtain ⟨b, off, rfl⟩ := h2 (by intro e; subst e; simp at hk)
  exact ⟨b, off, rfl, rfl, h3 b off rfl k _ (List.getElem?_eq_getElem hk)⟩

theorem SlAt.of_own {w : World} {base : Nat} {e : TypeId} {v : Value} {n : Nat} {xs : List Value} (h : w.ownsRow base e 1 v n xs) : SlAt w v xs := by
  have hn : xs.length = n := by have := h.1; omega
  rcases h.2 with ⟨rfl, h0⟩ | ⟨g, cap, cur, rfl, _, hg, hc, _, hcs, ht⟩
  · subst h0
    have : xs = [] := by simpa using hn
    subst this
    exact ⟨none, 0, rfl, fun h => absurd rfl h, by simp⟩
  · refine ⟨some ⟨g, 0, none⟩, cap, by rw [hn], fun _ => ⟨g, 0, rfl⟩, ?_⟩
    intro b off ho i x hx
    cases ho
    refine cell_of_block hg ?_
    rw [← ht, List.getElem?_take] at hx
    split at hx
    · simpa using hx
    · cases hx

theorem Chg.of_grown {w w' : World} {row : Option Nat} (h : w.grownBy w' row) : Chg (fun k => some k = row) w w' :=
  ⟨h.os, h.tape, h.output, h.size, h.block⟩

theorem Chg.grown {w w' : World} (h : Chg (fun _ => False) w w') : w.grownBy w' none := ⟨h.os, h.tape, h.output, h.size, fun k hk _ => h.block k hk id⟩

theorem own_kept {w w' : World} {base : Nat} {e : TypeId} {size : Nat} {v : Value} {n : Nat} {xs : List Value} (h : w.ownsRow base e size v n xs) (hc : Chg (fun _ => False) w w') : w'.ownsRow base e size v n xs :=
  h.kept hc.grown (by cases v.ownBlock <;> simp)

theorem Chg.append {W w w' : World} {e : TypeId} {size : Nat} {v : Value} {n : Nat} {xs : List Value} (h : Chg (fun _ => False) W w) (ho : w.ownsRow W.heap.size e size v n xs) {w1 : World} (h1 : Chg (fun _ => False) w w1) (hg : w1.grownBy w' v.ownBlock) : Chg (fun _ => False) W w' :=
  (h.trans' h1).trans (Chg.of_grown hg) (fun i hi hk => by have := (ho.lt i hk.symm).1; omega)

section
variable {K V : Type} [DecidableEq K]

def mget (m : List (K × V)) (k : K) : Option V := (m.find? (fun p => p.1 = k)).map (·.2)
def mput (m : List (K × V)) (k : K) (v : V) : List (K × V) :=
  if (mget m k).isSome then m.map (fun p => if p.1 = k then (k, v) else p) else m ++ [(k, v)]
def mdel (m : List (K × V)) (k : K) : List (K × V) := m.filter (fun p => p.1 ≠ k)

theorem mget_nil (k : K) : mget ([] : List (K × V)) k = none := rfl
theorem mget_cons (p : K × V) (m : List (K × V)) (k : K) : mget (p :: m) k = if p.1 = k then some p.2 else mget m k := by
  unfold mget; rw [List.find?_cons]; by_cases h : p.1 = k <;> simp [h]

theorem mget_append_new (m : List (K × V)) (k k' : K) (v : V) : mget (m ++ [(k, v)]) k' = (mget m k').orElse (fun _ => if k = k' then some v else none) := by
  induction m with
  | nil => simp [mget_cons, mget_nil]
  | cons p m ih => simp only [List.cons_append, mget_cons, ih]; split <;> simp

theorem mget_map_put (m : List (K × V)) (k k' : K) (v : V) : mget (m.map (fun p => if p.1 = k then (k, v) else p)) k' = if k' = k then (mget m k).map (fun _ => v) else mget m k' := by
  induction m with
  | nil => simp [mget_nil]
  | cons p m ih =>
    simp only [List.map_cons, mget_cons, ih]
    by_cases h : p.1 = k
    · by_cases h' : k' = k
      · subst h'; simp [h]
      · simp [h, h', Ne.symm h']
    · by_cases h' : k' = k
      · subst h'; simp [h]
      · simp [h, h']

theorem mget_mput (m : List (K × V)) (k k' : K) (v : V) : mget (mput m k v) k' = if k' = k then some v else mget m k' := by
  unfold mput
  by_cases h : (mget m k).isSome
  · rw [if_pos h, mget_map_put]
    by_cases h' : k' = k
    · simp only [h', if_true]; cases hm : mget m k with
      | none => simp [hm] at h
      | some x => rfl
    · simp [h']
  · rw [if_neg h, mget_append_new]
    have hn : mget m k = none := by simpa using h
    by_cases h' : k' = k
    · subst h'; simp [hn]
    · simp only [if_neg h', if_neg (Ne.symm h')]; cases mget m k' <;> rfl

theorem mget_mdel (m : List (K × V)) (k k' : K) : mget (mdel m k) k' = if k' = k then none else mget m k' := by
  unfold mdel
  induction m with
  | nil => simp [mget_nil]
  | cons p m ih =>
    rw [List.filter_cons]
    by_cases h : p.1 = k
    · simp only [h, ne_eq, not_true_eq_false, decide_false, Bool.false_eq_true, if_false, ih, mget_cons]
      by_cases h' : k' = k
      · simp [h']
      · simp [h', Ne.symm h']
    · simp only [ne_eq, h, not_false_eq_true, decide_true, if_true, mget_cons, ih]
      by_cases h' : k' = k
      · subst h'; simp [h]
      · simp [h']

end
end Go.My
end

section
namespace Go.My

def le4 (n : Nat) : List UInt8 := [UInt8.ofNat n, UInt8.ofNat (n / 256), UInt8.ofNat (n / 65536), UInt8.ofNat (n / 16777216)]
def be : Nat → Nat → List UInt8
  | 0, _ => []
  | k + 1, n => be k (n / 256) ++ [UInt8.ofNat n]
def ofBe (l : List UInt8) : Nat := l.foldl (fun v b => v * 256 + b.toNat) 0
def ofLe (l : List UInt8) : Nat := l.foldr (fun b v => b.toNat + 256 * v) 0

theorem le4_length (n : Nat) : (le4 n).length = 4 := rfl
theorem be_length (k : Nat) : ∀ n, (be k n).length = k := by
  induction k with
  | zero => intro n; rfl
  | succ k ih => intro n; simp [be, ih]

theorem ofBe_snoc (l : List UInt8) (b : UInt8) : ofBe (l ++ [b]) = ofBe l * 256 + b.toNat := by simp [ofBe]
theorem ofBe_be (k : Nat) : ∀ n, ofBe (be k n) = n % 256 ^ k := by
  induction k with
  | zero => intro n; simp [be, ofBe, Nat.mod_one]
  | succ k ih =>
    intro n
    rw [be, ofBe_snoc, ih, Nat.pow_succ, Nat.mul_comm (256 ^ k) 256, Nat.mod_mul]
    simp [Nat.mul_comm, Nat.add_comm]
theorem ofBe_lt (l : List UInt8) : ofBe l < 256 ^ l.length := by
  have h : ∀ (r : List UInt8), ofBe r.reverse < 256 ^ r.length := by
    intro r
    induction r with
    | nil => simp [ofBe]
    | cons b r ih =>
      rw [List.reverse_cons, ofBe_snoc, List.length_cons, Nat.pow_succ]
      have := b.toNat_lt
      omega
  simpa using h l.reverse
theorem be_get (k : Nat) : ∀ n i, i < k → (be k n)[i]? = some (UInt8.ofNat (n / 256 ^ (k - 1 - i))) := by
  induction k with
  | zero => intro n i h; omega
  | succ k ih =>
    intro n i h
    rw [be]
    by_cases hi : i < k
    · rw [List.getElem?_append_left (by rw [be_length]; exact hi), ih _ _ hi, Nat.div_div_eq_div_mul]
      rw [show k + 1 - 1 - i = (k - 1 - i) + 1 by omega, Nat.pow_succ, Nat.mul_comm]
    · have : i = k := by omega
      subst this
      rw [List.getElem?_append_right (by rw [be_length]; exact Nat.le_refl _), be_length]
      simp
theorem ofLe_le4 (n : Nat) (h : n < 4294967296) : ofLe (le4 n) = n := by
  simp only [ofLe, le4, List.foldr_cons, List.foldr_nil, UInt8.toNat_ofNat']
  omega
end Go.My
end

section
namespace Go.Proofs.YtbjagmlbamjdbaaGreat.kvs
open Go.My

abbrev Txt := List UInt8

def varN : Nat → Nat → Txt
  | 0, n => [UInt8.ofNat n]
  | k + 1, n => if 128 ≤ n then UInt8.ofNat (n % 128 + 128) :: varN k (n / 128) else [UInt8.ofNat n]
def varB (n : Nat) : Txt := varN 9 n

def rdN : Nat → Nat → Nat → Txt → Nat × Nat × Nat
  | 0, _, _, _ => (0, 0, 5)
  | _ + 1, _, _, [] => (0, 0, 4)
  | k + 1, i, v, c :: b => if i = 9 ∧ 1 < c.toNat then (0, 0, 5)
      else if c.toNat < 128 then (if c.toNat = 0 ∧ 0 < i then (0, 0, 5) else (v + c.toNat * 128 ^ i, i + 1, 0))
      else rdN k (i + 1) (v + c.toNat % 128 * 128 ^ i) b
def rdV (b : Txt) : Nat × Nat × Nat := rdN 10 0 0 b

theorem toNat_ofNat_lt {n : Nat} (h : n < 256) : (UInt8.ofNat n).toNat = n := by
  rw [UInt8.toNat_ofNat']; exact Nat.mod_eq_of_lt h

theorem varN_length (k n : Nat) : (varN k n).length ≤ k + 1 ∧ 1 ≤ (varN k n).length := by
  induction k generalizing n with
  | zero => simp [varN]
  | succ k ih =>
    unfold varN
    split
    · have := ih (n / 128); simp only [List.length_cons]; omega
    · simp
theorem varB_length (n : Nat) : (varB n).length ≤ 10 ∧ 1 ≤ (varB n).length := varN_length 9 n

theorem varB_one {n : Nat} (h : n < 128) : varB n = [UInt8.ofNat n] := by
  unfold varB varN
  rw [if_neg (by omega)]
theorem varB_two {n : Nat} (h1 : 128 ≤ n) (h2 : n < 16384) : varB n = [UInt8.ofNat (n % 128 + 128), UInt8.ofNat (n / 128)] := by
  unfold varB varN
  rw [if_pos h1]
  unfold varN
  rw [if_neg (by omega)]

theorem rdN_length (k : Nat) : ∀ (i v : Nat) (b : Txt), (rdN k i v b).2.1 ≤ i + b.length ∧ (rdN k i v b).2.1 ≤ i + k ∧ ((rdN k i v b).2.2 ≠ 0 → (rdN k i v b).2.1 = 0 ∧ (rdN k i v b).1 = 0) ∧ ((rdN k i v b).2.2 = 0 ∨ (rdN k i v b).2.2 = 4 ∨ (rdN k i v b).2.2 = 5) := by
  induction k with
  | zero => intro i v b; simp [rdN]
  | succ k ih =>
    intro i v b
    cases b with
    | nil => simp [rdN]
    | cons c b =>
      rw [rdN]
      split
      · simp
      · split
        · split
          · simp
          · simp only [List.length_cons]; refine ⟨by omega, by omega, fun h => absurd rfl h, Or.inl trivial⟩
        · have := ih (i + 1) (v + c.toNat % 128 * 128 ^ i) b
          simp only [List.length_cons]
          refine ⟨by omega, by omega, this.2.2.1, this.2.2.2⟩
theorem rdN_lt (k : Nat) : ∀ (i v : Nat) (b : Txt), k + i = 10 → v < 128 ^ i → (rdN k i v b).1 < 18446744073709551616 := by
  induction k with
  | zero => intro i v b _ _; simp [rdN]
  | succ k ih =>
    intro i v b hk hv
    cases b with
    | nil => simp [rdN]
    | cons c b =>
      rw [rdN]
      split
      · simp
      · rename_i h9
        split
        · split
          · simp
          · rename_i hc _
            show v + c.toNat * 128 ^ i < _
            by_cases hi : i = 9
            · subst hi
              have hc1 : c.toNat ≤ 1 := by
                apply Nat.le_of_not_lt
                intro h
                exact h9 ⟨rfl, h⟩
              have : c.toNat * 128 ^ 9 ≤ 1 * 128 ^ 9 := Nat.mul_le_mul_right _ hc1
              have hv' : v < 9223372036854775808 := hv
              have h2 : (128 : Nat) ^ 9 = 9223372036854775808 := by decide
              omega
            · have h1 : c.toNat * 128 ^ i ≤ 127 * 128 ^ i := Nat.mul_le_mul_right _ (by omega)
              have h2 : (128 : Nat) ^ (i + 1) ≤ 128 ^ 9 := Nat.pow_le_pow_right (by omega) (by omega)
              have h3 : (128 : Nat) ^ 9 = 9223372036854775808 := by decide
              rw [Nat.pow_succ] at h2
              omega
        · refine ih (i + 1) _ b (by omega) ?_
          have h1 : c.toNat % 128 * 128 ^ i ≤ 127 * 128 ^ i := Nat.mul_le_mul_right _ (by omega)
          rw [Nat.pow_succ]
          omega
theorem rdV_lt (b : Txt) : (rdV b).1 < 18446744073709551616 := rdN_lt 10 0 0 b rfl (by simp)

theorem rdV_varB {n : Nat} (h : n < 16384) (rest : Txt) : rdV (varB n ++ rest) = (n, (varB n).length, 0) := by
  by_cases h1 : n < 128
  · rw [varB_one h1]
    simp only [List.cons_append, List.nil_append, List.length_cons, List.length_nil]
    unfold rdV
    rw [rdN, toNat_ofNat_lt (by omega), if_neg (by omega), if_pos h1, if_neg (by omega)]
    simp
  · rw [varB_two (by omega) h]
    simp only [List.cons_append, List.nil_append, List.length_cons, List.length_nil]
    unfold rdV
    rw [rdN, toNat_ofNat_lt (by omega), if_neg (by omega), if_neg (by omega), rdN, toNat_ofNat_lt (by omega), if_neg (by omega), if_pos (by omega), if_neg (by omega)]
    simp only [Nat.pow_zero, Nat.pow_one, Nat.mul_one, Nat.zero_add]
    congr 1
    omega
theorem rdV_take (b : Txt) : ∀ {k : Nat}, (∀ i v, rdN k i v (b.take k) = rdN k i v b) := by
  intro k
  induction k generalizing b with
  | zero => intro i v; simp [rdN]
  | succ k ih =>
    intro i v
    cases b with
    | nil => simp
    | cons c b => rw [List.take_succ_cons, rdN, rdN, ih b]
theorem rdV_take10 (b : Txt) : rdV (b.take 10) = rdV b := rdV_take b 0 0

structure PV where
  key : Txt
  val : Txt
  gone : Bool
deriving DecidableEq

def PV.may (p : PV) : Bool := decide (0 < p.key.length) && decide (p.key.length ≤ 64) && decide (p.val.length ≤ 1024) && !(p.gone && decide (p.val ≠ []))
def textB (s : Txt) : Txt := varB s.length ++ s
def PV.bytes (p : PV) : Txt := if p.gone then 1 :: textB p.key else 0 :: (textB p.key ++ textB p.val)
def allB (l : List PV) : Txt := (l.map PV.bytes).flatten

def encF (l : List PV) : Txt × Nat :=
  if l = [] ∨ ∃ p ∈ l, p.may = false then ([], 2) else if 64 < l.length then ([], 3)
  else if 4096 < (varB l.length ++ allB l).length then ([], 3) else (varB l.length ++ allB l, 0)

structure Rd where
  left : Txt
  good : Bool
def Rd.take (r : Rd) (n : Nat) : Txt × Rd := if r.good = true ∧ n ≤ r.left.length then (r.left.take n, ⟨r.left.drop n, true⟩) else ([], ⟨r.left, false⟩)
def Rd.num (r : Rd) : Nat × Rd := ((rdV r.left).1, (Rd.take ⟨r.left, r.good && decide ((rdV r.left).2.2 = 0)⟩ (rdV r.left).2.1).2)
def Rd.text (r : Rd) : Txt × Rd := r.num.2.take r.num.1
def Rd.put (r : Rd) : PV × Rd :=
  if (r.take 1).1 = [1] then (⟨(r.take 1).2.text.1, [], true⟩, (r.take 1).2.text.2)
  else (⟨(r.take 1).2.text.1, (r.take 1).2.text.2.text.1, false⟩, (r.take 1).2.text.2.text.2)
def Rd.puts : Nat → Rd → Option (List PV × Rd)
  | 0, r => some ([], r)
  | k + 1, r => if r.put.2.good then (Rd.puts k r.put.2).map (fun x => (r.put.1 :: x.1, x.2)) else none
def decF (s : Txt) : Option (List PV) :=
  if (Rd.num ⟨s, true⟩).2.good = false ∨ 64 < (Rd.num ⟨s, true⟩).1 then none
  else match Rd.puts (Rd.num ⟨s, true⟩).1 (Rd.num ⟨s, true⟩).2 with
    | none => none
    | some (l, _) => if encF l = (s, 0) then some l else none

theorem num_var {n : Nat} (h : n < 16384) (rest : Txt) : Rd.num ⟨varB n ++ rest, true⟩ = (n, ⟨rest, true⟩) := by
  unfold Rd.num
  simp only
  rw [rdV_varB h]
  simp only [Bool.true_and, decide_true]
  unfold Rd.take
  rw [if_pos ⟨rfl, by simp⟩]
  simp
theorem take_left (s rest : Txt) : Rd.take ⟨s ++ rest, true⟩ s.length = (s, ⟨rest, true⟩) := by
  unfold Rd.take
  rw [if_pos ⟨rfl, by simp⟩]
  simp
theorem text_text {s : Txt} (h : s.length < 16384) (rest : Txt) : Rd.text ⟨textB s ++ rest, true⟩ = (s, ⟨rest, true⟩) := by
  unfold Rd.text textB
  rw [List.append_assoc, num_var h]
  exact take_left s rest

theorem may_key {p : PV} (h : p.may = true) : 0 < p.key.length ∧ p.key.length ≤ 64 ∧ p.val.length ≤ 1024 ∧ (p.gone = true → p.val = []) := by
  simp only [PV.may, Bool.and_eq_true, decide_eq_true_eq, Bool.not_eq_true', Bool.and_eq_false_iff, decide_eq_false_iff_not, ne_eq, Decidable.not_not] at h
  refine ⟨h.1.1.1, h.1.1.2, h.1.2, fun hg => ?_⟩
  rcases h.2 with h2 | h2
  · rw [hg] at h2; cases h2
  · exact h2

theorem put_bytes {p : PV} (h : p.may = true) (rest : Txt) : Rd.put ⟨p.bytes ++ rest, true⟩ = (p, ⟨rest, true⟩) := by
  obtain ⟨k1, k2, k3, k4⟩ := may_key h
  obtain ⟨key, val, gone⟩ := p
  unfold PV.bytes
  cases gone with
  | true =>
    have hv : val = [] := k4 rfl
    subst hv
    have e1 : Rd.take ⟨1 :: (textB key ++ rest), true⟩ 1 = ([1], ⟨textB key ++ rest, true⟩) := take_left [1] _
    simp only [if_true, List.cons_append]
    unfold Rd.put
    rw [e1]
    simp only [if_true]
    rw [text_text (by simp only at k2; omega)]
  | false =>
    have e1 : Rd.take ⟨0 :: (textB key ++ textB val ++ rest), true⟩ 1 = ([0], ⟨textB key ++ textB val ++ rest, true⟩) := take_left [0] _
    simp only [Bool.false_eq_true, if_false, List.cons_append]
    unfold Rd.put
    rw [e1, if_neg (by simp)]
    simp only
    rw [List.append_assoc, text_text (by simp only at k2; omega)]
    simp only
    rw [text_text (by simp only at k3; omega)]

theorem puts_all : ∀ (l : List PV) (rest : Txt), (∀ p ∈ l, p.may = true) → Rd.puts l.length ⟨allB l ++ rest, true⟩ = some (l, ⟨rest, true⟩)
  | [], rest, _ => rfl
  | p :: l, rest, h => by
    rw [List.length_cons, Rd.puts]
    have e : allB (p :: l) ++ rest = p.bytes ++ (allB l ++ rest) := by simp [allB]
    rw [e, put_bytes (h p (by simp)), if_pos rfl, puts_all l rest (fun q hq => h q (by simp [hq]))]
    rfl

theorem encF_ok {l : List PV} {s : Txt} (h : encF l = (s, 0)) : l ≠ [] ∧ (∀ p ∈ l, p.may = true) ∧ l.length ≤ 64 ∧ s = varB l.length ++ allB l ∧ s.length ≤ 4096 := by
  unfold encF at h
  split at h
  · cases h
  · rename_i h1
    split at h
    · cases h
    · rename_i h2
      split at h
      · cases h
      · rename_i h3
        cases h
        refine ⟨fun e => h1 (Or.inl e), fun p hp => ?_, by omega, rfl, by omega⟩
        cases hm : p.may with
        | true => rfl
        | false => exact absurd (Or.inr ⟨p, hp, hm⟩) h1

theorem dec_enc {l : List PV} {s : Txt} (h : encF l = (s, 0)) : decF s = some l := by
  obtain ⟨h1, h2, h3, h4, h5⟩ := encF_ok h
  unfold decF
  have e1 : Rd.num ⟨s, true⟩ = (l.length, ⟨allB l, true⟩) := by rw [h4]; exact num_var (by omega) _
  have e2 := puts_all l [] h2
  rw [List.append_nil] at e2
  rw [e1, if_neg (by simp; omega)]
  simp only
  rw [e2]
  simp only
  rw [if_pos h]
end Go.Proofs.YtbjagmlbamjdbaaGreat.kvs
end

section
namespace Go.Proofs.YtbjagmlbamjdbaaGreat.kvs
open Go.My

def ltB (a b : Txt) : Bool := Op.bytesLess a b
theorem ltB_irrefl (a : Txt) : ltB a a = false := by
  induction a with
  | nil => rfl
  | cons x a ih =>
    unfold ltB at *
    simp only [Op.bytesLess, beq_self_eq_true, Bool.true_and, Bool.or_eq_false_iff, decide_eq_false_iff_not]
    exact ⟨UInt8.lt_irrefl x, ih⟩
theorem ltB_cons (x y : UInt8) (a b : Txt) : ltB (x :: a) (y :: b) = true ↔ x < y ∨ (x = y ∧ ltB a b = true) := by
  unfold ltB
  simp [Op.bytesLess]
theorem ltB_trans : ∀ {a b c : Txt}, ltB a b = true → ltB b c = true → ltB a c = true
  | _, [], _, h, _ => by unfold ltB at h; simp [Op.bytesLess] at h
  | _, _ :: _, [], _, h => by unfold ltB at h; simp [Op.bytesLess] at h
  | [], _ :: _, _ :: _, _, _ => rfl
  | x :: a, y :: b, z :: c, h1, h2 => by
    rw [ltB_cons] at *
    rcases h1 with h1 | ⟨rfl, h1⟩
    · rcases h2 with h2 | ⟨rfl, h2⟩
      · exact Or.inl (UInt8.lt_trans h1 h2)
      · exact Or.inl h1
    · rcases h2 with h2 | ⟨rfl, h2⟩
      · exact Or.inl h2
      · exact Or.inr ⟨rfl, ltB_trans h1 h2⟩
theorem ltB_tri : ∀ (a b : Txt), ltB a b = true ∨ a = b ∨ ltB b a = true
  | [], [] => Or.inr (Or.inl rfl)
  | [], _ :: _ => Or.inl rfl
  | _ :: _, [] => Or.inr (Or.inr rfl)
  | x :: a, y :: b => by
    rw [ltB_cons, ltB_cons]
    rcases Nat.lt_trichotomy x.toNat y.toNat with h | h | h
    · exact Or.inl (Or.inl (UInt8.lt_iff_toNat_lt.2 h))
    · have hxy : x = y := UInt8.toNat_inj.1 h
      subst hxy
      rcases ltB_tri a b with h | h | h
      · exact Or.inl (Or.inr ⟨rfl, h⟩)
      · exact Or.inr (Or.inl (by rw [h]))
      · exact Or.inr (Or.inr (Or.inr ⟨rfl, h⟩))
    · exact Or.inr (Or.inr (Or.inl (UInt8.lt_iff_toNat_lt.2 h)))
theorem ltB_asymm {a b : Txt} (h : ltB a b = true) : ltB b a = false := by
  cases h2 : ltB b a with
  | false => rfl
  | true => have := ltB_trans h h2; rw [ltB_irrefl] at this; cases this
theorem ltB_cmp : ∀ (a b : Txt), Lib.compareBytes a b = if ltB a b = true then -1 else if a = b then 0 else 1
  | [], [] => rfl
  | [], _ :: _ => rfl
  | _ :: _, [] => rfl
  | x :: a, y :: b => by
    rw [Lib.compareBytes, ltB_cmp a b]
    by_cases h1 : x < y
    · rw [if_pos h1, if_pos ((ltB_cons _ _ _ _).2 (Or.inl h1))]
    · rw [if_neg h1]
      by_cases h2 : y < x
      · rw [if_pos h2, if_neg (fun h => by rcases (ltB_cons _ _ _ _).1 h with h | ⟨rfl, -⟩; exact h1 h; exact UInt8.lt_irrefl _ h2), if_neg (fun e => by cases e; exact UInt8.lt_irrefl _ h2)]
      · have hxy : x = y := by
          apply UInt8.toNat_inj.1
          rw [UInt8.lt_iff_toNat_lt] at h1 h2
          omega
        subst hxy
        rw [if_neg h2]
        by_cases h3 : ltB a b = true
        · have h5 : ltB (x :: a) (x :: b) = true := (ltB_cons _ _ _ _).2 (Or.inr ⟨rfl, h3⟩)
          rw [if_pos h3, if_pos h5]
        · have h5 : ¬ ltB (x :: a) (x :: b) = true := fun h => by
            rcases (ltB_cons _ _ _ _).1 h with h | ⟨-, h⟩
            · exact UInt8.lt_irrefl _ h
            · exact h3 h
          rw [if_neg h3, if_neg h5]
          by_cases h4 : a = b
          · rw [if_pos h4, if_pos (by rw [h4])]
          · rw [if_neg h4, if_neg (fun e => h4 (by cases e; rfl))]

abbrev KV := Txt × Txt
def NoDup (m : List KV) : Prop := (m.map (·.1)).Nodup
def Asc (m : List KV) : Prop := m.Pairwise (fun p q => ltB p.1 q.1 = true)
def sortF (m : List KV) : List KV := m.mergeSort (fun p q => !ltB q.1 p.1)

theorem sortF_perm (m : List KV) : (sortF m).Perm m := List.mergeSort_perm m _
theorem sortF_len (m : List KV) : (sortF m).length = m.length := List.length_mergeSort _
theorem sortF_asc {m : List KV} (h : NoDup m) : Asc (sortF m) := by
  have h1 : (sortF m).Pairwise (fun p q => (!ltB q.1 p.1) = true) := List.pairwise_mergeSort (le := fun p q : KV => !ltB q.1 p.1) (fun a b c h1 h2 => by
    simp only [Bool.not_eq_true'] at *
    cases h3 : ltB c.1 a.1 with
    | false => rfl
    | true =>
      rcases ltB_tri a.1 b.1 with h | h | h
      · have := ltB_trans h3 h; rw [h2] at this; cases this
      · rw [h] at h3; rw [h3] at h2; cases h2
      · rw [h] at h1; cases h1) (fun a b => by
    cases h : ltB b.1 a.1 with
    | false => rfl
    | true => rw [ltB_asymm h]; rfl) m
  have h2 : NoDup (sortF m) := by
    unfold NoDup
    exact ((sortF_perm m).map Prod.fst).nodup_iff.2 h
  have h3 : (sortF m).Pairwise (fun p q => p.1 ≠ q.1) := by
    unfold NoDup List.Nodup at h2
    rw [List.pairwise_map] at h2
    exact h2
  exact (h1.and h3).imp (fun {p q} h => by
    obtain ⟨h4, h5⟩ := h
    rcases ltB_tri p.1 q.1 with h | h | h
    · exact h
    · exact absurd h h5
    · rw [h] at h4; cases h4)
theorem Asc.nodup {m : List KV} (h : Asc m) : NoDup m := by
  unfold NoDup List.Nodup
  rw [List.pairwise_map]
  exact h.imp (fun {p q} h e => by rw [e, ltB_irrefl] at h; cases h)
theorem asc_unique {l m : List KV} (hl : Asc l) (hm : Asc m) (h : l.Perm m) : l = m :=
  h.eq_of_pairwise (le := fun p q : KV => ltB p.1 q.1 = true ∨ p = q) (fun a b _ _ h1 h2 => by
    rcases h1 with h1 | h1
    · rcases h2 with h2 | h2
      · rw [ltB_asymm h1] at h2; cases h2
      · exact h2.symm
    · exact h1) (hl.imp Or.inl) (hm.imp Or.inl)

theorem mget_mem {m : List KV} {k v : Txt} (h : mget m k = some v) : (k, v) ∈ m := by
  induction m with
  | nil => cases h
  | cons p m ih =>
    rw [mget_cons] at h
    split at h
    · rename_i hp; cases h; subst hp; exact List.mem_cons_self ..
    · exact List.mem_cons_of_mem _ (ih h)
theorem mem_mget {m : List KV} (hn : NoDup m) {k v : Txt} (h : (k, v) ∈ m) : mget m k = some v := by
  induction m with
  | nil => cases h
  | cons p m ih =>
    rw [mget_cons]
    unfold NoDup at hn
    rw [List.map_cons, List.nodup_cons] at hn
    rcases List.mem_cons.1 h with rfl | h
    · rw [if_pos rfl]
    · rw [if_neg (fun e => hn.1 (List.mem_map.2 ⟨_, h, e.symm⟩))]
      exact ih hn.2 h
theorem perm_of_get {l m : List KV} (hl : NoDup l) (hm : NoDup m) (h : ∀ k, mget l k = mget m k) : l.Perm m := by
  have hl' : l.Nodup := List.Pairwise.of_map _ (fun a b h e => h (by rw [e])) hl
  have hm' : m.Nodup := List.Pairwise.of_map _ (fun a b h e => h (by rw [e])) hm
  rw [List.perm_ext_iff_of_nodup hl' hm']
  rintro ⟨k, v⟩
  exact ⟨fun hp => mget_mem (by rw [← h k]; exact mem_mget hl hp), fun hp => mget_mem (by rw [h k]; exact mem_mget hm hp)⟩
theorem get_perm {l m : List KV} (hl : NoDup l) (h : l.Perm m) : ∀ k, mget l k = mget m k := by
  intro k
  have hm : NoDup m := (h.map Prod.fst).nodup_iff.1 hl
  cases h1 : mget l k with
  | some v => exact (mem_mget hm (h.mem_iff.1 (mget_mem h1))).symm
  | none =>
    cases h2 : mget m k with
    | none => rfl
    | some v => rw [mem_mget hl (h.mem_iff.2 (mget_mem h2))] at h1; cases h1
theorem sortF_same {l m : List KV} (hl : NoDup l) (hm : NoDup m) (h : ∀ k, mget l k = mget m k) : sortF l = sortF m :=
  asc_unique (sortF_asc hl) (sortF_asc hm) (((sortF_perm l).trans (perm_of_get hl hm h)).trans (sortF_perm m).symm)
theorem sortF_get {m : List KV} (hm : NoDup m) (k : Txt) : mget (sortF m) k = mget m k := (get_perm hm (sortF_perm m).symm k).symm

def doneF (m : List KV) (p : PV) : List KV := if p.gone then mdel m p.key else mput m p.key p.val
def applyF (m : List KV) (l : List PV) : List KV := l.foldl doneF m
theorem mput_keys (m : List KV) (k v : Txt) (h : NoDup m) : NoDup (mput m k v) := by
  unfold mput
  split
  · unfold NoDup
    have : (m.map (fun p => if p.1 = k then (k, v) else p)).map (·.1) = m.map (·.1) := by
      rw [List.map_map]
      refine List.map_congr_left (fun p _ => ?_)
      simp only [Function.comp]
      split <;> simp_all
    rw [this]; exact h
  · rename_i hn
    unfold NoDup at *
    rw [List.map_append, List.nodup_append]
    refine ⟨h, by simp, fun a ha b hb => ?_⟩
    simp only [List.map_cons, List.map_nil, List.mem_singleton] at hb
    subst hb
    rintro rfl
    obtain ⟨p, hp, rfl⟩ := List.mem_map.1 ha
    rw [mem_mget h hp] at hn
    exact hn rfl
theorem mdel_keys (m : List KV) (k : Txt) (h : NoDup m) : NoDup (mdel m k) := by
  unfold NoDup mdel at *
  exact List.Nodup.sublist (List.Sublist.map _ List.filter_sublist) h
theorem doneF_nodup {m : List KV} (h : NoDup m) (p : PV) : NoDup (doneF m p) := by
  unfold doneF
  split
  · exact mdel_keys m _ h
  · exact mput_keys m _ _ h
theorem applyF_nodup {m : List KV} (h : NoDup m) (l : List PV) : NoDup (applyF m l) := by
  unfold applyF
  induction l generalizing m with
  | nil => exact h
  | cons p l ih => exact ih (doneF_nodup h p)
theorem doneF_get (m : List KV) (p : PV) (k : Txt) : mget (doneF m p) k = if k = p.key then (if p.gone then none else some p.val) else mget m k := by
  unfold doneF
  cases p.gone
  · simp only [Bool.false_eq_true, if_false]; rw [mget_mput]
  · simp only [if_true]; rw [mget_mdel]
theorem applyF_get {l m : List KV} (h : ∀ k, mget l k = mget m k) (ps : List PV) : ∀ k, mget (applyF l ps) k = mget (applyF m ps) k := by
  unfold applyF
  induction ps generalizing l m with
  | nil => exact h
  | cons p ps ih => exact ih (fun k => by rw [doneF_get, doneF_get, h k])
theorem applyF_append (m : List KV) (a b : List PV) : applyF m (a ++ b) = applyF (applyF m a) b := List.foldl_append ..

def ofKV (p : KV) : PV := ⟨p.1, p.2, false⟩
theorem apply_puts : ∀ (l m : List KV), (∀ p ∈ l, ∀ q ∈ m, q.1 ≠ p.1) → NoDup l → applyF m (l.map ofKV) = m ++ l
  | [], m, _, _ => by simp [applyF]
  | p :: l, m, h, hn => by
    unfold NoDup at hn
    rw [List.map_cons, List.nodup_cons] at hn
    have e : doneF m (ofKV p) = m ++ [p] := by
      show mput m p.1 p.2 = _
      unfold mput
      rw [if_neg]
      cases hg : mget m p.1 with
      | none => simp
      | some v => exact absurd rfl (h p (by simp) (p.1, v) (mget_mem hg))
    show applyF (doneF m (ofKV p)) (l.map ofKV) = _
    rw [e, apply_puts l (m ++ [p]) (fun r hr q hq => ?_) hn.2]
    · simp
    · rcases List.mem_append.1 hq with hq | hq
      · exact h r (by simp [hr]) q hq
      · rw [List.mem_singleton] at hq
        subst hq
        exact fun e => hn.1 (List.mem_map.2 ⟨r, hr, e.symm⟩)

end Go.Proofs.YtbjagmlbamjdbaaGreat.kvs
end

section
namespace Go.Proofs.YtbjagmlbamjdbaaGreat.kvs
open Go.My

theorem bytes_length (p : PV) (h : p.may = true) : 2 ≤ p.bytes.length ∧ p.bytes.length ≤ 1111 := by
  obtain ⟨k1, k2, k3, k4⟩ := may_key h
  have h1 := varB_length p.key.length
  have h2 := varB_length p.val.length
  unfold PV.bytes textB
  split <;> (simp only [List.length_cons, List.length_append]; omega)
theorem allB_append (a b : List PV) : allB (a ++ b) = allB a ++ allB b := by simp [allB]
theorem allB_one (p : PV) : allB [p] = p.bytes := by simp [allB]

structure Fits (l : List PV) : Prop where
  any : l ≠ []
  may : ∀ p ∈ l, p.may = true
  few : l.length ≤ 64
  short : 1 + (allB l).length ≤ 4096
theorem Fits.enc {l : List PV} (h : Fits l) : encF l = (varB l.length ++ allB l, 0) ∧ (varB l.length ++ allB l).length = 1 + (allB l).length := by
  have h1 : (varB l.length).length = 1 := by rw [varB_one (by have := h.few; omega)]; rfl
  have h2 : (varB l.length ++ allB l).length = 1 + (allB l).length := by rw [List.length_append, h1]
  refine ⟨?_, h2⟩
  unfold encF
  rw [if_neg, if_neg (by have := h.few; omega), if_neg (by rw [h2]; have := h.short; omega)]
  rintro (e | ⟨p, hp, e⟩)
  · exact h.any e
  · rw [h.may p hp] at e; cases e
theorem Fits.of {l : List PV} {s : Txt} (h : encF l = (s, 0)) : Fits l := by
  obtain ⟨h1, h2, h3, h4, h5⟩ := encF_ok h
  refine ⟨h1, h2, h3, ?_⟩
  rw [h4, List.length_append, varB_one (by omega)] at h5
  simpa using h5

structure Sn where
  out : List Txt
  now : List PV
  size : Nat
def Sn.close (x : Sn) : Sn := if x.now = [] then ⟨x.out, [], 0⟩ else ⟨x.out ++ [(encF x.now).1], [], 0⟩
def Sn.room (x : Sn) (n : Nat) : Sn := if x.now.length = 64 ∨ 4096 < 1 + x.size + n then x.close else x
def Sn.step (x : Sn) (p : PV) : Sn := ⟨(x.room p.bytes.length).out, (x.room p.bytes.length).now ++ [p], (x.room p.bytes.length).size + p.bytes.length⟩
def snapL (l : List PV) : Sn := l.foldl Sn.step ⟨[], [], 0⟩
def snapF (m : List KV) : List Txt := (snapL ((sortF m).map ofKV)).close.out

structure Sn.Ok (x : Sn) (l : List PV) : Prop where
  size : x.size = (allB x.now).length
  few : x.now.length ≤ 64
  short : 1 + x.size ≤ 4096
  may : ∀ p ∈ x.now, p.may = true
  batches : ∃ bs : List (List PV), x.out = bs.map (fun b => (encF b).1) ∧ (∀ b ∈ bs, Fits b) ∧ bs.flatten ++ x.now = l

theorem Sn.Ok.close {x : Sn} {l : List PV} (h : x.Ok l) : x.close.Ok l ∧ x.close.now = [] := by
  obtain ⟨bs, h1, h2, h3⟩ := h.batches
  unfold Sn.close
  split
  · rename_i hn
    refine ⟨⟨rfl, by simp, by simp, by simp, bs, h1, h2, by rw [hn] at h3; exact h3⟩, rfl⟩
  · rename_i hn
    refine ⟨⟨rfl, by simp, by simp, by simp, bs ++ [x.now], by simp [h1], fun b hb => ?_, by simpa using h3⟩, rfl⟩
    rcases List.mem_append.1 hb with hb | hb
    · exact h2 b hb
    · rw [List.mem_singleton] at hb
      subst hb
      exact ⟨hn, h.may, h.few, by rw [← h.size]; exact h.short⟩
theorem Sn.Ok.step {x : Sn} {l : List PV} (h : x.Ok l) {p : PV} (hp : p.may = true) : (x.step p).Ok (l ++ [p]) := by
  have hb := bytes_length p hp
  have hr : (x.room p.bytes.length).Ok l ∧ (x.room p.bytes.length).now.length < 64 ∧ 1 + (x.room p.bytes.length).size + p.bytes.length ≤ 4096 := by
    unfold Sn.room
    split
    · obtain ⟨h1, h2⟩ := h.close
      refine ⟨h1, by rw [h2]; simp, ?_⟩
      have := h1.size
      rw [h2] at this
      rw [this]
      show 1 + 0 + _ ≤ _
      omega
    · rename_i hn
      exact ⟨h, by have := h.few; omega, by omega⟩
  obtain ⟨h1, h2, h3⟩ := hr
  unfold Sn.step
  generalize x.room p.bytes.length = y at *
  obtain ⟨bs, b1, b2, b3⟩ := h1.batches
  refine ⟨?_, ?_, (by show 1 + (y.size + p.bytes.length) ≤ 4096; omega), ?_, bs, b1, b2, ?_⟩
  · show y.size + _ = _
    rw [allB_append, allB_one, List.length_append, h1.size]
  · show (y.now ++ [p]).length ≤ 64
    rw [List.length_append]; exact h2
  · intro q hq
    rcases List.mem_append.1 hq with hq | hq
    · exact h1.may q hq
    · rw [List.mem_singleton] at hq; subst hq; exact hp
  · show bs.flatten ++ (y.now ++ [p]) = l ++ [p]
    rw [← List.append_assoc, b3]

theorem snapL_ok : ∀ (l : List PV) (x : Sn) (l0 : List PV), x.Ok l0 → (∀ p ∈ l, p.may = true) → (l.foldl Sn.step x).Ok (l0 ++ l)
  | [], x, l0, h, _ => by rw [List.append_nil]; exact h
  | p :: l, x, l0, h, hm => by
    have := snapL_ok l (x.step p) (l0 ++ [p]) (h.step (hm p (by simp))) (fun q hq => hm q (by simp [hq]))
    rw [List.append_assoc] at this
    exact this

def Mays (m : List KV) : Prop := ∀ p ∈ m, (ofKV p).may = true
theorem Mays.perm {l m : List KV} (h : Mays l) (hp : l.Perm m) : Mays m := fun p hm => h p (hp.mem_iff.2 hm)
theorem mays_done {m : List KV} (h : Mays m) {p : PV} (hp : p.may = true) : Mays (doneF m p) := by
  unfold doneF
  split
  · exact fun q hq => h q (List.mem_filter.1 hq).1
  · rename_i hg
    intro q hq
    have hof : (ofKV (p.key, p.val)).may = true := by
      have hg' : p.gone = false := by simpa using hg
      have : ofKV (p.key, p.val) = p := by cases p; simp only at hg'; subst hg'; rfl
      rw [this]; exact hp
    unfold mput at hq
    split at hq
    · obtain ⟨r, hr, rfl⟩ := List.mem_map.1 hq
      split
      · exact hof
      · exact h r hr
    · rcases List.mem_append.1 hq with hq | hq
      · exact h q hq
      · rw [List.mem_singleton] at hq; subst hq; exact hof
theorem mays_apply {m : List KV} (h : Mays m) : ∀ (l : List PV), (∀ p ∈ l, p.may = true) → Mays (applyF m l)
  | [], _ => h
  | p :: l, hl => mays_apply (mays_done h (hl p (by simp))) l (fun q hq => hl q (by simp [hq]))

structure Rep (recs : List Txt) (m : List KV) : Prop where
  nd : NoDup m
  may : Mays m
  bs : ∃ bs : List (List PV), recs = bs.map (fun b => (encF b).1) ∧ (∀ b ∈ bs, Fits b) ∧ ∀ k, mget (applyF [] bs.flatten) k = mget m k

theorem nodup_nil : NoDup [] := List.nodup_nil
theorem Rep.nil : Rep [] [] where
  nd := nodup_nil
  may := fun p h => by cases h
  bs := ⟨[], rfl, by simp, fun _ => rfl⟩
theorem Rep.len {recs : List Txt} {m : List KV} (h : Rep recs m) : m.length ≤ 64 * recs.length := by
  obtain ⟨bs, h1, h2, h3⟩ := h.bs
  have hp := perm_of_get (applyF_nodup nodup_nil bs.flatten) h.nd h3
  rw [← hp.length_eq, h1, List.length_map]
  have h4 : ∀ (l : List PV) (m : List KV), (applyF m l).length ≤ m.length + l.length := by
    intro l
    induction l with
    | nil => intro m; simp [applyF]
    | cons p l ih =>
      intro m
      have h5 : (doneF m p).length ≤ m.length + 1 := by
        unfold doneF mdel mput
        split
        · exact Nat.le_succ_of_le (List.length_filter_le _ m)
        · split <;> simp
      have := ih (doneF m p)
      show (applyF (doneF m p) l).length ≤ _
      simp only [List.length_cons]
      omega
  have h5 : bs.flatten.length ≤ 64 * bs.length := by
    clear h1 h3 hp h
    induction bs with
    | nil => simp
    | cons b bs ih =>
      have := (h2 b (by simp)).few
      have := ih (fun c hc => h2 c (by simp [hc]))
      simp only [List.flatten_cons, List.length_append, List.length_cons]
      omega
  have := h4 bs.flatten []
  simp only [List.length_nil] at this
  omega
theorem Rep.push {recs : List Txt} {m : List KV} (h : Rep recs m) {l : List PV} (hl : Fits l) : Rep (recs ++ [(encF l).1]) (applyF m l) := by
  obtain ⟨bs, h1, h2, h3⟩ := h.bs
  refine ⟨applyF_nodup h.nd l, mays_apply h.may l hl.may, bs ++ [l], by simp [h1], fun b hb => ?_, fun k => ?_⟩
  · rcases List.mem_append.1 hb with hb | hb
    · exact h2 b hb
    · rw [List.mem_singleton] at hb; subst hb; exact hl
  · rw [List.flatten_append, applyF_append]
    simp only [List.flatten_cons, List.flatten_nil, List.append_nil]
    exact applyF_get h3 l k
theorem Rep.same {recs : List Txt} {m m' : List KV} (h : Rep recs m) (hn : NoDup m') (hs : ∀ k, mget m k = mget m' k) : Rep recs m' :=
  ⟨hn, h.may.perm (perm_of_get h.nd hn hs), by obtain ⟨bs, h1, h2, h3⟩ := h.bs; exact ⟨bs, h1, h2, fun k => (h3 k).trans (hs k)⟩⟩

theorem snap_batches {m : List KV} (hn : NoDup m) (hm : Mays m) : ∃ bs : List (List PV), snapF m = bs.map (fun b => (encF b).1) ∧ (∀ b ∈ bs, Fits b) ∧ bs.flatten = (sortF m).map ofKV := by
  have h0 : (Sn.mk [] [] 0).Ok [] := ⟨rfl, by simp, by simp, by simp, [], rfl, by simp, rfl⟩
  have h1 := snapL_ok ((sortF m).map ofKV) _ _ h0 (fun p hp => by
    obtain ⟨q, hq, rfl⟩ := List.mem_map.1 hp
    exact hm q ((sortF_perm m).mem_iff.1 hq))
  obtain ⟨h2, h3⟩ := h1.close
  obtain ⟨bs, b1, b2, b3⟩ := h2.batches
  rw [h3, List.append_nil, List.nil_append] at b3
  exact ⟨bs, b1, b2, b3⟩
theorem Rep.snap {m : List KV} (hn : NoDup m) (hm : Mays m) : Rep (snapF m) m := by
  obtain ⟨bs, h1, h2, h3⟩ := snap_batches hn hm
  refine ⟨hn, hm, bs, h1, h2, fun k => ?_⟩
  rw [h3, apply_puts _ _ (by simp) (sortF_asc hn).nodup, List.nil_append, sortF_get hn]
theorem snap_short {m : List KV} (hn : NoDup m) (hm : Mays m) : ∀ r ∈ snapF m, r.length ≤ 4096 := by
  obtain ⟨bs, h1, h2, -⟩ := snap_batches hn hm
  intro r hr
  rw [h1] at hr
  obtain ⟨b, hb, rfl⟩ := List.mem_map.1 hr
  have := (h2 b hb).enc
  rw [this.1]
  have h := (h2 b hb).short
  simp only
  omega
end Go.Proofs.YtbjagmlbamjdbaaGreat.kvs
end

section
namespace Go.Proofs.YtbjagmlbamjdbaaGreat.roots
open Go.My kvs

abbrev Dg := List UInt8
structure Rf where
  sum : Dg
  size : Int
deriving DecidableEq
structure Mf where
  name : Txt
  ver : Txt
  layers : List Rf
deriving DecidableEq
structure Pk where
  owner : Int
  man : Mf
deriving DecidableEq

def sign (c : UInt8) : Bool := (decide (97 ≤ c.toNat) && decide (c.toNat ≤ 122)) || (decide (48 ≤ c.toNat) && decide (c.toNat ≤ 57)) || decide (c.toNat = 45) || decide (c.toNat = 46)
def nameB (s : Txt) : Bool := s.all sign && decide (0 < s.length) && decide (s.length ≤ 16)
def layF (seen : List Dg) : List Rf → Nat
  | [] => 0
  | x :: l => if x.size < 0 ∨ 2147483647 < x.size then 2 else if x.sum ∈ seen then 8 else layF (x.sum :: seen) l
def mchkF (m : Mf) : Nat := if nameB m.name = false ∨ nameB m.ver = false then 2 else if m.layers.length = 0 then 9 else if 8 < m.layers.length then 3 else layF [] m.layers
def rchkL (seen : List Txt) (n : Nat) : List Pk → Nat
  | [] => 0
  | p :: l => if p.owner < 1 ∨ 8 < p.owner then 2 else if mchkF p.man ≠ 0 then mchkF p.man else if p.man.name ∈ seen then 8 else if 16 < n + p.man.layers.length then 3
    else rchkL (p.man.name :: seen) (n + p.man.layers.length) l
def rchkF (l : List Pk) : Nat := rchkL [] 0 l

theorem layF_ok : ∀ {l : List Rf} {seen : List Dg}, layF seen l = 0 → ∀ x ∈ l, 0 ≤ x.size ∧ x.size ≤ 2147483647
  | [], _, _, _, h => by cases h
  | y :: l, seen, h, x, hx => by
    rw [layF] at h
    split at h
    · cases h
    · rename_i h1
      split at h
      · cases h
      · rcases List.mem_cons.1 hx with rfl | hx
        · omega
        · exact layF_ok h x hx
structure MOk (m : Mf) : Prop where
  name : nameB m.name = true
  ver : nameB m.ver = true
  some : 1 ≤ m.layers.length
  few : m.layers.length ≤ 8
  sizes : ∀ x ∈ m.layers, 0 ≤ x.size ∧ x.size ≤ 2147483647
theorem mchkF_ok {m : Mf} (h : mchkF m = 0) : MOk m := by
  unfold mchkF at h
  split at h
  · cases h
  · rename_i h1
    split at h
    · cases h
    · rename_i h2
      split at h
      · cases h
      · rename_i h3
        refine ⟨?_, ?_, by omega, by omega, layF_ok h⟩
        · cases hn : nameB m.name with
          | true => rfl
          | false => exact absurd (Or.inl hn) h1
        · cases hn : nameB m.ver with
          | true => rfl
          | false => exact absurd (Or.inr hn) h1
theorem nameB_len {s : Txt} (h : nameB s = true) : 1 ≤ s.length ∧ s.length ≤ 16 := by
  unfold nameB at h
  simp only [Bool.and_eq_true, decide_eq_true_eq] at h
  omega
def nlay (l : List Pk) : Nat := (l.map (fun p => p.man.layers.length)).sum
theorem rchkL_ok : ∀ {l : List Pk} {seen : List Txt} {n : Nat}, rchkL seen n l = 0 → n ≤ 16 → (∀ p ∈ l, 1 ≤ p.owner ∧ p.owner ≤ 8 ∧ mchkF p.man = 0) ∧ n + nlay l ≤ 16
  | [], _, n, _, hn => ⟨fun _ h => (by cases h), by simpa [nlay] using hn⟩
  | p :: l, seen, n, h, hn => by
    rw [rchkL] at h
    split at h
    · cases h
    · rename_i h1
      split at h
      · rename_i h2; exact absurd h h2
      · rename_i h2
        split at h
        · cases h
        · split at h
          · cases h
          · rename_i h4
            obtain ⟨k1, k2⟩ := rchkL_ok h (by omega)
            refine ⟨fun q hq => ?_, ?_⟩
            · rcases List.mem_cons.1 hq with rfl | hq
              · exact ⟨by omega, by omega, by simpa using h2⟩
              · exact k1 q hq
            · have : nlay (p :: l) = p.man.layers.length + nlay l := by simp [nlay]
              omega
structure SOk (l : List Pk) : Prop where
  chk : rchkF l = 0
  each : ∀ p ∈ l, 1 ≤ p.owner ∧ p.owner ≤ 8 ∧ mchkF p.man = 0
  lays : nlay l ≤ 16
  few : l.length ≤ 16
theorem nlay_len : ∀ {l : List Pk}, (∀ p ∈ l, mchkF p.man = 0) → l.length ≤ nlay l
  | [], _ => Nat.zero_le _
  | p :: l, h => by
    have h1 := (mchkF_ok (h p (by simp))).some
    have h2 := nlay_len (l := l) (fun q hq => h q (by simp [hq]))
    have : nlay (p :: l) = p.man.layers.length + nlay l := by simp [nlay]
    rw [this, List.length_cons]
    omega
theorem SOk.of {l : List Pk} (h : rchkF l = 0) : SOk l := by
  obtain ⟨h1, h2⟩ := rchkL_ok h (by omega)
  have h3 := nlay_len (l := l) (fun p hp => (h1 p hp).2.2)
  exact ⟨h, h1, by omega, by omega⟩
theorem SOk.nil : SOk [] := SOk.of rfl

def layB (x : Rf) : Txt := x.sum ++ varB x.size.toNat
def laysB (l : List Rf) : Txt := (l.map layB).flatten
def mencF (m : Mf) : Txt := [86, 77, 1] ++ ([UInt8.ofNat m.name.length] ++ m.name ++ ([UInt8.ofNat m.ver.length] ++ m.ver ++ ([UInt8.ofNat m.layers.length] ++ laysB m.layers)))
def pencF (p : Pk) : Txt := UInt8.ofNat p.owner.toNat :: mencF p.man
def fixB : Nat → Nat → Txt
  | 0, _ => []
  | k + 1, n => fixB k (n / 256) ++ [UInt8.ofNat (n % 256)]
def eight (n : Nat) : Txt := fixB 8 n
def unfix (b : Txt) : Nat := b.foldl (fun v c => v * 256 + c.toNat) 0

theorem fixB_length : ∀ (k n : Nat), (fixB k n).length = k
  | 0, _ => rfl
  | k + 1, n => by rw [fixB, List.length_append, fixB_length k]; rfl
theorem unfix_fixB : ∀ (k n : Nat), n < 256 ^ k → unfix (fixB k n) = n
  | 0, n, h => by simp at h; subst h; rfl
  | k + 1, n, h => by
    have h1 : n / 256 < 256 ^ k := by rw [Nat.pow_succ] at h; omega
    have := unfix_fixB k (n / 256) h1
    unfold unfix at *
    rw [fixB, List.foldl_append, this]
    simp only [List.foldl_cons, List.foldl_nil]
    rw [toNat_ofNat_lt (by omega)]
    omega
theorem eight_length (n : Nat) : (eight n).length = 8 := fixB_length 8 n
theorem unfix_eight {n : Nat} (h : n < 18446744073709551616) : unfix (eight n) = n := by
  have h8 : (256 : Nat) ^ 8 = 18446744073709551616 := by decide
  exact unfix_fixB 8 n (by omega)
theorem eight_inj {a b : Nat} (ha : a < 18446744073709551616) (hb : b < 18446744073709551616) (h : eight a = eight b) : a = b := by
  rw [← unfix_eight ha, ← unfix_eight hb, h]

theorem laysB_len : ∀ (l : List Rf), (∀ x ∈ l, x.sum.length = 32) → (laysB l).length ≤ 42 * l.length
  | [], _ => by simp [laysB]
  | x :: l, h => by
    have h1 := laysB_len l (fun y hy => h y (by simp [hy]))
    have h2 := h x (by simp)
    have h3 := (varB_length x.size.toNat).1
    have e : laysB (x :: l) = layB x ++ laysB l := by simp [laysB]
    rw [e, List.length_append, List.length_cons]
    unfold layB
    rw [List.length_append]
    omega
def Pk.dig (p : Pk) : Prop := ∀ x ∈ p.man.layers, x.sum.length = 32
theorem pencF_len {p : Pk} (hd : p.dig) (h : mchkF p.man = 0) : (pencF p).length ≤ 39 + 42 * p.man.layers.length ∧ 1 ≤ (pencF p).length := by
  have hm := mchkF_ok h
  have h1 := nameB_len hm.name
  have h2 := nameB_len hm.ver
  have h3 := laysB_len p.man.layers hd
  unfold pencF mencF
  simp only [List.length_cons, List.length_append, List.length_nil]
  omega

end Go.Proofs.YtbjagmlbamjdbaaGreat.roots
end

section
namespace Go.Proofs.YtbjagmlbamjdbaaGreat.roots
open Go.My kvs

theorem rd_var : ∀ (k i v n : Nat) (rest : Txt), n < 128 ^ k → i + k ≤ 9 → (0 < i → 0 < n) → 1 ≤ k → rdN (10 - i) i v (varN (9 - i) n ++ rest) = (v + n * 128 ^ i, i + (varN (9 - i) n).length, 0)
  | 0, _, _, _, _, _, _, _, h => by omega
  | k + 1, i, v, n, rest, hn, hi, h0, _ => by
    obtain ⟨m, hm⟩ : ∃ m, 9 - i = m + 1 := ⟨8 - i, by omega⟩
    have h10 : 10 - i = (m + 1) + 1 := by omega
    rw [hm, h10, varN]
    by_cases hl : 128 ≤ n
    · rw [if_pos hl]
      have hc : (UInt8.ofNat (n % 128 + 128)).toNat = n % 128 + 128 := toNat_ofNat_lt (by omega)
      simp only [List.cons_append, List.length_cons]
      rw [rdN, hc, if_neg (by omega), if_neg (by omega)]
      have hk : 1 ≤ k := by
        cases k with
        | zero => simp at hn; omega
        | succ k => omega
      have hn2 : n / 128 < 128 ^ k := by rw [Nat.pow_succ] at hn; omega
      have ih := rd_var k (i + 1) (v + (n % 128 + 128) % 128 * 128 ^ i) (n / 128) rest hn2 (by omega) (fun _ => by omega) hk
      rw [show 10 - (i + 1) = m + 1 by omega, show 9 - (i + 1) = m by omega] at ih
      rw [ih]
      congr 1
      · rw [show (n % 128 + 128) % 128 = n % 128 by omega, Nat.pow_succ]
        have e1 : n / 128 * (128 ^ i * 128) = n / 128 * 128 * 128 ^ i := by rw [Nat.mul_comm (128 ^ i) 128, Nat.mul_assoc]
        rw [e1, Nat.add_assoc, ← Nat.add_mul]
        congr 2
        omega
      · congr 1
        omega
    · rw [if_neg hl]
      have hc : (UInt8.ofNat n).toNat = n := toNat_ofNat_lt (by omega)
      simp only [List.cons_append, List.nil_append, List.length_cons, List.length_nil]
      rw [rdN, hc, if_neg (by omega), if_pos (by omega), if_neg (fun h => by have := h0 h.2; omega)]
theorem rdV_big {n : Nat} (h : n < 4398046511104) (rest : Txt) : rdV (varB n ++ rest) = (n, (varB n).length, 0) := by
  have h6 : (128 : Nat) ^ 6 = 4398046511104 := by decide
  have := rd_var 6 0 0 n rest (by omega) (by omega) (fun h => by omega) (by omega)
  simp only [Nat.sub_zero, Nat.pow_zero, Nat.mul_one, Nat.zero_add] at this
  exact this

end Go.Proofs.YtbjagmlbamjdbaaGreat.roots
end
