/-
  GENERAL LEMMAS OF MY OWN (no program in sight): what a call leaves alone ('Chg'), blocks known whole, maps as association lists ('MapIs').
-/
import Derived.Maps.Keyed
import Derived.Carry
import Derived.WalkKit
import Derived.WalkSpells
import Derived.DeepKeys4
import Derived.Deep.Draws
import Derived.Deep.Quiet
import Derived.BigQuiet
namespace Go.My
open Go.RowKit

/-- What becomes of the world: only blocks in S may change, blocks are only added. -/
structure Chg (S : Nat → Prop) (w w' : World) : Prop where
  os : w'.os = w.os
  tape : w'.tape = w.tape
  output : w'.output = w.output
  size : w.heap.size ≤ w'.heap.size
  block : ∀ k, k < w.heap.size → ¬ S k → w'.heap[k]? = w.heap[k]?

theorem Chg.refl (S : Nat → Prop) (w : World) : Chg S w w := ⟨rfl, rfl, rfl, Nat.le_refl _, fun _ _ _ => rfl⟩

theorem Chg.trans {S S' : Nat → Prop} {a b c : World} (h : Chg S a b) (k : Chg S' b c) (hs : ∀ i, i < a.heap.size → S' i → S i) : Chg S a c :=
  ⟨k.os.trans h.os, k.tape.trans h.tape, k.output.trans h.output, Nat.le_trans h.size k.size, fun i hi hn =>
    (k.block i (Nat.lt_of_lt_of_le hi h.size) (fun hc => hn (hs i hi hc))).trans (h.block i hi hn)⟩

theorem Chg.trans' {S : Nat → Prop} {a b c : World} (h : Chg S a b) (k : Chg S b c) : Chg S a c := h.trans k (fun _ _ h => h)

theorem Chg.mono {S S' : Nat → Prop} {a b : World} (h : Chg S a b) (hs : ∀ i, i < a.heap.size → S i → S' i) : Chg S' a b :=
  ⟨h.os, h.tape, h.output, h.size, fun i hi hn => h.block i hi (fun hc => hn (hs i hi hc))⟩

theorem Chg.drew {S : Nat → Prop} {a w : World} (h : Chg S a w) : Chg S a w.drew := ⟨h.os, h.tape, h.output, h.size, h.block⟩
theorem Chg.drewN {S : Nat → Prop} {a w : World} (h : Chg S a w) (n : Nat) : Chg S a (w.drewN n) := ⟨h.os, h.tape, h.output, h.size, h.block⟩

theorem Chg.alloc {S : Nat → Prop} {a w : World} (h : Chg S a w) (o : Obj) : Chg S a (w.alloc o) :=
  h.trans (S' := fun _ => False) ⟨rfl, rfl, rfl, by simp, fun k hk _ => Below.heap_alloc _ _ _ hk⟩ (fun _ _ h => h.elim)

theorem Chg.setCell {S : Nat → Prop} {a w : World} (h : Chg S a w) {p : Addr} (hp : p.block < a.heap.size → S p.block) (u : Value) : Chg S a (w.setCell p u) :=
  h.trans (S' := fun k => k = p.block) ⟨rfl, rfl, rfl, by simp [World.setCell], fun k _ hk => Below.heap_setCell _ _ _ _ hk⟩ (fun i hi e => e ▸ hp (e ▸ hi))

theorem Chg.setBlock {S : Nat → Prop} {a w : World} (h : Chg S a w) {b : Nat} (hp : b < a.heap.size → S b) (o : Obj) : Chg S a (ChangeMaps.setBlock w b o) :=
  h.trans (S' := fun k => k = b) ⟨rfl, rfl, rfl, by simp [ChangeMaps.setBlock], fun k _ hk => by simp [ChangeMaps.setBlock, Array.getElem?_setIfInBounds]; omega⟩ (fun i hi e => e ▸ hp (e ▸ hi))

theorem Chg.below {S : Nat → Prop} {w w' : World} {B : Nat} (h : Chg S w w') (hB : B ≤ w.heap.size) (hs : ∀ k, S k → B ≤ k) : Below B w w' :=
  ⟨h.os, h.tape, h.output, h.size, fun k hk => h.block k (by omega) (fun hc => by have := hs k hc; omega)⟩

theorem Chg.new {S : Nat → Prop} {a b c : World} (h : Chg (fun _ => False) a b) (k : Chg S b c) (hs : ∀ i, S i → a.heap.size ≤ i) : Chg (fun _ => False) a c :=
  h.trans k (fun i hi h => by have := hs i h; omega)

/-- Another block stays. -/
theorem Chg.at {S : Nat → Prop} {w w' : World} (h : Chg S w w') {b : Nat} {o : Obj} (hb : w.heap[b]? = some o) (hn : ¬ S b) : w'.heap[b]? = some o :=
  (h.block b (Array.getElem?_eq_some_iff.1 hb).1 hn).trans hb

theorem lt_of_block {w : World} {b : Nat} {o : Obj} (hb : w.heap[b]? = some o) : b < w.heap.size := (Array.getElem?_eq_some_iff.1 hb).1

theorem cell_of_block {w : World} {b i : Nat} {cs : Array Value} {t : TypeId} {fr : Nat × Nat} {v : Value} (hb : w.heap[b]? = some (.cells cs t fr)) (hi : cs[i]? = some v) : w.cell? ⟨b, i, none⟩ = some v := by
  simp [World.cell?, hb, hi]

theorem free_of_block {w : World} {b i : Nat} {cs : Array Value} {t : TypeId} (hb : w.heap[b]? = some (.cells cs t (0, 0))) : w.frozen? ⟨b, i, none⟩ = false := by
  simp [World.frozen?, hb]

theorem block_setCell {w : World} {b i : Nat} {cs : Array Value} {t : TypeId} {fr : Nat × Nat} {v : Value} (hb : w.heap[b]? = some (.cells cs t fr)) : (w.setCell ⟨b, i, none⟩ v).heap[b]? = some (.cells (cs.setIfInBounds i v) t fr) := by
  simp [World.setCell, Array.getElem?_modify, hb]

theorem block_alloc_new (w : World) (o : Obj) : (w.alloc o).heap[w.heap.size]? = some o := by
  show (w.heap.push o)[w.heap.size]? = _; simp

theorem heap_alloc_get (w : World) (o : Obj) (k : Nat) : (w.alloc o).heap[k]? = if k = w.heap.size then some o else w.heap[k]? := by
  show (w.heap.push o)[k]? = _
  rw [Array.getElem?_push]

theorem heap_drew (w : World) : w.drew.heap = w.heap := rfl

theorem heap_setCell_get (w : World) (a : Addr) (u : Value) (k : Nat) (h : k ≠ a.block) : (w.setCell a u).heap[k]? = w.heap[k]? := Below.heap_setCell w a u k h

/-! ### a region that draws its order, reads, and calls what only adds blocks -/
structure FreshW (w : World) where
  val : World
  chg : Chg (fun _ => False) w val

instance {w : World} : Inhabited (FreshW w) := ⟨⟨w, Chg.refl _ _⟩⟩

theorem wp_region_fresh {P : Program} {id : Nat} {Q : Exit → Act → World → Prop} {a : Act} {w : World} {l : List Oper} (hm : P.follows .mixedOrders = true) (hB : Region.lexB .any l.toArray = true)
    (h : wpQuiet P l.toArray (fun w' => ∃ n : FreshW w, w' = n.val) (fun a' => ∀ w', (∃ n : FreshW w, w' = n.val) → Q .normal a' w') l a) : (Code.region id l.toArray true).wp P Q a w :=
  wp_region_quiet (C := fun w' => ∃ n : FreshW w, w' = n.val) hm hB ⟨⟨_, (Chg.refl _ _).drew⟩, rfl⟩ (by simpa using h)

theorem fresh_call {P : Program} {f : FuncId} {args : Array Value} {w : World} {n : FreshW w} {v : Value} (h : Calls P f args n.val fun e w' => e = .returned v ∧ Chg (fun _ => False) n.val w') :
    Calls P f args n.val fun e w'' => e = .returned v ∧ ∃ m : FreshW w, w'' = m.val :=
  h.mono fun _ _ ⟨he, hc⟩ => ⟨he, ⟨_, n.chg.trans' hc⟩, rfl⟩

/-! ### slices that are read -/
/-- The slice v reads as xs, a cell each. -/
def SlAt (w : World) (v : Value) (xs : List Value) : Prop :=
  ∃ (oa : Option Addr) (cap : Nat), v = .slice oa xs.length cap ∧ (xs ≠ [] → ∃ b off, oa = some ⟨b, off, none⟩) ∧
    ∀ (b off : Nat), oa = some ⟨b, off, none⟩ → ∀ (i : Nat) (x : Value), xs[i]? = some x → w.cell? ⟨b, off + i, none⟩ = some x

theorem Chg.cell {S : Nat → Prop} {w w' : World} (h : Chg S w w') {a : Addr} {v : Value} (hc : w.cell? a = some v) (hn : ¬ S a.block) : w'.cell? a = some v := by
  rw [← hc]; exact World.cell?_of_block (w := w) (h.block a.block (World.block_lt_of_cell? _ _ hc) hn)

theorem SlAt.kept {w w' : World} {v : Value} {xs : List Value} (h : SlAt w v xs) (hc : Chg (fun _ => False) w w') : SlAt w' v xs := by
  obtain ⟨oa, cap, h1, h2, h3⟩ := h
  exact ⟨oa, cap, h1, h2, fun b off ho i x hx => hc.cell (h3 b off ho i x hx) id⟩

theorem SlAt.cell {w : World} {oa : Option Addr} {n cap : Nat} {xs : List Value} (h : SlAt w (.slice oa n cap) xs) {k : Nat} (hk : k < xs.length) :
    ∃ b off, oa = some ⟨b, off, none⟩ ∧ n = xs.length ∧ w.cell? ⟨b, off + k, none⟩ = some (xs[k]'hk) := by
  obtain ⟨oa', cap', h1, h2, h3⟩ := h
  cases h1
  obtain ⟨b, off, rfl⟩ := h2 (by intro e; subst e; simp at hk)
  exact ⟨b, off, rfl, rfl, h3 b off rfl k _ (List.getElem?_eq_getElem hk)⟩

theorem SlAt.of_own {w : World} {base : Nat} {e : TypeId} {v : Value} {n : Nat} {xs : List Value} (h : w.ownsRow base e 1 v n xs) : SlAt w v xs := by
  have hn : xs.length = n := by have := h.1; omega
  rcases h.2 with ⟨rfl, h0⟩ | ⟨g, cap, cur, rfl, _, hg, hc, _, hcs, ht⟩
  · subst h0
    have : xs = [] := by simpa using hn
    subst this
    exact ⟨none, 0, rfl, fun h => absurd rfl h, by simp⟩
  · refine ⟨some ⟨g, 0, none⟩, cap, by rw [hn], fun _ => ⟨g, 0, rfl⟩, ?_⟩
    intro b off ho i x hx
    cases ho
    refine cell_of_block hg ?_
    rw [← ht, List.getElem?_take] at hx
    split at hx
    · simpa using hx
    · cases hx

theorem Chg.of_grown {w w' : World} {row : Option Nat} (h : w.grownBy w' row) : Chg (fun k => some k = row) w w' :=
  ⟨h.os, h.tape, h.output, h.size, h.block⟩

theorem Chg.grown {w w' : World} (h : Chg (fun _ => False) w w') : w.grownBy w' none := ⟨h.os, h.tape, h.output, h.size, fun k hk _ => h.block k hk id⟩

theorem own_kept {w w' : World} {base : Nat} {e : TypeId} {size : Nat} {v : Value} {n : Nat} {xs : List Value} (h : w.ownsRow base e size v n xs) (hc : Chg (fun _ => False) w w') : w'.ownsRow base e size v n xs :=
  h.kept hc.grown (by cases v.ownBlock <;> simp)

/-- An append to a slice of the call's own. -/
theorem Chg.append {W w w' : World} {e : TypeId} {size : Nat} {v : Value} {n : Nat} {xs : List Value} (h : Chg (fun _ => False) W w) (ho : w.ownsRow W.heap.size e size v n xs) {w1 : World} (h1 : Chg (fun _ => False) w w1) (hg : w1.grownBy w' v.ownBlock) : Chg (fun _ => False) W w' :=
  (h.trans' h1).trans (Chg.of_grown hg) (fun i hi hk => by have := (ho.lt i hk.symm).1; omega)

/-! ### maps -/
section
variable {K V : Type} [DecidableEq K]

def mget (m : List (K × V)) (k : K) : Option V := (m.find? (fun p => p.1 = k)).map (·.2)
def mput (m : List (K × V)) (k : K) (v : V) : List (K × V) :=
  if (mget m k).isSome then m.map (fun p => if p.1 = k then (k, v) else p) else m ++ [(k, v)]
def mdel (m : List (K × V)) (k : K) : List (K × V) := m.filter (fun p => p.1 ≠ k)

theorem mget_nil (k : K) : mget ([] : List (K × V)) k = none := rfl
theorem mget_cons (p : K × V) (m : List (K × V)) (k : K) : mget (p :: m) k = if p.1 = k then some p.2 else mget m k := by
  unfold mget; rw [List.find?_cons]; by_cases h : p.1 = k <;> simp [h]

theorem mget_append_new (m : List (K × V)) (k k' : K) (v : V) : mget (m ++ [(k, v)]) k' = (mget m k').orElse (fun _ => if k = k' then some v else none) := by
  induction m with
  | nil => simp [mget_cons, mget_nil]
  | cons p m ih => simp only [List.cons_append, mget_cons, ih]; split <;> simp

theorem mget_map_put (m : List (K × V)) (k k' : K) (v : V) : mget (m.map (fun p => if p.1 = k then (k, v) else p)) k' = if k' = k then (mget m k).map (fun _ => v) else mget m k' := by
  induction m with
  | nil => simp [mget_nil]
  | cons p m ih =>
    simp only [List.map_cons, mget_cons, ih]
    by_cases h : p.1 = k
    · by_cases h' : k' = k
      · subst h'; simp [h]
      · simp [h, h', Ne.symm h']
    · by_cases h' : k' = k
      · subst h'; simp [h]
      · simp [h, h']

theorem mget_mput (m : List (K × V)) (k k' : K) (v : V) : mget (mput m k v) k' = if k' = k then some v else mget m k' := by
  unfold mput
  by_cases h : (mget m k).isSome
  · rw [if_pos h, mget_map_put]
    by_cases h' : k' = k
    · simp only [h', if_true]; cases hm : mget m k with
      | none => simp [hm] at h
      | some x => rfl
    · simp [h']
  · rw [if_neg h, mget_append_new]
    have hn : mget m k = none := by simpa using h
    by_cases h' : k' = k
    · subst h'; simp [hn]
    · simp only [if_neg h', if_neg (Ne.symm h')]; cases mget m k' <;> rfl

theorem mget_mdel (m : List (K × V)) (k k' : K) : mget (mdel m k) k' = if k' = k then none else mget m k' := by
  unfold mdel
  induction m with
  | nil => simp [mget_nil]
  | cons p m ih =>
    rw [List.filter_cons]
    by_cases h : p.1 = k
    · simp only [h, ne_eq, not_true_eq_false, decide_false, Bool.false_eq_true, if_false, ih, mget_cons]
      by_cases h' : k' = k
      · simp [h']
      · simp [h', Ne.symm h']
    · simp only [ne_eq, h, not_false_eq_true, decide_true, if_true, mget_cons, ih]
      by_cases h' : k' = k
      · subst h'; simp [h]
      · simp [h']

end
end Go.My
