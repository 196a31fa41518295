/-
  coord, of any plans: a coordinator and all that it knows; Take of any message.
-/
import Derived.Test.YtogjjkbgagedpaaCoGG
namespace Go.Proofs.Ytogjjkbgagedpaa.coordg
open Go.RowKit Go.Maps Go.My Go.ChangeMaps coords
set_option maxRecDepth 100000

structure Ent where
  x : Nat
  F : Nat → Prop
  E : EV

structure EntOk (E : EV) (lim : Int) : Prop where
  state : E.state = 1 ∨ E.state = 2 ∨ E.state = 3
  age0 : 0 ≤ E.age
  age1 : E.age < lim

/-- The coordinator at c knows the entries L (by their numbers). -/
structure AllIs (w : World) (c : Nat) (Fc : Nat → Prop) (lim : Int) (q : Nat) (L : List (Int × Ent)) : Prop where
  co : CoIs w c Fc lim (L.map fun p => (p.1, p.2.x)) q
  ents : ∀ p ∈ L, ∃ pv qa, EntIs w p.2.x p.2.F p.2.E pv qa
  apart : ∀ p ∈ L, ∀ k, p.2.F k → ¬ Fc k
  apart2 : ∀ p ∈ L, ∀ p' ∈ L, p.1 ≠ p'.1 → ∀ k, p.2.F k → ¬ p'.2.F k
  nodup : (L.map (·.1)).Nodup
  txn : ∀ p ∈ L, 1 ≤ p.1 ∧ p.1 ≤ 1099511627776
  ok : ∀ p ∈ L, EntOk p.2.E lim
  lim1 : 1 ≤ lim
  lim2 : lim ≤ 1000

def Foot (L : List (Int × Ent)) (Fc : Nat → Prop) : Nat → Prop := fun k => Fc k ∨ ∃ p ∈ L, p.2.F k

variable {w w' : World} {c q : Nat} {Fc : Nat → Prop} {lim : Int} {L : List (Int × Ent)}

theorem AllIs.foot (h : AllIs w c Fc lim q L) : ∀ k, Foot L Fc k → k < w.heap.size := by
  rintro k (hk | ⟨p, hp, hk⟩)
  · exact h.co.lt k hk
  · obtain ⟨pv, qa, hE⟩ := h.ents p hp
    exact hE.lt k hk

theorem AllIs.kept (h : AllIs w c Fc lim q L) {S : Nat → Prop} (hc : Chg S w w') (hs : ∀ k, Foot L Fc k → ¬ S k) : AllIs w' c Fc lim q L :=
  ⟨h.co.kept hc (fun k hk => hs k (Or.inl hk)), fun p hp => by
    obtain ⟨pv, qa, hE⟩ := h.ents p hp
    exact ⟨pv, qa, hE.kept hc (fun k hk => hs k (Or.inr ⟨p, hp, hk⟩))⟩, h.apart, h.apart2, h.nodup, h.txn, h.ok, h.lim1, h.lim2⟩

theorem AllIs.fresh (h : AllIs w c Fc lim q L) (hc : Chg (fun _ => False) w w') : AllIs w' c Fc lim q L := h.kept hc (fun _ _ h => h)

theorem mget_map (L : List (Int × Ent)) (k : Int) : mget (L.map fun p => (p.1, p.2.x)) k = (mget L k).map (·.x) := by
  induction L with
  | nil => rfl
  | cons p L ih => simp only [List.map_cons, mget_cons, ih]; split <;> rfl

theorem mget_mem {L : List (Int × Ent)} {k : Int} {e : Ent} (h : mget L k = some e) : (k, e) ∈ L := by
  induction L with
  | nil => simp [mget_nil] at h
  | cons p L ih =>
    rw [mget_cons] at h
    by_cases hp : p.1 = k
    · rw [if_pos hp] at h
      cases h
      rw [← hp]; exact List.mem_cons_self
    · rw [if_neg hp] at h
      exact List.mem_cons_of_mem _ (ih h)

theorem mem_mget {L : List (Int × Ent)} (hn : (L.map (·.1)).Nodup) {k : Int} {e : Ent} (h : (k, e) ∈ L) : mget L k = some e := by
  induction L with
  | nil => simp at h
  | cons p L ih =>
    rw [mget_cons]
    rw [List.map_cons, List.nodup_cons] at hn
    rcases List.mem_cons.1 h with h | h
    · rw [← h, if_pos rfl]
    · rw [if_neg, ih hn.2 h]
      intro e1
      exact hn.1 (List.mem_map.2 ⟨_, h, e1.symm⟩)

def upd (L : List (Int × Ent)) (tx : Int) (E : EV) : List (Int × Ent) := L.map (fun p => if p.1 = tx then (p.1, { p.2 with E := E }) else p)

theorem upd_keys (L : List (Int × Ent)) (tx : Int) (E : EV) : (upd L tx E).map (·.1) = L.map (·.1) := by
  unfold upd; rw [List.map_map]; apply List.map_congr_left; intro p _; simp only [Function.comp]; split <;> rfl
theorem upd_xs (L : List (Int × Ent)) (tx : Int) (E : EV) : (upd L tx E).map (fun p => (p.1, p.2.x)) = L.map (fun p => (p.1, p.2.x)) := by
  unfold upd; rw [List.map_map]; apply List.map_congr_left; intro p _; simp only [Function.comp]; split <;> rfl
theorem upd_mem {L : List (Int × Ent)} {tx : Int} {E : EV} {p : Int × Ent} (h : p ∈ upd L tx E) : ∃ p0 ∈ L, p.1 = p0.1 ∧ p.2.F = p0.2.F ∧ p.2.x = p0.2.x ∧ (p0.1 ≠ tx → p = p0) ∧ (p0.1 = tx → p.2.E = E) := by
  obtain ⟨p0, h0, rfl⟩ := List.mem_map.1 h
  refine ⟨p0, h0, ?_⟩
  by_cases e : p0.1 = tx
  · simp [e]
  · simp [e]
theorem upd_get (L : List (Int × Ent)) (tx : Int) (E : EV) (k : Int) : mget (upd L tx E) k = if k = tx then (mget L tx).map (fun e => { e with E := E }) else mget L k := by
  induction L with
  | nil => simp [upd, mget_nil]
  | cons p L ih =>
    unfold upd at ih ⊢
    simp only [List.map_cons, mget_cons, ih]
    by_cases hp : p.1 = tx
    · by_cases hk : k = tx
      · simp [hp, hk]
      · simp [hp, hk, Ne.symm hk]
    · by_cases hk : k = tx
      · subst hk; simp [hp]
      · simp [hp, hk]

/-- An entry turns. -/
theorem AllIs.upd (h : AllIs w c Fc lim q L) {tx : Int} {e : Ent} (he : mget L tx = some e) {E' : EV} {pv : Value} {qa : Nat} (hE : EntIs w' e.x e.F E' pv qa) (hco : CoIs w' c Fc lim (L.map fun p => (p.1, p.2.x)) q) {S : Nat → Prop} (hc : Chg S w w') (hs : ∀ k, S k → Fc k ∨ e.F k ∨ ¬ Foot L Fc k) (hok : EntOk E' lim) : AllIs w' c Fc lim q (coordg.upd L tx E') := by
  have hmem := mget_mem he
  refine ⟨?_, fun p hp => ?_, fun p hp => ?_, fun p hp p' hp' hne => ?_, by rw [upd_keys]; exact h.nodup, fun p hp => ?_, fun p hp => ?_, h.lim1, h.lim2⟩
  · rw [upd_xs]
    exact hco
  · obtain ⟨p0, h0, h1, h2, h3, h4, h5⟩ := upd_mem hp
    by_cases e0 : p0.1 = tx
    · have : p0 = (tx, e) := by
        have h6 := mem_mget h.nodup (show (tx, p0.2) ∈ L by rw [← e0]; exact h0)
        rw [he] at h6
        cases h6
        rw [← e0]
      rw [h2, h3, h5 e0, this]
      exact ⟨pv, qa, hE⟩
    · rw [h4 e0]
      obtain ⟨pv0, qa0, hE0⟩ := h.ents p0 h0
      refine ⟨pv0, qa0, hE0.kept hc (fun k hk hS => ?_)⟩
      rcases hs k hS with h1 | h1 | h1
      · exact h.apart _ h0 k hk h1
      · exact h.apart2 _ h0 _ hmem e0 k hk h1
      · exact h1 (Or.inr ⟨p0, h0, hk⟩)
  · obtain ⟨p0, h0, h1, h2, h3, -⟩ := upd_mem hp
    rw [h2]; exact h.apart p0 h0
  · obtain ⟨p0, h0, h1, h2, h3, -⟩ := upd_mem hp
    obtain ⟨p0', h0', h1', h2', h3', -⟩ := upd_mem hp'
    rw [h2, h2']
    exact h.apart2 p0 h0 p0' h0' (by rw [← h1, ← h1']; exact hne)
  · obtain ⟨p0, h0, h1, -⟩ := upd_mem hp
    rw [h1]; exact h.txn p0 h0
  · obtain ⟨p0, h0, h1, h2, h3, h4, h5⟩ := upd_mem hp
    by_cases e0 : p0.1 = tx
    · rw [h5 e0]; exact hok
    · rw [h4 e0]; exact h.ok p0 h0

theorem mdel_map (L : List (Int × Ent)) (tx : Int) : mdel (L.map fun p => (p.1, p.2.x)) tx = (mdel L tx).map fun p => (p.1, p.2.x) := by
  unfold mdel; rw [List.filter_map]; rfl
theorem mdel_mem {L : List (Int × Ent)} {tx : Int} {p : Int × Ent} (h : p ∈ mdel L tx) : p ∈ L := (List.mem_filter.1 h).1

/-- An entry goes. -/
theorem AllIs.del (h : AllIs w c Fc lim q L) {tx : Int} {e : Ent} (he : mget L tx = some e) (hco : CoIs w' c Fc lim (mdel (L.map fun p => (p.1, p.2.x)) tx) q) {S : Nat → Prop} (hc : Chg S w w') (hs : ∀ k, S k → Fc k ∨ e.F k ∨ ¬ Foot L Fc k) : AllIs w' c Fc lim q (mdel L tx) := by
  have hmem := mget_mem he
  refine ⟨by rw [← mdel_map]; exact hco, fun p hp => ?_, fun p hp => h.apart p (mdel_mem hp), fun p hp p' hp' => h.apart2 p (mdel_mem hp) p' (mdel_mem hp'), ?_, fun p hp => h.txn p (mdel_mem hp), fun p hp => h.ok p (mdel_mem hp), h.lim1, h.lim2⟩
  · obtain ⟨pv, qa, hE⟩ := h.ents p (mdel_mem hp)
    have hne : p.1 ≠ tx := by have := (List.mem_filter.1 hp).2; simpa using this
    refine ⟨pv, qa, hE.kept hc (fun k hk hS => ?_)⟩
    rcases hs k hS with h1 | h1 | h1
    · exact h.apart p (mdel_mem hp) k hk h1
    · exact h.apart2 p (mdel_mem hp) _ hmem hne k hk h1
    · exact h1 (Or.inr ⟨p, mdel_mem hp, hk⟩)
  · exact h.nodup.sublist (List.filter_sublist.map _)

/-- A new entry. -/
theorem AllIs.add (h : AllIs w c Fc lim q L) {tx : Int} (ht : 1 ≤ tx ∧ tx ≤ 1099511627776) (hn : mget L tx = none) {e : Ent} {pv : Value} {qa : Nat} (hE : EntIs w' e.x e.F e.E pv qa) (hco : CoIs w' c Fc lim (mput (L.map fun p => (p.1, p.2.x)) tx e.x) q) {S : Nat → Prop} (hc : Chg S w w') (hs : ∀ k, S k → Fc k ∨ ¬ Foot L Fc k) (hF : ∀ k, e.F k → w.heap.size ≤ k) (hok : EntOk e.E lim) : AllIs w' c Fc lim q (L ++ [(tx, e)]) := by
  have hnot : ∀ p ∈ L, p.1 ≠ tx := fun p hp e1 => by
    have := mem_mget h.nodup (show (tx, p.2) ∈ L by rw [← e1]; exact hp)
    rw [hn] at this; cases this
  have hout : ∀ k, e.F k → ¬ Foot L Fc k := fun k hk hf => by have h1 := h.foot k hf; have h2 := hF k hk; omega
  refine ⟨?_, fun p hp => ?_, fun p hp k hk => ?_, fun p hp p' hp' hne k hk hk' => ?_, ?_, fun p hp => ?_, fun p hp => ?_, h.lim1, h.lim2⟩
  · have : mput (L.map fun p => (p.1, p.2.x)) tx e.x = (L ++ [(tx, e)]).map fun p => (p.1, p.2.x) := by
      unfold mput
      rw [mget_map, hn]
      simp
    rw [← this]; exact hco
  · rcases List.mem_append.1 hp with hp | hp
    · obtain ⟨pv0, qa0, hE0⟩ := h.ents p hp
      refine ⟨pv0, qa0, hE0.kept hc (fun k hk hS => ?_)⟩
      rcases hs k hS with h1 | h1
      · exact h.apart p hp k hk h1
      · exact h1 (Or.inr ⟨p, hp, hk⟩)
    · rw [List.mem_singleton.1 hp]; exact ⟨pv, qa, hE⟩
  · rcases List.mem_append.1 hp with hp | hp
    · exact h.apart p hp k hk
    · rw [List.mem_singleton.1 hp] at hk
      exact fun hc => hout k hk (Or.inl hc)
  · rcases List.mem_append.1 hp with hp | hp
    · rcases List.mem_append.1 hp' with hp' | hp'
      · exact h.apart2 p hp p' hp' hne k hk hk'
      · rw [List.mem_singleton.1 hp'] at hk'
        exact hout k hk' (Or.inr ⟨p, hp, hk⟩)
    · rw [List.mem_singleton.1 hp] at hk hne
      rcases List.mem_append.1 hp' with hp' | hp'
      · exact hout k hk (Or.inr ⟨p', hp', hk'⟩)
      · rw [List.mem_singleton.1 hp'] at hne
        exact hne rfl
  · rw [List.map_append, List.nodup_append]
    refine ⟨h.nodup, by simp, fun a ha b hb => ?_⟩
    obtain ⟨p, hp, rfl⟩ := List.mem_map.1 ha
    simp only [List.map_cons, List.map_nil, List.mem_singleton] at hb
    rw [hb]; exact hnot p hp
  · rcases List.mem_append.1 hp with hp | hp
    · exact h.txn p hp
    · rw [List.mem_singleton.1 hp]; exact ht
  · rcases List.mem_append.1 hp with hp | hp
    · exact h.ok p hp
    · rw [List.mem_singleton.1 hp]; exact hok

end Go.Proofs.Ytogjjkbgagedpaa.coordg
