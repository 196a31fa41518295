/- . -/
import Derived.Test.YtbjagmlbamjdbaaGreatPx20RootOnce

set_option linter.unusedSimpArgs false
set_option linter.unusedVariables false
section
namespace Go.Proofs.YtbjagmlbamjdbaaGreat.roots
open Go.RowKit Go.Maps Go.My Go.ChangeMaps disks bufs wals kvs
set_option maxRecDepth 100000

variable {W w w' : World} {P P' F : Nat → Prop} {r kb l q d s a : Nat} {X X' : DV} {V V' : LV} {m m' : List KV} {S : RS} {sv wv dv : Value}

theorem own_keptS {base n : Nat} {e : TypeId} {v : Value} {xs : List Value} {Sx : Nat → Prop} (h : w.ownsRow base e 1 v n xs) (hc : Chg Sx w w') (hs : ∀ g, v.ownBlock = some g → ¬ Sx g) : w'.ownsRow base e 1 v n xs := by
  obtain ⟨h1, h2⟩ := h
  refine ⟨h1, ?_⟩
  rcases h2 with h2 | ⟨g, cap, cur, hv, a1, a2, a3⟩
  · exact Or.inl h2
  · exact Or.inr ⟨g, cap, cur, hv, a1, hc.at a2 (hs g (by rw [hv]; rfl)), a3⟩

structure RKS (P : Nat → Prop) (W w : World) (r kb l q d : Nat) (X : DV) (V : LV) (m : List KV) (F : Nat → Prop) (S : RS) (sv wv dv : Value) : Prop where
  ks : KS P W w kb l q d X V m
  rt : RtIs w W.heap.size r kb F S sv wv dv
  br : Beside P q w r
  bf : ∀ k, F k → Beside P q w k
  bd : ∀ g, dv.ownBlock = some g → Beside P q w g
  nr : W.heap.size ≤ r
  nf : ∀ k, F k → W.heap.size ≤ k
  fr : ¬ F r
  fd : ∀ g, dv.ownBlock = some g → ¬ F g
theorem RKS.fresh (h : RKS P W w r kb l q d X V m F S sv wv dv) (hc : Chg (fun _ => False) w w') : RKS P W w' r kb l q d X V m F S sv wv dv :=
  ⟨h.ks.fresh hc, h.rt.fresh hc, h.br.fresh hc, fun k hk => (h.bf k hk).fresh hc, fun g hg => (h.bd g hg).fresh hc, h.nr, h.nf, h.fr, h.fd⟩
theorem RKS.next (h : RKS P W w r kb l q d X V m F S sv wv dv) (k : KNext P W w w' kb l q d X' V' m' P') : RKS P' W w' r kb l q d X' V' m' F S sv wv dv where
  ks := k.ks
  rt := by
    have hn : ∀ g, Beside P q w g → ¬ (P g ∨ g = q) := fun g hg e => e.elim hg.1 hg.2.1
    refine ⟨k.chg.at h.rt.head (hn r h.br), h.rt.stack.kept k.chg (fun j hj => hn j (h.bf j hj)), h.rt.wants.kept k.chg (fun j hj => hn j (h.bf j hj)), ?_, h.rt.few, h.rt.lays⟩
    obtain ⟨h1, h2⟩ := h.rt.done
    refine ⟨h1, ?_⟩
    rcases h2 with h2 | ⟨g, cap, cur, hv, a1, a2, a3⟩
    · exact Or.inl h2
    · exact Or.inr ⟨g, cap, cur, hv, a1, k.chg.at a2 (hn g (h.bd g (by rw [hv]; rfl))), a3⟩
  br := k.off r h.br
  bf := fun j hj => k.off j (h.bf j hj)
  bd := fun g hg => k.off g (h.bd g hg)
  nr := h.nr
  nf := h.nf
  fr := h.fr
  fd := h.fd

end Go.Proofs.YtbjagmlbamjdbaaGreat.roots
end

section
namespace Go.Proofs.YtbjagmlbamjdbaaGreat.roots
open Go.RowKit Go.Maps Go.My Go.ChangeMaps disks bufs wals kvs
set_option maxRecDepth 100000

variable {W w w' : World} {P P' F : Nat → Prop} {r kb l q d s a : Nat} {X X' : DV} {V V' : LV} {m m' : List KV} {recs : List Txt} {S : RS} {sv wv dv : Value}

structure RGood (S : RS) : Prop where
  stk : SOk S.stack
  wnt : SOk S.wants
  sdig : ∀ p ∈ S.stack, p.dig
  wdig : ∀ p ∈ S.wants, p.dig
  none : S.staged = 0 → S.wants = []
  max : S.staged ≤ 1099511627776
  nums : ∀ n ∈ S.done, 1 ≤ n ∧ n ≤ 1099511627776
  nodup : S.done.Nodup
  off : S.staged ∉ S.done

def abortS (S : RS) : RS := ⟨S.stack, 0, [], S.done⟩
def commitS (S : RS) (n : Nat) : RS := ⟨S.wants, 0, [], S.done ++ [n]⟩
def stageS (S : RS) (n : Nat) (l : List Pk) : RS := ⟨S.stack, n, l, S.done⟩
theorem RGood.nil : RGood ⟨[], 0, [], []⟩ := ⟨SOk.nil, SOk.nil, by simp, by simp, fun _ => rfl, by simp, by simp, by simp, by simp⟩
theorem RGood.abort (h : RGood S) : RGood (abortS S) := ⟨h.stk, SOk.nil, h.sdig, by simp [abortS], fun _ => rfl, by simp [abortS], h.nums, h.nodup, fun e => by have := (h.nums _ e).1; simp [abortS] at this⟩
theorem RGood.commit (h : RGood S) {n : Nat} (h1 : 1 ≤ n) (h2 : n ≤ 1099511627776) (hn : n ∉ S.done) : RGood (commitS S n) := by
  refine ⟨h.wnt, SOk.nil, h.wdig, by simp [commitS], fun _ => rfl, by simp [commitS], fun k hk => ?_, ?_, fun e => ?_⟩
  · rcases List.mem_append.1 hk with hk | hk
    · exact h.nums k hk
    · rw [List.mem_singleton] at hk; subst hk; exact ⟨h1, h2⟩
  · show (S.done ++ [n]).Nodup
    rw [List.nodup_append]
    refine ⟨h.nodup, by simp, fun x hx y hy => ?_⟩
    rw [List.mem_singleton] at hy
    subst hy
    exact fun e => hn (e ▸ hx)
  · rcases List.mem_append.1 e with e | e
    · have := (h.nums _ e).1; simp [commitS] at this
    · rw [List.mem_singleton] at e; simp only [commitS] at e; omega
theorem RGood.stage (h : RGood S) {n : Nat} {l : List Pk} (h2 : n ≤ 1099511627776) (h1 : 1 ≤ n) (hn : n ∉ S.done) (hl : rchkF l = 0) (hd : ∀ p ∈ l, p.dig) : RGood (stageS S n l) :=
  ⟨h.stk, SOk.of hl, h.sdig, hd, fun e => by simp only [stageS] at e; omega, h2, h.nums, h.nodup, hn⟩

theorem askF_zero {t : Int} (h : askF t = 0) : 1 ≤ t ∧ t ≤ 1099511627776 := by
  unfold askF at h
  split at h
  · cases h
  · omega
theorem num_of {t : Int} (h : askF t = 0) : ∃ n : Nat, t = (n : Int) ∧ 1 ≤ n ∧ n ≤ 1099511627776 := by
  obtain ⟨h1, h2⟩ := askF_zero h
  exact ⟨t.toNat, by omega, by omega, by omega⟩
theorem abort_told {t : Int} (h : abortE S t = none) : askF t = 0 ∧ ∃ n : Nat, t = (n : Int) ∧ 1 ≤ n ∧ n ≤ 1099511627776 ∧ n ∉ S.done ∧ S.staged = n := by
  unfold abortE at h
  by_cases h0 : askF t = 0
  · obtain ⟨n, rfl, h1, h2⟩ := num_of h0
    rw [if_neg (by simpa using h0)] at h
    by_cases hd : ∃ k ∈ S.done, (k : Int) = (n : Int)
    · rw [if_pos hd] at h; cases h
    · rw [if_neg hd] at h
      by_cases hs : (S.staged : Int) = (n : Int)
      · exact ⟨h0, n, rfl, h1, h2, fun e => hd ⟨n, e, rfl⟩, by omega⟩
      · rw [if_pos hs] at h; cases h
  · rw [if_pos h0] at h; cases h
theorem commit_told {t : Int} (h : commitE S t = none) : askF t = 0 ∧ ∃ n : Nat, t = (n : Int) ∧ 1 ≤ n ∧ n ≤ 1099511627776 ∧ n ∉ S.done ∧ S.staged = n := by
  unfold commitE at h
  by_cases h0 : askF t = 0
  · obtain ⟨n, rfl, h1, h2⟩ := num_of h0
    rw [if_neg (by simpa using h0)] at h
    by_cases hd : ∃ k ∈ S.done, (k : Int) = (n : Int)
    · rw [if_pos hd] at h; cases h
    · rw [if_neg hd] at h
      by_cases hs : (S.staged : Int) = (n : Int)
      · exact ⟨h0, n, rfl, h1, h2, fun e => hd ⟨n, e, rfl⟩, by omega⟩
      · rw [if_pos hs] at h; cases h
  · rw [if_pos h0] at h; cases h
theorem stage_told {t : Int} {ps : List Pk} (h : stageE S t ps = none) : askF t = 0 ∧ rchkF ps = 0 ∧ S.staged = 0 ∧ ∃ n : Nat, t = (n : Int) ∧ 1 ≤ n ∧ n ≤ 1099511627776 ∧ n ∉ S.done := by
  unfold stageE at h
  by_cases h0 : askF t = 0
  · obtain ⟨n, rfl, h1, h2⟩ := num_of h0
    rw [if_neg (by simpa using h0)] at h
    by_cases hc : rchkF ps = 0
    · rw [if_neg (by simpa using hc)] at h
      by_cases hd : ∃ k ∈ S.done, (k : Int) = (n : Int)
      · rw [if_pos hd] at h; cases h
      · rw [if_neg hd] at h
        by_cases hs : (S.staged : Int) = (n : Int)
        · rw [if_pos hs] at h; cases h
        · rw [if_neg hs] at h
          by_cases hz : S.staged = 0
          · exact ⟨h0, hc, hz, n, rfl, h1, h2, fun e => hd ⟨n, e, rfl⟩⟩
          · rw [if_pos hz] at h; cases h
    · rw [if_pos hc] at h; cases h
  · rw [if_pos h0] at h; cases h

structure RT (Q : Nat → Prop) (W w : World) (r d : Nat) (X : DV) (V : LV) (m : List KV) (S : RS) : Prop where
  ex : ∃ P kb l q F sv wv dv, RKS P W w r kb l q d X V m F S sv wv dv ∧ (∀ g, P g ∨ g = q ∨ g = r ∨ F g ∨ dv.ownBlock = some g → Q g)
  lt : ∀ g, Q g → g < w.heap.size
  new : ∀ g, Q g → W.heap.size ≤ g
  good : RGood S
  is : sortF m = rootL S
def More (Q : Nat → Prop) (w w' : World) (g : Nat) : Prop := Q g ∨ (w.heap.size ≤ g ∧ g < w'.heap.size)
theorem More.off {Q : Nat → Prop} {g : Nat} (h : ¬ Q g) (hg : g < w.heap.size) : ¬ More Q w w' g := fun e => e.elim h (fun e => by omega)
structure RGo (Q : Nat → Prop) (W w w' : World) (r d : Nat) (X : DV) (V : LV) (m : List KV) (S : RS) : Prop where
  rt : RT (More Q w w') W w' r d X V m S
  chg : Chg Q w w'
theorem RT.fresh {Q : Nat → Prop} (h : RT Q W w r d X V m S) (hc : Chg (fun _ => False) w w') : RT Q W w' r d X V m S := by
  obtain ⟨P, kb, l, q, F, sv, wv, dv, h1, h2⟩ := h.ex
  exact ⟨⟨P, kb, l, q, F, sv, wv, dv, h1.fresh hc, h2⟩, fun g hg => Nat.lt_of_lt_of_le (h.lt g hg) hc.size, h.new, h.good, h.is⟩
theorem RT.chg {Q : Nat → Prop} (h : RT Q W w r d X V m S) : Chg (fun _ => False) W w := by
  obtain ⟨P, kb, l, q, F, sv, wv, dv, h1, -⟩ := h.ex
  exact h1.ks.chg
theorem RT.nd {Q : Nat → Prop} (h : RT Q W w r d X V m S) : NoDup m := by
  obtain ⟨P, kb, l, q, F, sv, wv, dv, h1, -⟩ := h.ex
  exact h1.ks.at'.db.map.nodup
theorem RT.disk {Q : Nat → Prop} (h : RT Q W w r d X V m S) : ∃ P, DS P W w d X ∧ ∀ g, P g → Q g := by
  obtain ⟨P, kb, l, q, F, sv, wv, dv, h1, h2⟩ := h.ex
  exact ⟨P, h1.ks.disk, fun g hg => h2 g (Or.inl hg)⟩
theorem RT.head {Q : Nat → Prop} (h : RT Q W w r d X V m S) : Q r := by
  obtain ⟨P, kb, l, q, F, sv, wv, dv, h1, h2⟩ := h.ex
  exact h2 r (Or.inr (Or.inr (Or.inl rfl)))
theorem RKS.go {Q : Nat → Prop} (h : RKS P W w r kb l q d X V m F S sv wv dv) (k : KNext P W w w' kb l q d X' V' m' P') (hQ : ∀ g, P g ∨ g = q ∨ g = r ∨ F g ∨ dv.ownBlock = some g → Q g) (hlt : ∀ g, Q g → g < w.heap.size) (hnew : ∀ g, Q g → W.heap.size ≤ g) (hg : RGood S) (hi : sortF m' = rootL S) : RGo Q W w w' r d X' V' m' S where
  rt := by
    refine ⟨⟨P', kb, l, q, F, sv, wv, dv, h.next k, fun g hg => ?_⟩, fun g hg => hg.elim (fun e => Nat.lt_of_lt_of_le (hlt g e) k.chg.size) (fun e => e.2), fun g hg => hg.elim (hnew g) (fun e => Nat.le_trans h.ks.chg.size e.1), hg, hi⟩
    by_cases hs : g < w.heap.size
    · refine Or.inl (hQ g ?_)
      rcases hg with hg | hg
      · by_cases hp : P g
        · exact Or.inl hp
        · by_cases hq : g = q
          · exact Or.inr (Or.inl hq)
          · exact absurd hg (k.off g ⟨hp, hq, hs⟩).1
      · exact Or.inr hg
    · refine Or.inr ⟨by omega, ?_⟩
      rcases hg with hg | hg | hg | hg | hg
      · exact k.ks.at'.lt g hg
      · exact Nat.lt_of_lt_of_le (hlt g (hQ g (Or.inr (Or.inl hg)))) k.chg.size
      · exact Nat.lt_of_lt_of_le (hlt g (hQ g (Or.inr (Or.inr (Or.inl hg))))) k.chg.size
      · exact Nat.lt_of_lt_of_le (hlt g (hQ g (Or.inr (Or.inr (Or.inr (Or.inl hg)))))) k.chg.size
      · exact Nat.lt_of_lt_of_le (hlt g (hQ g (Or.inr (Or.inr (Or.inr (Or.inr hg)))))) k.chg.size
  chg := k.chg.mono (fun g _ hg => hQ g (hg.elim Or.inl (fun e => Or.inr (Or.inl e))))

theorem next_foot (k : KNext P W w w' kb l q d X V m P') (g : Nat) (hg : P' g) : P g ∨ g = q ∨ (w.heap.size ≤ g ∧ g < w'.heap.size) := by
  by_cases hs : g < w.heap.size
  · by_cases hp : P g
    · exact Or.inl hp
    · by_cases hq : g = q
      · exact Or.inr (Or.inl hq)
      · exact absurd hg (k.off g ⟨hp, hq, hs⟩).1
  · exact Or.inr (Or.inr ⟨by omega, k.ks.at'.lt g hg⟩)
theorem ks_aside {Sx : Nat → Prop} (h : KS P W w kb l q d X V m) (hc : Chg Sx w w') (h1 : ∀ k, P k → ¬ Sx k) (h2 : ¬ Sx q) (h3 : ¬ Sx kb) (h4 : ∀ k, Sx k → W.heap.size ≤ k) : KS P W w' kb l q d X V m :=
  ⟨⟨wat_aside h.at'.log hc h1, h.at'.db.kept hc h3 h2, h.at'.nb, h.at'.nq, fun k hk => Nat.lt_of_lt_of_le (h.at'.lt k hk) hc.size⟩, h.new, h.nb, h.nq, h.chg.new hc h4⟩
theorem rks_ne (h : RKS P W w r kb l q d X V m F S sv wv dv) : r ≠ kb := by
  intro e
  have h1 := h.rt.head
  rw [e, h.ks.at'.db.head] at h1
  simp at h1
theorem RKS.set {F' : Nat → Prop} {S' : RS} {sv' wv' dv' : Value} (h : RKS P W w r kb l q d X V m F S sv wv dv) (hc : Chg (fun k => k = r ∨ some k = dv.ownBlock) w w') (rt : RtIs w' W.heap.size r kb F' S' sv' wv' dv') (bf : ∀ k, F' k → Beside P q w' k) (bd : ∀ g, dv'.ownBlock = some g → Beside P q w' g) (nf : ∀ k, F' k → W.heap.size ≤ k) (fr : ¬ F' r) (fd : ∀ g, dv'.ownBlock = some g → ¬ F' g) : RKS P W w' r kb l q d X V m F' S' sv' wv' dv' where
  ks := by
    have hn : ∀ g, Beside P q w g → g ≠ q := fun g hg => hg.2.1
    refine ks_aside h.ks hc (fun k hk e => ?_) (fun e => ?_) (fun e => ?_) (fun k e => ?_)
    · rcases e with e | e
      · exact h.br.1 (e ▸ hk)
      · exact (h.bd k e.symm).1 hk
    · rcases e with e | e
      · exact h.br.2.1 e.symm
      · exact (h.bd q e.symm).2.1 rfl
    · rcases e with e | e
      · exact rks_ne h e.symm
      · exact own_ne h.rt.done h.ks.at'.db.head (by decide) kb e.symm rfl
    · rcases e with e | e
      · exact e ▸ h.nr
      · exact (h.rt.done.lt k e.symm).1
  rt := rt
  br := ⟨h.br.1, h.br.2.1, Nat.lt_of_lt_of_le h.br.2.2 hc.size⟩
  bf := bf
  bd := bd
  nr := h.nr
  nf := nf
  fr := fr
  fd := fd
theorem Beside.more {g : Nat} (h : Beside P q w g) (hs : w.heap.size ≤ w'.heap.size) : Beside P q w' g := ⟨h.1, h.2.1, Nat.lt_of_lt_of_le h.2.2 hs⟩

theorem RGo.of {Q : Nat → Prop} {w3 w4 w5 : World} {F' : Nat → Prop} {S' : RS} {sv' wv' dv' : Value} (hW : Chg (fun _ => False) W w) (h3 : Chg (fun _ => False) w w3) (k : KNext P W w3 w4 kb l q d X' V' m' P') (h5 : Chg (fun k => k = r ∨ some k = dv.ownBlock) w4 w5) (h : RKS P' W w5 r kb l q d X' V' m' F' S' sv' wv' dv')
    (hQ : ∀ g, P g ∨ g = q ∨ g = r ∨ F g ∨ dv.ownBlock = some g → Q g) (hlt : ∀ g, Q g → g < w.heap.size) (hnew : ∀ g, Q g → W.heap.size ≤ g)
    (hF : ∀ g, F' g → F g ∨ (w.heap.size ≤ g ∧ g < w5.heap.size)) (hD : ∀ g, dv'.ownBlock = some g → dv.ownBlock = some g ∨ (w.heap.size ≤ g ∧ g < w5.heap.size)) (hg : RGood S') (hi : sortF m' = rootL S') : RGo Q W w w5 r d X' V' m' S' where
  rt := by
    have s3 := h3.size
    have s4 := k.chg.size
    have s5 := h5.size
    refine ⟨⟨P', kb, l, q, F', sv', wv', dv', h, fun g hg => ?_⟩, fun g hg => hg.elim (fun e => by have := hlt g e; omega) (fun e => e.2), fun g hg => hg.elim (hnew g) (fun e => Nat.le_trans hW.size e.1), hg, hi⟩
    rcases hg with hg | hg | hg | hg | hg
    · rcases next_foot k g hg with e | e | e
      · exact Or.inl (hQ g (Or.inl e))
      · exact Or.inl (hQ g (Or.inr (Or.inl e)))
      · exact Or.inr ⟨by omega, by omega⟩
    · exact Or.inl (hQ g (Or.inr (Or.inl hg)))
    · exact Or.inl (hQ g (Or.inr (Or.inr (Or.inl hg))))
    · exact (hF g hg).elim (fun e => Or.inl (hQ g (Or.inr (Or.inr (Or.inr (Or.inl e)))))) Or.inr
    · exact (hD g hg).elim (fun e => Or.inl (hQ g (Or.inr (Or.inr (Or.inr (Or.inr e)))))) Or.inr
  chg := by
    have h1 := h3.mono (S' := Q) (fun _ _ e => e.elim)
    refine (h1.trans' (k.chg.mono (fun g _ hg => hQ g (hg.elim Or.inl (fun e => Or.inr (Or.inl e)))))).trans' (h5.mono (fun g _ hg => hQ g ?_))
    exact hg.elim (fun e => Or.inr (Or.inr (Or.inl e))) (fun e => Or.inr (Or.inr (Or.inr (Or.inr e.symm))))

theorem RGo.from {Q : Nat → Prop} {w3 : World} (h : RGo Q W w3 w' r d X V m S) (hc : Chg (fun _ => False) w w3) (hW : W.heap.size ≤ w.heap.size) : RGo Q W w w' r d X V m S where
  rt := by
    obtain ⟨P, kb, l, q, F, sv, wv, dv, h1, h2⟩ := h.rt.ex
    have hs := hc.size
    have hw : ∀ g, More Q w3 w' g → More Q w w' g := fun g hg => hg.elim Or.inl (fun e => Or.inr ⟨by omega, e.2⟩)
    have hle := h.chg.size
    refine ⟨⟨P, kb, l, q, F, sv, wv, dv, h1, fun g hg => hw g (h2 g hg)⟩, fun g hg => ?_, fun g hg => ?_, h.rt.good, h.rt.is⟩
    · rcases hg with e | e
      · exact h.rt.lt g (Or.inl e)
      · exact e.2
    · rcases hg with e | e
      · exact h.rt.new g (Or.inl e)
      · exact Nat.le_trans hW e.1
  chg := (hc.mono (fun _ _ e => e.elim)).trans' h.chg

end Go.Proofs.YtbjagmlbamjdbaaGreat.roots
end

section
namespace Go.Proofs.YtbjagmlbamjdbaaGreat.kvs
open Go.RowKit Go.Maps Go.My Go.ChangeMaps disks bufs wals
set_option maxRecDepth 100000

variable {W w w' : World} {P : Nat → Prop} {b l q d s a : Nat} {X X' : DV} {V V' : LV} {m m' mm : List KV} {recs : List Txt}

theorem snapL_small : ∀ (l : List PV) (x : Sn), x.now.length + l.length ≤ 64 → 1 + x.size + (allB l).length ≤ 4096 → l.foldl Sn.step x = ⟨x.out, x.now ++ l, x.size + (allB l).length⟩
  | [], x, _, _ => by simp [allB]
  | p :: l, x, h1, h2 => by
    have e : allB (p :: l) = p.bytes ++ allB l := by simp [allB]
    rw [e, List.length_append] at h2 ⊢
    rw [List.length_cons] at h1
    have hr : x.room p.bytes.length = x := by
      unfold Sn.room
      rw [if_neg (by omega)]
    have hs : x.step p = ⟨x.out, x.now ++ [p], x.size + p.bytes.length⟩ := by unfold Sn.step; rw [hr]
    rw [List.foldl_cons, hs, snapL_small l _ (by simp only [List.length_append, List.length_cons, List.length_nil]; omega) (by simp only; omega)]
    simp only [List.append_assoc, List.cons_append, List.nil_append, Nat.add_assoc]
theorem rep_nil {m : List KV} (h : Rep [] m) : m = [] := by
  cases m with
  | nil => rfl
  | cons p m =>
    have := Rep.nil.unique h p.1
    rw [mget_cons, if_pos rfl] at this
    cases this

end Go.Proofs.YtbjagmlbamjdbaaGreat.kvs
end

section
namespace Go.Proofs.YtbjagmlbamjdbaaGreat.roots
open Go.RowKit Go.Maps Go.My Go.ChangeMaps disks bufs wals kvs
set_option maxRecDepth 100000

variable {X : DV} {m : List KV} {S : RS}

theorem allB_dlst : ∀ (l : List Nat) (i : Nat), (allB ((dlst i l).map ofKV)).length ≤ 22 * l.length ∧ ∀ q ∈ (dlst i l).map ofKV, q.may = true
  | [], _ => ⟨by simp [dlst, allB], fun q hq => by cases hq⟩
  | n :: l, i => by
    obtain ⟨h1, h2⟩ := allB_dlst l (i + 1)
    have hk : (99 :: eight i).length = 9 := by rw [List.length_cons, eight_length]
    have hv : (eight n).length = 8 := eight_length n
    have h3 := bytes_of (k := 99 :: eight i) (v := eight n) (by omega) (by omega)
    have e : allB ((dlst i (n :: l)).map ofKV) = (ofKV (99 :: eight i, eight n)).bytes ++ allB ((dlst (i + 1) l).map ofKV) := by simp [dlst, allB]
    constructor
    · rw [e, List.length_append, List.length_cons]; omega
    · intro q hq
      rw [dlst, List.map_cons] at hq
      rcases List.mem_cons.1 hq with rfl | hq
      · exact may_of (by omega) (by omega) (by omega)
      · exact h2 q hq
theorem dlst_len : ∀ (l : List Nat) (i : Nat), (dlst i l).length = l.length
  | [], _ => rfl
  | n :: l, i => by rw [dlst, List.length_cons, List.length_cons, dlst_len l]
def rootN (S : RS) : Nat := 22 * S.done.length + (53 * S.stack.length + 42 * nlay S.stack + (53 * S.wants.length + 42 * nlay S.wants + 23))
theorem allB_root (h : RGood S) : (allB ((rootL S).map ofKV)).length ≤ rootN S ∧ ∀ q ∈ (rootL S).map ofKV, q.may = true := by
  obtain ⟨d1, d2⟩ := allB_dlst S.done 0
  obtain ⟨s1, s2⟩ := allB_lst 112 S.stack 0 (fun p hp => ⟨h.sdig p hp, (h.stk.each p hp).2.2⟩)
  obtain ⟨q1, q2⟩ := allB_lst 113 S.wants 0 (fun p hp => ⟨h.wdig p hp, (h.wnt.each p hp).2.2⟩)
  have ht : (allB ((tlst S).map ofKV)).length ≤ 23 ∧ ∀ q ∈ (tlst S).map ofKV, q.may = true := by
    unfold tlst
    split
    · exact ⟨by simp [allB], fun q hq => by cases hq⟩
    · have hv : (tval S).length = 9 := by unfold tval; rw [List.length_append, eight_length]; rfl
      have h3 := bytes_of (k := [116]) (v := tval S) (by simp) (by omega)
      refine ⟨?_, fun q hq => ?_⟩
      · have e : allB (([([116], tval S)] : List KV).map ofKV) = (ofKV ([116], tval S)).bytes := by simp [allB]
        rw [e]; omega
      · rw [List.map_cons, List.map_nil, List.mem_singleton] at hq
        subst hq
        exact may_of (by simp) (by simp) (by omega)
  unfold rootL
  rw [List.map_append, List.map_append, List.map_append]
  constructor
  · rw [allB_append, allB_append, allB_append]
    simp only [List.length_append]
    unfold rootN
    have := ht.1
    omega
  · intro q hq
    rcases List.mem_append.1 hq with hq | hq
    · exact d2 q hq
    · rcases List.mem_append.1 hq with hq | hq
      · exact s2 q hq
      · rcases List.mem_append.1 hq with hq | hq
        · exact q2 q hq
        · exact ht.2 q hq
theorem root_len (h : RGood S) : (rootL S).length ≤ S.done.length + 33 := by
  have h1 := h.stk.few
  have h2 := h.wnt.few
  have h3 : (tlst S).length ≤ 1 := by unfold tlst; split <;> simp
  unfold rootL
  rw [List.length_append, List.length_append, List.length_append, dlst_len, lst_len, lst_len]
  omega

theorem snap_root (h : sortF m = rootL S) (hg : RGood S) (h31 : S.done.length ≤ 31) {B : Nat} (hB : rootN S ≤ B) (h4 : B ≤ 4095) : sizeB (snapF m) ≤ 9 + B := by
  obtain ⟨ha, hm⟩ := allB_root hg
  have hl : ((rootL S).map ofKV).length ≤ 64 := by rw [List.length_map]; have := root_len hg; omega
  have hsn : snapL ((sortF m).map ofKV) = ⟨[], (rootL S).map ofKV, 0 + (allB ((rootL S).map ofKV)).length⟩ := by
    rw [h]
    unfold snapL
    rw [snapL_small _ _ (by simp only [List.length_nil]; omega) (by simp only; omega)]
    rfl
  unfold snapF
  rw [hsn]
  unfold Sn.close
  simp only
  by_cases h0 : (rootL S).map ofKV = []
  · rw [if_pos h0]
    simp [sizeB]
  · rw [if_neg h0]
    have hf : Fits ((rootL S).map ofKV) := ⟨h0, hm, by omega, by omega⟩
    have e1 : (encF ((rootL S).map ofKV)).1.length = 1 + (allB ((rootL S).map ofKV)).length := by rw [hf.enc.1]; exact hf.enc.2
    have e2 : sizeB ([] ++ [(encF ((rootL S).map ofKV)).1]) = (encF ((rootL S).map ofKV)).1.length + 8 := by simp [sizeB]
    rw [e2, e1]
    omega

theorem sort_sort {m : List KV} (hn : NoDup m) : sortF (sortF m) = sortF m := by
  have h1 := sortF_asc hn
  exact asc_unique (sortF_asc h1.nodup) h1 (sortF_perm (sortF m))

theorem no_full {ps : List PV} {z : Int} (hf : Fits ps) (h : sortF (applyF (sortF m) ps) = rootL S) (hg : RGood S) (h31 : S.done.length ≤ 31) (hX : rootN S + 9 ≤ 64 * areaN X.B.length) (h4 : rootN S ≤ 4095) : ¬ DoWhy X m ps z := by
  have he : (encF ps).2 = 0 := by rw [hf.enc.1]
  rintro (⟨-, h1⟩ | ⟨-, -, h1⟩)
  · exact h1 he
  · have := snap_root h hg h31 (Nat.le_refl _) h4
    omega

end Go.Proofs.YtbjagmlbamjdbaaGreat.roots
end

section
namespace Go.Proofs.YtbjagmlbamjdbaaGreat.roots
open Go.RowKit Go.Maps Go.My Go.ChangeMaps disks bufs wals kvs
set_option maxRecDepth 100000

variable {W w w' : World} {P F Q : Nat → Prop} {r kb l q d s a : Nat} {X : DV} {m : List KV} {recs : List Txt} {S : RS} {sv wv dv : Value}

theorem abort_sum (L : List PV) (v u : Value) (n : Nat) (h : L.length = n) (hn : n ≤ 16) : 0 < sumL [(v, [delP [116]]), (u, L)] ∧ sumL [(v, [delP [116]]), (u, L)] ≤ 1000 := by
  simp [sumL, h]; omega

set_option maxHeartbeats 4000000 in
theorem abort_go (w : World) (h : RKS P W w r kb l q d X (lvW recs s a []) m F S sv wv dv) (hQ : ∀ g, P g ∨ g = q ∨ g = r ∨ F g ∨ dv.ownBlock = some g → Q g) (hlt : ∀ g, Q g → g < w.heap.size) (hnew : ∀ g, Q g → W.heap.size ≤ g) (hgood : RGood S) (hi : sortF m = rootL S)
    (hs : Stands X recs s a) (h60 : s ≤ 1152921504606846976) (hr : Rep recs m) (hf : X.fuse ≤ 9223372036854775807) (t : Int) (hz : abortE S t = none) :
    Calls Tryz.prog 21 #[.pointer (some ⟨r, 0, none⟩), .int .i64 t] w fun e w' => ∃ z : Int, e = .returned (.int .i64 z) ∧ ∃ X' V' m' S', RGo Q W w w' r d X' V' m' S' ∧ (z = 0 → S' = abortS S) ∧ (z ≠ 0 → S' = S) ∧ Out X recs s a m (applyF m (abortB S)) (DoWhy X m (abortB S)) z X' V' m' := by
  have hmf : ∀ (fn : Fn) (first cap : Array Value) (w : World), (Instr.makeFunc fn first cap).run Tryz.prog w = .ok (.func fn first cap) w := fun _ _ _ _ => rfl
  obtain ⟨ha0, n, rfl, n1, n2, hnd, hst⟩ := abort_told hz
  have hd0 : decide (∃ k ∈ S.done, (k : Int) = (n : Int)) = false := by
    rw [decide_eq_false_iff_not]; rintro ⟨k, hk, e⟩; exact hnd (by have e2 : k = n := by omega
                                                                   exact e2 ▸ hk)
  have HA := Lib.hid (asked_is w h.rt n)
  rw [ha0] at HA
  have hrt := h.rt
  obtain ⟨od, cd, hdv, -⟩ := rows_nums hrt.done
  have HH := Lib.hid (has_is w (SlAt.of_own hrt.done : NumsAt w _ S.done) (by have := hrt.few.2.2; omega) n)
  rw [hd0] at HH
  rw [hdv] at HH
  obtain ⟨ow, cw, lw, hwv, -⟩ := hrt.wants.is
  have c0 : w.cell? ⟨r, 0, none⟩ = some (.pointer (some ⟨kb, 0, none⟩)) := cell_of_block hrt.head rfl
  have c2 : w.cell? ⟨r, 2, none⟩ = some (.int .i64 (n : Int)) := by rw [← hst]; exact cell_of_block hrt.head rfl
  have c3 : w.cell? ⟨r, 3, none⟩ = some (.slice ow S.wants.length cw) := by rw [← hwv]; exact cell_of_block hrt.head rfl
  have c4 : w.cell? ⟨r, 4, none⟩ = some (.slice od S.done.length cd) := by rw [← hdv]; exact cell_of_block hrt.head rfl
  have HRt := Lib.hid h
  have HSt := Lib.hid hs
  have H60 := Lib.hid h60
  have HRep := Lib.hid hr
  have HFu := Lib.hid hf
  have HFew := Lib.hid hgood.wnt.few
  have HGood := Lib.hid hgood
  have HI := Lib.hid hi
  have HQ := Lib.hid (And.intro hQ (And.intro hlt hnew))
  have hgo : ∀ W : World, Calls Tryz.prog 54 #[.string ⟨#[113]⟩, .int .i64 0, .int .i64 (S.wants.length : Int)] W fun e w' => ∃ v, e = .returned v ∧ Puts w' W.heap.size v ((lkeys 113 0 (S.wants.length - 0)).map delP) ∧ Chg (fun _ => False) W w' := fun W => gone_is W 113 0 S.wants.length (by omega) (by have := hgood.wnt.few; omega)
  have HGo := Lib.hid hgo
  have HWv := Lib.hid hwv
  clear h hs h60 hr hf hgood hi hQ hlt hnew hrt hdv hwv hnd hz ha0 hd0 n1 n2 hgo
  have hnn : ((n : Int) != (n : Int)) = false := by simp
  go_enter Tryz.func21, Tryz.ntmps21
  go_wp2_with (first
    | (go_at_call 49; refine HA.out.mono ?_; rintro e w' ⟨rfl, rfl⟩)
    | (go_at_call 50; refine HH.out.mono ?_; rintro e w' ⟨rfl, rfl⟩))
  have HD := Lib.hid (show Chg (fun _ => False) w w.drew from (Chg.refl _ _).drew)
  refine wp_region_noPanic ?_
  refine wp_region_held_drew (S := (fun w' => w'.cell? ⟨r, 0, none⟩ = some (.pointer (some ⟨kb, 0, none⟩)) ∧ w'.cell? ⟨r, 3, none⟩ = some (.slice ow S.wants.length cw))) (by kernel_rfl) (⟨c0, c3⟩) (fun hHeld => ?_)
  refine tk 0 (v := ?_) hHeld rfl (fun w hSw => ?_) ?_
  rotate_left
  · (obtain ⟨hSw1, hSw2⟩ := hSw; go_simp)
    try with_reducible rfl
  simp only [Act.put, zA, zB, zC]
  refine tk 1 (v := ?_) hHeld rfl (fun w hSw => ?_) ?_
  rotate_left
  · (obtain ⟨hSw1, hSw2⟩ := hSw; go_simp)
    try with_reducible rfl
  simp only [Act.put, zA, zB, zC]
  refine tk 2 (v := ?_) hHeld rfl (fun w hSw => ?_) ?_
  rotate_left
  · (obtain ⟨hSw1, hSw2⟩ := hSw; go_simp)
    try with_reducible rfl
  simp only [Act.put, zA, zB, zC]
  refine tk 3 (v := ?_) hHeld rfl (fun w hSw => ?_) ?_
  rotate_left
  · (obtain ⟨hSw1, hSw2⟩ := hSw; go_simp)
    try with_reducible rfl
  simp only [Act.put, zA, zB, zC]
  refine tk 4 (v := ?_) hHeld rfl (fun w hSw => ?_) ?_
  rotate_left
  · (obtain ⟨hSw1, hSw2⟩ := hSw; go_simp)
    try with_reducible rfl
  simp only [Act.put, zA, zB, zC]
  refine tk 6 (v := ?_) hHeld rfl (fun w hSw => ?_) ?_
  rotate_left
  · (obtain ⟨hSw1, hSw2⟩ := hSw; go_simp)
    try with_reducible rfl
  simp only [Act.put, zA, zB, zC]
  refine tk 7 (v := ?_) hHeld rfl (fun w hSw => ?_) ?_
  rotate_left
  · (obtain ⟨hSw1, hSw2⟩ := hSw; go_simp)
    try with_reducible rfl
  simp only [Act.put, zA, zB, zC]
  refine tk 8 (v := ?_) hHeld rfl (fun w hSw => ?_) ?_
  rotate_left
  · (obtain ⟨hSw1, hSw2⟩ := hSw; go_simp)
    try with_reducible rfl
  simp only [Act.put, zA, zB, zC]
  refine tk 9 (v := ?_) hHeld rfl (fun w hSw => ?_) ?_
  rotate_left
  · (obtain ⟨hSw1, hSw2⟩ := hSw; go_simp)
    try with_reducible rfl
  simp only [Act.put, zA, zB, zC]
  refine tk 10 (v := ?_) hHeld rfl (fun w hSw => ?_) ?_
  rotate_left
  · (obtain ⟨hSw1, hSw2⟩ := hSw; go_simp)
    try with_reducible rfl
  simp only [Act.put, zA, zB, zC]
  refine wpAnyH_ready (rs := [5, 11]) (by kernel_rfl) (by simp) (one_list (i := 5) rfl (by rfl) (fun K hK => ?_) (one_list (i := 11) rfl (by rfl) (fun K hK => ?_) AllReadyH.nil))
  · go_simp
    obtain ⟨wa, hwa⟩ : ∃ wa, (w.alloc (.cells #[.string ⟨#[116]⟩, .string ⟨#[]⟩, .bool true] 103)).drew = wa := ⟨_, rfl⟩
    have hca : Chg (fun _ => False) w wa := by rw [← hwa]; exact ((Chg.refl _ _).alloc _).drew
    have hla : wa.heap[w.heap.size]? = some (.cells #[.string ⟨#[116]⟩, .string ⟨#[]⟩, .bool true] 103 (0, 0)) := by rw [← hwa]; exact block_alloc_new w _
    have HCa := Lib.hid hca
    have HLa := Lib.hid hla
    try rw [hwa]
    clear hwa hca hla
    refine hK _ _ (⟨HCa.out.cell c0 id, HCa.out.cell c3 id⟩) (fun hA1 => ?_)
    try simp only [Act.put, zA, zB, zC]
    refine on1 11 rfl (fun K hK => ?_)
    go_simp
    refine (HGo.out wa).mono ?_
    rintro e w2 ⟨v2, rfl, hp2, hc2⟩
    obtain ⟨og, ng, cg, hvg⟩ : ∃ og ng cg, v2 = .slice og ng cg := by obtain ⟨o, c, e, -⟩ := hp2.slice; exact ⟨o, _, c, e⟩
    subst hvg
    have hl2 := hc2.at HLa.out id
    have hcz := HCa.out.trans' hc2
    clear hc2
    obtain ⟨wz, hwz⟩ : ∃ wz, w2 = wz := ⟨_, rfl⟩
    rw [hwz] at hl2 hp2 hcz
    have HLit := Lib.hid hl2
    have HPut := Lib.hid hp2
    have HCz := Lib.hid hcz
    try rw [hwz]
    clear hwz
    refine hK _ _ (⟨HCz.out.cell c0 id, HCz.out.cell c3 id⟩) (fun hA2 => ?_)
    try simp only [Act.put, zA, zB, zC]
    refine on1 12 rfl (fun K hK => ?_)
    go_simp
    obtain ⟨wy, hwy⟩ : ∃ wy, wz.alloc (.cells #[.slice (some ⟨w.heap.size, 0, none⟩) 1 1, .slice og ng cg] 66) = wy := ⟨_, rfl⟩
    have hcy : Chg (fun _ => False) wz wy := by rw [← hwy]; exact (Chg.refl _ _).alloc _
    have hyb : wy.heap[wz.heap.size]? = some (.cells (([(.slice (some ⟨w.heap.size, 0, none⟩) 1 1, [delP [116]]), (.slice og ng cg, (lkeys 113 0 (S.wants.length - 0)).map delP)] : List (Value × List PV)).map (fun x => x.1)).toArray 66 (0, 0)) := by rw [← hwy]; exact block_alloc_new _ _
    have hlit2 : Puts wy w.heap.size (.slice (some ⟨w.heap.size, 0, none⟩) 1 1) [delP [116]] := puts_block (ps := [delP [116]]) (hcy.at HLit.out id) rfl (by decide)
    have hput2 := HPut.out.kept hcy (fun _ _ h => h)
    try rw [hwy]
    clear hwy
    have hsum := abort_sum ((lkeys 113 0 (S.wants.length - 0)).map delP) (.slice (some ⟨w.heap.size, 0, none⟩) 1 1) (.slice og ng cg) S.wants.length (by rw [List.length_map, lkeys_len]; omega) HFew.out
    have HJ := Lib.hid (join_is wy _ hyb (by
      intro x hx
      simp only [List.mem_cons, List.not_mem_nil, or_false] at hx
      rcases hx with rfl | rfl
      · exact ⟨_, hlit2⟩
      · exact ⟨_, hput2⟩) hsum.1 hsum.2 (by simp))
    have HCy := Lib.hid (HCz.out.trans' hcy)
    clear hyb hlit2 hput2 hsum hcy
    refine hK _ _ (⟨HCy.out.cell c0 id, HCy.out.cell c3 id⟩) (fun hA2b => ?_)
    try simp only [Act.put, zA, zB, zC]
    refine on1 13 rfl (fun K hK => ?_)
    go_simp
    refine HJ.out.mono ?_
    rintro e w3 ⟨v3, rfl, hp3, hc3⟩
    have HC3 := Lib.hid (HCy.out.trans' hc3)
    have hp3 : Puts w3 wy.heap.size v3 (abortB S) := by
      have e : abortB S = (([(Value.slice (some ⟨w.heap.size, 0, none⟩) 1 1, [delP [116]]), (Value.slice og ng cg, (lkeys 113 0 (S.wants.length - 0)).map delP)] : List (Value × List PV)).map (fun x => x.2)).flatten := by
        simp [abortB]
      rw [e]; exact hp3
    have HP3 := Lib.hid hp3
    have HLo := Lib.hid (show w.heap.size ≤ wy.heap.size from HCy.out.size)
    clear hc3 hp3
    refine hK _ _ (⟨HC3.out.cell c0 id, HC3.out.cell c3 id⟩) (fun hA2c => ?_)
    try simp only [Act.put, zA, zB, zC]
    refine on1 14 rfl (fun K hK => ?_)
    go_simp
    have hr3 := HRt.out.fresh HC3.out
    have hd3 := ks_do w3 hr3.ks HSt.out H60.out HRep.out HFu.out HP3.out (by have := (abort_fits (S := S) HFew.out).few; omega) (fun g hg => HRt.out.ks.made (Nat.le_trans HLo.out (HP3.out.lt hg).1) (HP3.out.lt hg).2)
    refine hd3.mono ?_
    rintro e w4 ⟨z, rfl, X4, V4, m4, P4, hn4, ho4⟩
    have HN4 := Lib.hid hn4
    have HO4 := Lib.hid ho4
    have HR4 := Lib.hid (hr3.next hn4)
    clear hr3 hd3 hn4 ho4
    have q3 : w4.cell? ⟨r, 3, none⟩ = some (.slice ow S.wants.length cw) := by
      have := (cell_of_block HR4.out.rt.head (i := 3) rfl : w4.cell? ⟨r, 3, none⟩ = some wv)
      rw [HWv.out] at this
      exact this
    refine hK _ _ (⟨cell_of_block HR4.out.rt.head rfl, q3⟩) (fun hA2d => ?_)
    try simp only [Act.put, zA, zB, zC]
    refine tk 15 (v := ?_) hA2d rfl (fun w hSw => ?_) ?_
    rotate_left
    · go_simp
      try with_reducible rfl
    simp only [Act.put, zA, zB, zC]
    refine wpAnyH_done (by kernel_rfl) ?_ _
    refine NoPanic.normal ?_
    have b1 := block_setCell (i := 3) (v := .slice none 0 0) HR4.out.rt.head
    have b2 := block_setCell (i := 2) (v := .int .i64 0) b1
    have q2 : w4.cell? ⟨r, 2, none⟩ = some (.int .i64 (S.staged : Int)) := cell_of_block HR4.out.rt.head rfl
    have f3 : w4.frozen? ⟨r, 3, none⟩ = false := free_of_block HR4.out.rt.head
    have f2 : (w4.setCell ⟨r, 3, none⟩ (.slice none 0 0)).frozen? ⟨r, 2, none⟩ = false := free_of_block b1
    by_cases hz0 : z = 0
    · subst hz0
      go_wp2_with fail
      go_ret
      obtain ⟨w5, hw5⟩ : ∃ w5, (w4.setCell ⟨r, 3, none⟩ (.slice none 0 0)).setCell ⟨r, 2, none⟩ (.int .i64 0) = w5 := ⟨_, rfl⟩
      have hcr : Chg (· = r) w4 w5 := by rw [← hw5]; exact Chg.setCell (S := (· = r)) (Chg.setCell (S := (· = r)) (Chg.refl _ _) (fun _ => rfl) _) (fun _ => rfl) _
      have hc5 : Chg (fun k => k = r ∨ some k = dv.ownBlock) w4 w5 := hcr.mono (fun _ _ e => Or.inl e)
      rw [hw5] at b2 ⊢
      have hne := own_ne HR4.out.rt.done HR4.out.rt.head (by decide)
      have hnF : ∀ k, F k → ¬ k = r := fun k hk e => HR4.out.fr (e ▸ hk)
      have hrt5 : RtIs w5 W.heap.size r kb F (abortS S) sv (.slice none 0 0) dv := ⟨by simpa [abortS] using b2, HR4.out.rt.stack.kept hcr hnF, PksAt.nil _ _, own_keptS HR4.out.rt.done hcr hne, ⟨HR4.out.rt.few.1, by simp [abortS], HR4.out.rt.few.2.2⟩, ⟨HR4.out.rt.lays.1, by simp [abortS]⟩⟩
      have hk5 := HR4.out.set hc5 hrt5 (fun k hk => Beside.more (HR4.out.bf k hk) hc5.size) (fun g hg => Beside.more (HR4.out.bd g hg) hc5.size) HR4.out.nf HR4.out.fr HR4.out.fd
      have hm4 : m4 = applyF m (abortB S) := by
        have h := HO4.out
        generalize hzz : (0 : Int) = zz at h
        cases h with
        | done => rfl
        | refused h1 h2 => omega
        | cut => cases hzz
      refine ⟨0, rfl, X4, V4, m4, abortS S, ?_, fun _ => rfl, fun e => absurd rfl e, HO4.out⟩
      refine RGo.of HRt.out.ks.chg HC3.out HN4.out hc5 hk5 HQ.out.1 HQ.out.2.1 HQ.out.2.2 (fun g hg => Or.inl hg) (fun g hg => Or.inl hg) HGood.out.abort ?_
      rw [hm4]
      exact abort_is HRt.out.ks.at'.db.map.nodup HI.out (by have := HRt.out.rt.few.1; omega) HRt.out.rt.few.2.2
    · have hzb : (z != 0) = true := by simpa using hz0
      go_wp2_with fail
      go_ret
      have hm4 : m4 = m := by
        have h := HO4.out
        cases h with
        | done => exact absurd rfl hz0
        | refused h1 h2 => rfl
        | cut => rfl
      refine ⟨z, rfl, X4, V4, m4, S, ?_, fun e => absurd e hz0, fun _ => rfl, HO4.out⟩
      have hlt3 := HC3.out.size
      have hg4 := (HRt.out.fresh HC3.out).go HN4.out HQ.out.1 (fun g hg => Nat.lt_of_lt_of_le (HQ.out.2.1 g hg) hlt3) HQ.out.2.2 HGood.out (by rw [hm4]; exact HI.out)
      exact hg4.from HC3.out HRt.out.ks.chg.size
  · go_simp
    refine (HGo.out w.drew).mono ?_
    rintro e w2 ⟨v2, rfl, hp2, hc2⟩
    obtain ⟨og, ng, cg, hvg⟩ : ∃ og ng cg, v2 = .slice og ng cg := by obtain ⟨o, c, e, -⟩ := hp2.slice; exact ⟨o, _, c, e⟩
    subst hvg
    have HC2 := Lib.hid (HD.out.trans' hc2)
    have HP2 := Lib.hid hp2
    clear hc2 hp2
    refine hK _ _ (⟨HC2.out.cell c0 id, HC2.out.cell c3 id⟩) (fun hA1 => ?_)
    try simp only [Act.put, zA, zB, zC]
    refine on1 5 rfl (fun K hK => ?_)
    go_simp
    have hca : Chg (fun _ => False) w2 (w2.alloc (.cells #[.string ⟨#[116]⟩, .string ⟨#[]⟩, .bool true] 103)) := (Chg.refl _ _).alloc _
    have hla := block_alloc_new w2 (.cells #[.string ⟨#[116]⟩, .string ⟨#[]⟩, .bool true] 103)
    have hcz := HC2.out.trans' hca
    have hpz := HP2.out.kept hca (fun _ _ h => h)
    clear hca
    obtain ⟨wz, hwz⟩ : ∃ wz, w2.alloc (.cells #[.string ⟨#[116]⟩, .string ⟨#[]⟩, .bool true] 103) = wz := ⟨_, rfl⟩
    rw [hwz] at hla hpz hcz
    have HLit := Lib.hid hla
    have HPut := Lib.hid hpz
    have HCz := Lib.hid hcz
    try rw [hwz]
    clear hwz
    refine hK _ _ (⟨HCz.out.cell c0 id, HCz.out.cell c3 id⟩) (fun hA2 => ?_)
    try simp only [Act.put, zA, zB, zC]
    refine on1 12 rfl (fun K hK => ?_)
    go_simp
    obtain ⟨wy, hwy⟩ : ∃ wy, wz.alloc (.cells #[.slice (some ⟨w2.heap.size, 0, none⟩) 1 1, .slice og ng cg] 66) = wy := ⟨_, rfl⟩
    have hcy : Chg (fun _ => False) wz wy := by rw [← hwy]; exact (Chg.refl _ _).alloc _
    have hyb : wy.heap[wz.heap.size]? = some (.cells (([(.slice (some ⟨w2.heap.size, 0, none⟩) 1 1, [delP [116]]), (.slice og ng cg, (lkeys 113 0 (S.wants.length - 0)).map delP)] : List (Value × List PV)).map (fun x => x.1)).toArray 66 (0, 0)) := by rw [← hwy]; exact block_alloc_new _ _
    have hlit2 : Puts wy w2.heap.size (.slice (some ⟨w2.heap.size, 0, none⟩) 1 1) [delP [116]] := puts_block (ps := [delP [116]]) (hcy.at HLit.out id) rfl (by decide)
    have hput2 := HPut.out.kept hcy (fun _ _ h => h)
    try rw [hwy]
    clear hwy
    have hsum := abort_sum ((lkeys 113 0 (S.wants.length - 0)).map delP) (.slice (some ⟨w2.heap.size, 0, none⟩) 1 1) (.slice og ng cg) S.wants.length (by rw [List.length_map, lkeys_len]; omega) HFew.out
    have HJ := Lib.hid (join_is wy _ hyb (by
      intro x hx
      simp only [List.mem_cons, List.not_mem_nil, or_false] at hx
      rcases hx with rfl | rfl
      · exact ⟨_, hlit2⟩
      · exact ⟨_, hput2⟩) hsum.1 hsum.2 (by simp))
    have HCy := Lib.hid (HCz.out.trans' hcy)
    clear hyb hlit2 hput2 hsum hcy
    refine hK _ _ (⟨HCy.out.cell c0 id, HCy.out.cell c3 id⟩) (fun hA2b => ?_)
    try simp only [Act.put, zA, zB, zC]
    refine on1 13 rfl (fun K hK => ?_)
    go_simp
    refine HJ.out.mono ?_
    rintro e w3 ⟨v3, rfl, hp3, hc3⟩
    have HC3 := Lib.hid (HCy.out.trans' hc3)
    have hp3 : Puts w3 wy.heap.size v3 (abortB S) := by
      have e : abortB S = (([(Value.slice (some ⟨w2.heap.size, 0, none⟩) 1 1, [delP [116]]), (Value.slice og ng cg, (lkeys 113 0 (S.wants.length - 0)).map delP)] : List (Value × List PV)).map (fun x => x.2)).flatten := by
        simp [abortB]
      rw [e]; exact hp3
    have HP3 := Lib.hid hp3
    have HLo := Lib.hid (show w.heap.size ≤ wy.heap.size from HCy.out.size)
    clear hc3 hp3
    refine hK _ _ (⟨HC3.out.cell c0 id, HC3.out.cell c3 id⟩) (fun hA2c => ?_)
    try simp only [Act.put, zA, zB, zC]
    refine on1 14 rfl (fun K hK => ?_)
    go_simp
    have hr3 := HRt.out.fresh HC3.out
    have hd3 := ks_do w3 hr3.ks HSt.out H60.out HRep.out HFu.out HP3.out (by have := (abort_fits (S := S) HFew.out).few; omega) (fun g hg => HRt.out.ks.made (Nat.le_trans HLo.out (HP3.out.lt hg).1) (HP3.out.lt hg).2)
    refine hd3.mono ?_
    rintro e w4 ⟨z, rfl, X4, V4, m4, P4, hn4, ho4⟩
    have HN4 := Lib.hid hn4
    have HO4 := Lib.hid ho4
    have HR4 := Lib.hid (hr3.next hn4)
    clear hr3 hd3 hn4 ho4
    have q3 : w4.cell? ⟨r, 3, none⟩ = some (.slice ow S.wants.length cw) := by
      have := (cell_of_block HR4.out.rt.head (i := 3) rfl : w4.cell? ⟨r, 3, none⟩ = some wv)
      rw [HWv.out] at this
      exact this
    refine hK _ _ (⟨cell_of_block HR4.out.rt.head rfl, q3⟩) (fun hA2d => ?_)
    try simp only [Act.put, zA, zB, zC]
    refine tk 15 (v := ?_) hA2d rfl (fun w hSw => ?_) ?_
    rotate_left
    · go_simp
      try with_reducible rfl
    simp only [Act.put, zA, zB, zC]
    refine wpAnyH_done (by kernel_rfl) ?_ _
    refine NoPanic.normal ?_
    have b1 := block_setCell (i := 3) (v := .slice none 0 0) HR4.out.rt.head
    have b2 := block_setCell (i := 2) (v := .int .i64 0) b1
    have q2 : w4.cell? ⟨r, 2, none⟩ = some (.int .i64 (S.staged : Int)) := cell_of_block HR4.out.rt.head rfl
    have f3 : w4.frozen? ⟨r, 3, none⟩ = false := free_of_block HR4.out.rt.head
    have f2 : (w4.setCell ⟨r, 3, none⟩ (.slice none 0 0)).frozen? ⟨r, 2, none⟩ = false := free_of_block b1
    by_cases hz0 : z = 0
    · subst hz0
      go_wp2_with fail
      go_ret
      obtain ⟨w5, hw5⟩ : ∃ w5, (w4.setCell ⟨r, 3, none⟩ (.slice none 0 0)).setCell ⟨r, 2, none⟩ (.int .i64 0) = w5 := ⟨_, rfl⟩
      have hcr : Chg (· = r) w4 w5 := by rw [← hw5]; exact Chg.setCell (S := (· = r)) (Chg.setCell (S := (· = r)) (Chg.refl _ _) (fun _ => rfl) _) (fun _ => rfl) _
      have hc5 : Chg (fun k => k = r ∨ some k = dv.ownBlock) w4 w5 := hcr.mono (fun _ _ e => Or.inl e)
      rw [hw5] at b2 ⊢
      have hne := own_ne HR4.out.rt.done HR4.out.rt.head (by decide)
      have hnF : ∀ k, F k → ¬ k = r := fun k hk e => HR4.out.fr (e ▸ hk)
      have hrt5 : RtIs w5 W.heap.size r kb F (abortS S) sv (.slice none 0 0) dv := ⟨by simpa [abortS] using b2, HR4.out.rt.stack.kept hcr hnF, PksAt.nil _ _, own_keptS HR4.out.rt.done hcr hne, ⟨HR4.out.rt.few.1, by simp [abortS], HR4.out.rt.few.2.2⟩, ⟨HR4.out.rt.lays.1, by simp [abortS]⟩⟩
      have hk5 := HR4.out.set hc5 hrt5 (fun k hk => Beside.more (HR4.out.bf k hk) hc5.size) (fun g hg => Beside.more (HR4.out.bd g hg) hc5.size) HR4.out.nf HR4.out.fr HR4.out.fd
      have hm4 : m4 = applyF m (abortB S) := by
        have h := HO4.out
        generalize hzz : (0 : Int) = zz at h
        cases h with
        | done => rfl
        | refused h1 h2 => omega
        | cut => cases hzz
      refine ⟨0, rfl, X4, V4, m4, abortS S, ?_, fun _ => rfl, fun e => absurd rfl e, HO4.out⟩
      refine RGo.of HRt.out.ks.chg HC3.out HN4.out hc5 hk5 HQ.out.1 HQ.out.2.1 HQ.out.2.2 (fun g hg => Or.inl hg) (fun g hg => Or.inl hg) HGood.out.abort ?_
      rw [hm4]
      exact abort_is HRt.out.ks.at'.db.map.nodup HI.out (by have := HRt.out.rt.few.1; omega) HRt.out.rt.few.2.2
    · have hzb : (z != 0) = true := by simpa using hz0
      go_wp2_with fail
      go_ret
      have hm4 : m4 = m := by
        have h := HO4.out
        cases h with
        | done => exact absurd rfl hz0
        | refused h1 h2 => rfl
        | cut => rfl
      refine ⟨z, rfl, X4, V4, m4, S, ?_, fun e => absurd e hz0, fun _ => rfl, HO4.out⟩
      have hlt3 := HC3.out.size
      have hg4 := (HRt.out.fresh HC3.out).go HN4.out HQ.out.1 (fun g hg => Nat.lt_of_lt_of_le (HQ.out.2.1 g hg) hlt3) HQ.out.2.2 HGood.out (by rw [hm4]; exact HI.out)
      exact hg4.from HC3.out HRt.out.ks.chg.size

end Go.Proofs.YtbjagmlbamjdbaaGreat.roots
end
