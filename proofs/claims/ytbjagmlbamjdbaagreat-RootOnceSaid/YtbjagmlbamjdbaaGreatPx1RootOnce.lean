/- . -/
import Derived.Test.YtbjagmlbamjdbaaGreatPx0RootOnce
import Derived.Maps.OwnSet
import Derived.ProofKit
import Derived.OpenShut
import Derived.Deep.Slices
import Derived.Laws.OwnMore
import Derived.Deep.WholeRow
import Derived.Deep.MidRow
import Derived.Test.YtbjagmlbamjdbaaGreatProg
import Derived.WalkLawsBesides
import Derived.BigQuiet
import Derived.Lib.LazyBuf
import Derived.Deep.QuietTactic
import Derived.Lib.Hide
import Derived.Deep.RegionHeld3
import Derived.Maps.AppendAt

set_option linter.unusedSimpArgs false
set_option linter.unusedVariables false
section
namespace Go.My
open Go.RowKit Go.Maps Go.MapKept Go.ChangeMaps

structure KeyEnc (P : Program) (kt : TypeId) (K : Type) where
  enc : K → Value
  ok : K → Prop
  keyed : Keyed P kt
  reads : ∀ k, ok k → ∃ l, keyOf P kt (enc k) = some l
  inj : ∀ k k', enc k = enc k' → k = k'

section
variable {P : Program} {kt : TypeId} {K V : Type}

def pairOf (e : MapEntry) : Value × Value := (e.key, e.val)

def MapIs (E : KeyEnc P kt K) (ev : V → Value) (w : World) (b : Nat) (m : List (K × V)) : Prop :=
  ∃ es clock, w.heap[b]? = some (.map es clock) ∧ es.toList.map pairOf = m.map (fun p => (E.enc p.1, ev p.2)) ∧ (∀ p ∈ m, E.ok p.1) ∧ Stamped es clock

variable {E : KeyEnc P kt K} {ev : V → Value} {w : World} {b : Nat} {m : List (K × V)}

theorem MapIs.lt (h : MapIs E ev w b m) : b < w.heap.size := by
  obtain ⟨es, clock, hb, _⟩ := h; exact lt_of_block hb

theorem MapIs.kept (h : MapIs E ev w b m) {S : Nat → Prop} {w' : World} (hc : Chg S w w') (hn : ¬ S b) : MapIs E ev w' b m := by
  obtain ⟨es, clock, hb, r⟩ := h; exact ⟨es, clock, hc.at hb hn, r⟩

theorem MapIs.of_eq (h : MapIs E ev w b m) {w' : World} (hc : w'.heap[b]? = w.heap[b]?) : MapIs E ev w' b m := by
  obtain ⟨es, clock, hb, r⟩ := h; exact ⟨es, clock, hc.trans hb, r⟩

theorem MapIs.made {w : World} {b clock : Nat} (E : KeyEnc P kt K) (ev : V → Value) (hb : w.heap[b]? = some (.map #[] clock)) : MapIs E ev w b [] :=
  ⟨#[], clock, hb, by simp, by simp, stamped_empty clock⟩

theorem nodup_keys {es : List MapEntry} {m : List (K × V)} (hp : es.map pairOf = m.map (fun p => (E.enc p.1, ev p.2))) (hn : (es.map (·.key)).Nodup) : (m.map (·.1)).Nodup := by
  have h1 : es.map (·.key) = (m.map (·.1)).map E.enc := by
    have := congrArg (List.map Prod.fst) hp
    simpa [pairOf, Function.comp_def] using this
  rw [h1] at hn
  exact List.Pairwise.of_map _ (fun a b h e => h (by rw [e])) hn

theorem MapIs.nodup (h : MapIs E ev w b m) : (m.map (·.1)).Nodup := by
  obtain ⟨es, clock, hb, hp, _, _, _, hk⟩ := h; exact nodup_keys hp hk

theorem pair_at {es : List MapEntry} {m : List (K × V)} (hp : es.map pairOf = m.map (fun p => (E.enc p.1, ev p.2))) {j : Nat} {e : MapEntry} (hj : es[j]? = some e) :
    ∃ p, m[j]? = some p ∧ e.key = E.enc p.1 ∧ e.val = ev p.2 := by
  have h1 : (es.map pairOf)[j]? = some (e.key, e.val) := by simp [hj, pairOf]
  rw [hp] at h1
  simp only [List.getElem?_map, Option.map_eq_some_iff, Prod.mk.injEq] at h1
  obtain ⟨p, h2, h3, h4⟩ := h1
  exact ⟨p, h2, h3.symm, h4.symm⟩

variable [DecidableEq K]

theorem mget_none_of (m : List (K × V)) (k : K) (h : ∀ p ∈ m, p.1 ≠ k) : mget m k = none := by
  induction m with
  | nil => rfl
  | cons p m ih => rw [mget_cons, if_neg (h p (by simp)), ih (fun q hq => h q (by simp [hq]))]

theorem mget_some_of (m : List (K × V)) (hn : (m.map (·.1)).Nodup) {j : Nat} {p : K × V} (hj : m[j]? = some p) : mget m p.1 = some p.2 := by
  induction m generalizing j with
  | nil => simp at hj
  | cons q m ih =>
    rw [mget_cons]
    simp only [List.map_cons, List.nodup_cons] at hn
    cases j with
    | zero => simp at hj; subst hj; simp
    | succ j =>
      simp only [List.getElem?_cons_succ] at hj
      have : q.1 ≠ p.1 := fun e => hn.1 (e ▸ List.mem_map.2 ⟨p, List.mem_of_getElem? hj, rfl⟩)
      rw [if_neg this, ih hn.2 hj]

theorem MapIs.find {es : Array MapEntry} (w : World) (hp : es.toList.map pairOf = m.map (fun p => (E.enc p.1, ev p.2))) (hok : ∀ p ∈ m, E.ok p.1) (hn : (es.toList.map (·.key)).Nodup) (k : K) (hk : E.ok k) :
    ((Instr.findKey kt (E.enc k) es.toList).run P w = .ok none w ∧ mget m k = none ∧ (∀ e ∈ es.toList, e.key ≠ E.enc k)) ∨
    ∃ j e v, (Instr.findKey kt (E.enc k) es.toList).run P w = .ok (some (j, ev v)) w ∧ es.toList[j]? = some e ∧ e.key = E.enc k ∧ mget m k = some v ∧ m[j]? = some (k, v) := by
  obtain ⟨l, hl⟩ := E.reads k hk
  have hks : ∀ e ∈ es.toList, ∃ l, keyOf P kt e.key = some l := by
    intro e he
    obtain ⟨j, hj, rfl⟩ := List.getElem_of_mem he
    obtain ⟨p, h1, h2, _⟩ := pair_at hp (List.getElem?_eq_getElem hj)
    rw [h2]; exact E.reads _ (hok p (List.mem_of_getElem? h1))
  rcases E.keyed.find w hl es.toList hks with ⟨h1, h2⟩ | ⟨j, e, h1, h2, h3⟩
  · refine Or.inl ⟨h1, mget_none_of m k (fun p hpm he => ?_), h2⟩
    obtain ⟨j, hj, rfl⟩ := List.getElem_of_mem hpm
    have : (es.toList.map pairOf)[j]? = some (E.enc m[j].1, ev m[j].2) := by rw [hp]; simp [hj]
    simp only [List.getElem?_map, Option.map_eq_some_iff] at this
    obtain ⟨e, he1, he2⟩ := this
    exact h2 e (List.mem_of_getElem? he1) (by have := congrArg Prod.fst he2; simp only [pairOf] at this; rw [this, he])
  · obtain ⟨p, h4, h5, h6⟩ := pair_at hp h2
    have hkp : p.1 = k := E.inj _ _ (h5.symm.trans h3)
    refine Or.inr ⟨j, e, p.2, by rw [h1, h6], h2, h3, ?_, ?_⟩
    · rw [← hkp]; exact mget_some_of m (nodup_keys hp hn) h4
    · rw [h4, ← hkp]

def lookVal (z : Value) (ev : V → Value) (o : Option V) : Value := match o with | some v => ev v | none => z
def lookRes (c : Bool) (z : Value) (ev : V → Value) (o : Option V) : Value := if c then .tuple #[lookVal z ev o, .bool o.isSome] else lookVal z ev o

def encI (k : Int) : Value := .int .i64 k
variable {t e : TypeId}

theorem MapIs.look (h : MapIs E ev w b m) (ht : P.underlying t = some (.map kt e)) {z : Value} (hz : (zeroValue e).run P w = .ok z w) (c : Bool) (k : K) (hk : E.ok k) :
    (Instr.lookup t (.map (some b)) (E.enc k) c).run P w = .ok (lookRes c z ev (mget m k)) w := by
  obtain ⟨es, clock, hb, hp, hok, _, _, hn⟩ := h
  obtain ⟨l, hl⟩ := E.reads k hk
  rcases MapIs.find w hp hok hn k hk with ⟨h1, h2, _⟩ | ⟨j, e, v, h1, _, _, h4, _⟩
  · simp [Instr.lookup, run_underlying ht, MapKept.run_getObj_map hb, E.keyed.check w _ hl, h1, h2, hz, Result.andThen, lookRes, lookVal]
  · simp [Instr.lookup, run_underlying ht, MapKept.run_getObj_map hb, E.keyed.check w _ hl, h1, h4, Result.andThen, lookRes, lookVal]

theorem map_modify_pair {es : Array MapEntry} {m : List (K × V)} (hp : es.toList.map pairOf = m.map (fun p => (E.enc p.1, ev p.2))) (hn : (es.toList.map (·.key)).Nodup) {j : Nat} {k : K} {v0 : V} (hj : m[j]? = some (k, v0)) (f : MapEntry → MapEntry)
    (v : V) (hf : ∀ e, es[j]? = some e → (f e).key = E.enc k ∧ (f e).val = ev v) :
    (es.modify j f).toList.map pairOf = (m.map (fun p => if p.1 = k then (k, v) else p)).map (fun p => (E.enc p.1, ev p.2)) := by
  have hnd := nodup_keys hp hn
  apply List.ext_getElem?
  intro i
  simp only [List.getElem?_map, Array.getElem?_toList, Array.getElem?_modify]
  have hi : (es.toList.map pairOf)[i]? = (m.map (fun p => (E.enc p.1, ev p.2)))[i]? := by rw [hp]
  simp only [List.getElem?_map, Array.getElem?_toList] at hi
  by_cases hij : j = i
  · subst hij
    rw [if_pos rfl]
    rw [hj] at hi ⊢
    cases he : es[j]? with
    | none => simp [he] at hi
    | some e =>
      have h2 := hf e he
      simp [pairOf, h2.1, h2.2]
  · rw [if_neg hij, hi]
    cases hm : m[i]? with
    | none => rfl
    | some p =>
      have : p.1 ≠ k := by
        intro e1
        apply hij
        obtain ⟨hjl, hje⟩ := List.getElem?_eq_some_iff.1 hj
        obtain ⟨hil, hie⟩ := List.getElem?_eq_some_iff.1 hm
        have h1 : (m.map (·.1))[j]'(by simpa using hjl) = (m.map (·.1))[i]'(by simpa using hil) := by simp [hje, hie, e1]
        rcases Nat.lt_trichotomy j i with h | h | h
        · exact absurd h1 (List.pairwise_iff_getElem.1 hnd j i (by simpa using hjl) (by simpa using hil) h)
        · exact h
        · exact absurd h1.symm (List.pairwise_iff_getElem.1 hnd i j (by simpa using hil) (by simpa using hjl) h)
      simp [this]

theorem MapIs.put (h : MapIs E ev w b m) (ht : P.underlying t = some (.map kt e)) (k : K) (hk : E.ok k) (v : V) :
    ∃ o, (Instr.mapUpdate t (.map (some b)) (E.enc k) (ev v)).run P w = .ok () (setBlock w b o) ∧ MapIs E ev (setBlock w b o) b (mput m k v) := by
  obtain ⟨es, clock, hb, hp, hok, hst⟩ := h
  obtain ⟨l, hl⟩ := E.reads k hk
  rcases MapIs.find w hp hok hst.2.2 k hk with ⟨h1, h2, h3⟩ | ⟨j, e, v0, h1, h3, h4, h5, h6⟩
  · refine ⟨.map (es.push ⟨E.enc k, ev v, clock⟩) (clock + 1), ?_, _, _, heap_setBlock_same hb _, ?_, ?_, stamped_push hst h3⟩
    · simp [Instr.mapUpdate, run_underlying ht, MapKept.run_getObj_map hb, E.keyed.check w false hl, h1, MapKept.run_setObj_map _ hb, Result.andThen, setBlock]
    · simp [mput, h2, hp, pairOf]
    · intro p hpm
      simp only [mput, h2, Option.isSome_none, Bool.false_eq_true, if_false, List.mem_append, List.mem_singleton] at hpm
      rcases hpm with hpm | rfl
      · exact hok p hpm
      · exact hk
  · have hj : es[j]? = some e := by simpa using h3
    refine ⟨.map (es.modify j (fun e' => { e' with key := E.enc k, val := ev v })) clock, ?_, _, _, heap_setBlock_same hb _, ?_, ?_, stamped_modify hst _ _ (fun _ _ => rfl) (fun e' _ he' => ?_)⟩
    · simp [Instr.mapUpdate, run_underlying ht, MapKept.run_getObj_map hb, E.keyed.check w false hl, h1, hj, h4, E.keyed.stays w hl, MapKept.run_setObj_map _ hb, Result.andThen, setBlock]
    · rw [mput, if_pos (by simp [h5])]
      exact map_modify_pair hp hst.2.2 h6 _ v (fun e' _ => ⟨rfl, rfl⟩)
    · intro p hpm
      rw [mput, if_pos (by simp [h5])] at hpm
      obtain ⟨q, hq, rfl⟩ := List.mem_map.1 hpm
      split
      · exact hk
      · exact hok q hq
    · rw [hj] at he'; cases he'; exact h4.symm

theorem erase_filter (m : List (K × V)) (hn : (m.map (·.1)).Nodup) {j : Nat} {k : K} {v : V} (hj : m[j]? = some (k, v)) : m.eraseIdx j = mdel m k := by
  induction m generalizing j with
  | nil => simp at hj
  | cons p m ih =>
    simp only [List.map_cons, List.nodup_cons] at hn
    cases j with
    | zero =>
      simp at hj; subst hj
      simp only [List.eraseIdx_cons_zero, mdel, List.filter_cons, ne_eq, not_true_eq_false, decide_false, Bool.false_eq_true, if_false]
      exact (List.filter_eq_self.2 (fun q hq => by simp only [decide_eq_true_eq]; exact fun e => hn.1 (e ▸ List.mem_map.2 ⟨q, hq, rfl⟩))).symm
    | succ j =>
      simp only [List.getElem?_cons_succ] at hj
      have hne : p.1 ≠ k := fun e => hn.1 (e ▸ List.mem_map.2 ⟨(k, v), List.mem_of_getElem? hj, rfl⟩)
      simp only [List.eraseIdx_cons_succ, mdel, List.filter_cons, ne_eq, hne, not_false_eq_true, decide_true, if_true, List.cons.injEq, true_and]
      exact ih hn.2 hj

theorem MapIs.del (h : MapIs E ev w b m) (ht : P.underlying t = some (.map kt e)) (k : K) (hk : E.ok k) (ty : TypeId) :
    ∃ o, (Builtin.delete_ #[t, kt] ty #[.map (some b), E.enc k]).run P w = .ok (.tuple #[]) (setBlock w b o) ∧ MapIs E ev (setBlock w b o) b (mdel m k) := by
  obtain ⟨es, clock, hb, hp, hok, hst⟩ := h
  obtain ⟨l, hl⟩ := E.reads k hk
  have hnd := nodup_keys hp hst.2.2
  rcases MapIs.find w hp hok hst.2.2 k hk with ⟨h1, h2, h3⟩ | ⟨j, e, v0, h1, h3, h4, h5, h6⟩
  · have hm : mdel m k = m := List.filter_eq_self.2 (fun q hq => by
      simp only [ne_eq, decide_eq_true_eq]; intro e1
      obtain ⟨i, hi, rfl⟩ := List.getElem_of_mem hq
      have := mget_some_of m hnd (List.getElem?_eq_getElem hi)
      rw [e1, h2] at this; cases this)
    refine ⟨.map es clock, ?_, es, clock, heap_setBlock_same hb _, by rw [hm]; exact hp, by rw [hm]; exact hok, hst⟩
    simp [Builtin.delete_, run_underlying ht, MapKept.run_getObj_map hb, E.keyed.check w _ hl, h1, MapKept.run_setObj_map _ hb, Result.andThen, setBlock]
  · have hjs : j < es.size := by have := (List.getElem?_eq_some_iff.1 h3).1; simpa using this
    have hsub : (es.eraseIdxIfInBounds j).toList = es.toList.eraseIdx j := by
      unfold Array.eraseIdxIfInBounds
      rw [dif_pos hjs]
      simp
    refine ⟨.map (es.eraseIdxIfInBounds j) clock, ?_, _, _, heap_setBlock_same hb _, ?_, ?_, stamped_erase hst j⟩
    · simp [Builtin.delete_, run_underlying ht, MapKept.run_getObj_map hb, E.keyed.check w _ hl, h1, MapKept.run_setObj_map _ hb, Result.andThen, setBlock]
    · rw [hsub, map_eraseIdx, hp, ← map_eraseIdx, erase_filter m hnd h6]
    · intro p hpm
      exact hok p (List.mem_filter.1 hpm).1

omit [DecidableEq K] in
theorem MapIs.len (h : MapIs E ev w b m) (ht : P.underlying t = some (.map kt e)) (ty : TypeId) : (Builtin.len_ #[t] ty #[.map (some b)]).run P w = .ok (.int .i64 m.length) w := by
  obtain ⟨es, clock, hb, hp, hok, hst⟩ := h
  have : es.size = m.length := by have := congrArg List.length hp; simpa using this
  simp [Builtin.len_, run_underlying ht, MapKept.run_getObj_map hb, Result.andThen, this]
  rfl

variable {ops : Array Oper} {rest : List Oper} {o : Oper} {a : Act} {Q : Exit → Act → World → Prop}

theorem wpList_look (h : MapIs E ev w b m) (hg : o.guard = none) (x y : Operand) (t : TypeId) (c : Bool) (hop : o.op = Op.lookup t x y c)
    (e : TypeId) (ht : P.underlying t = some (.map kt e)) {z : Value} (hz : (zeroValue e).run P w = .ok z w) (hx : a.eval x = .map (some b)) (k : K) (hy : a.eval y = E.enc k) (hk : E.ok k) {r : Value} (hr : lookRes c z ev (mget m k) = r)
    (hK : wpList P ops Q rest (a.put o.dst r) w) : wpList P ops Q (o :: rest) a w := by
  subst hr
  refine wpList_plain hg fun K' hK' => ?_
  unfold Oper.wp
  simp only [execOp, hop, hx, hy]
  simp [h.look ht hz c k hk, Result.andThen]
  exact hK' _ _ hK

theorem wpList_put (h : MapIs E ev w b m) (hg : o.guard = none) (x y u : Operand) (t : TypeId) (hop : o.op = Op.mapUpdate t x y u)
    (e : TypeId) (ht : P.underlying t = some (.map kt e)) (hx : a.eval x = .map (some b)) (k : K) (hy : a.eval y = E.enc k) (hk : E.ok k) (v : V) (hv : a.eval u = ev v)
    (hK : ∀ w1, MapIs E ev w1 b (mput m k v) → Chg (· = b) w w1 → wpList P ops Q rest (a.put o.dst (.tuple #[])) w1) : wpList P ops Q (o :: rest) a w := by
  refine wpList_plain hg fun K' hK' => ?_
  obtain ⟨ob, h1, h2⟩ := h.put ht k hk v
  unfold Oper.wp
  simp only [execOp, hop, hx, hy, hv]
  simp [h1, Result.andThen]
  exact hK' _ _ (hK _ h2 (Chg.setBlock (S := (· = b)) (Chg.refl _ w) (fun _ => rfl) _))

end

end Go.My
end

section
namespace Go.My
open Go.RowKit

theorem flat_length {α : Type} (n : Nat) : ∀ (l : List (List α)), (∀ r ∈ l, r.length = n) → l.flatten.length = l.length * n
  | [], _ => by simp
  | r :: l, h => by
    have h1 := flat_length n l (fun r hr => h r (by simp [hr]))
    have h2 := h r (by simp)
    simp only [List.flatten_cons, List.length_append, h1, h2, List.length_cons, Nat.succ_mul]; omega

theorem flat_get {α : Type} (n : Nat) : ∀ (l : List (List α)), (∀ r ∈ l, r.length = n) → ∀ (k j : Nat), j < n → l.flatten[k * n + j]? = (l[k]?).bind (fun r => r[j]?)
  | [], _, k, j, _ => by simp
  | r :: l, h, k, j, hj => by
    have h2 := h r (by simp)
    cases k with
    | zero => simp only [Nat.zero_mul, Nat.zero_add, List.flatten_cons, List.getElem?_cons_zero, Option.bind_some]; rw [List.getElem?_append_left (by omega)]
    | succ k =>
      have h1 := flat_get n l (fun r hr => h r (by simp [hr])) k j hj
      simp only [List.flatten_cons, List.getElem?_cons_succ]
      rw [List.getElem?_append_right (by rw [h2, Nat.succ_mul]; omega), h2, show (k + 1) * n + j - n = k * n + j by rw [Nat.succ_mul]; omega, h1]

theorem flat_set {α : Type} (n : Nat) (v : α) : ∀ (l : List (List α)), (∀ r ∈ l, r.length = n) → ∀ (k j : Nat), j < n → l.flatten.set (k * n + j) v = (l.modify k (fun r => r.set j v)).flatten
  | [], _, k, j, _ => by simp
  | r :: l, h, k, j, hj => by
    have h2 := h r (by simp)
    cases k with
    | zero => simp only [Nat.zero_mul, Nat.zero_add, List.flatten_cons, List.modify_zero_cons]; rw [List.set_append_left _ _ (by omega)]
    | succ k =>
      have h1 := flat_set n v l (fun r hr => h r (by simp [hr])) k j hj
      simp only [List.flatten_cons, List.modify_succ_cons]
      rw [List.set_append_right _ _ (by rw [h2, Nat.succ_mul]; omega), h2, show (k + 1) * n + j - n = k * n + j by rw [Nat.succ_mul]; omega, h1]

theorem own_slice {w : World} {base : Nat} {e : TypeId} {size : Nat} {v : Value} {n : Nat} {xs : List Value} (h : w.ownsRow base e size v n xs) : ∃ oa cap, v = .slice oa n cap := by
  rcases h.2 with ⟨rfl, h0⟩ | ⟨g, cap, cur, rfl, _⟩
  · exact ⟨none, 0, by rw [h0]⟩
  · exact ⟨_, cap, rfl⟩

structure OwnRecs (w : World) (base : Nat) (e : TypeId) (n : Nat) (v : Value) (l : List (List Value)) : Prop where
  row : w.ownsRow base e n v l.length l.flatten
  each : ∀ r ∈ l, r.length = n

variable {w w' : World} {base : Nat} {e : TypeId} {n : Nat} {v : Value} {l : List (List Value)}

theorem OwnRecs.nil (w : World) (base : Nat) (e : TypeId) (n : Nat) : OwnRecs w base e n (.slice none 0 0) [] := ⟨World.ownsRow_nil _ _ _ _, by simp⟩

theorem OwnRecs.kept (h : OwnRecs w base e n v l) {S : Nat → Prop} (hc : Chg S w w') (hn : ∀ k, v.ownBlock = some k → ¬ S k) : OwnRecs w' base e n v l := by
  refine ⟨?_, h.each⟩
  obtain ⟨h1, h2⟩ := h.row
  refine ⟨h1, ?_⟩
  rcases h2 with h2 | ⟨g, cap, cur, rfl, hb, hg, r⟩
  · exact Or.inl h2
  · exact Or.inr ⟨g, cap, cur, rfl, hb, hc.at hg (hn g rfl), r⟩

theorem OwnRecs.lt (h : OwnRecs w base e n v l) {k : Nat} (hk : v.ownBlock = some k) : base ≤ k ∧ k < w.heap.size := h.row.lt k hk

theorem OwnRecs.cell (h : OwnRecs w base e n v l) {k : Nat} (hk : k < l.length) :
    ∃ g cap, v = .slice (some ⟨g, 0, none⟩) l.length cap ∧ l.length ≤ cap ∧ base ≤ g ∧ g < w.heap.size ∧ (∀ j x, (l[k]'hk)[j]? = some x → w.cell? ⟨g, k * n + j, none⟩ = some x) ∧ (∀ j, w.frozen? ⟨g, j, none⟩ = false) := by
  rcases h.row.2 with ⟨_, h0⟩ | ⟨g, cap, cur, rfl, hb, hg, hc, _, _, ht⟩
  · omega
  · refine ⟨g, cap, rfl, hc, hb, lt_of_block hg, fun j x hx => ?_, fun j => free_of_block hg⟩
    have hr := h.each _ (List.getElem_mem hk)
    have hj : j < n := by have := (List.getElem?_eq_some_iff.1 hx).1; omega
    refine cell_of_block hg ?_
    have h1 := flat_get n l h.each k j hj
    rw [List.getElem?_eq_getElem hk, Option.bind_some, hx, ← ht, List.getElem?_take] at h1
    split at h1
    · simpa using h1
    · cases h1

theorem OwnRecs.cell' {oa : Option Addr} {m cap : Nat} (h : OwnRecs w base e n (.slice oa m cap) l) {k : Nat} (hk : k < l.length) :
    ∃ g, oa = some ⟨g, 0, none⟩ ∧ base ≤ g ∧ g < w.heap.size ∧ (∀ j x, (l[k]'hk)[j]? = some x → w.cell? ⟨g, k * n + j, none⟩ = some x) ∧ (∀ j, w.frozen? ⟨g, j, none⟩ = false) := by
  obtain ⟨g, cap', h1, _, h2, h3, h4, h5⟩ := h.cell hk
  cases h1
  exact ⟨g, rfl, h2, h3, h4, h5⟩

theorem OwnRecs.slice (h : OwnRecs w base e n v l) : ∃ oa cap, v = .slice oa l.length cap ∧ l.length ≤ cap ∧ cap ≤ maxLen := by
  rcases h.row.2 with ⟨rfl, h0⟩ | ⟨g, cap, cur, rfl, hb, hg, hc, hm, _⟩
  · exact ⟨none, 0, by rw [h0], by omega, by unfold maxLen; omega⟩
  · exact ⟨_, cap, rfl, hc, hm⟩

theorem OwnRecs.set {g cap : Nat} (h : OwnRecs w base e n (.slice (some ⟨g, 0, none⟩) l.length cap) l) {k j : Nat} (hj : j < n) (x : Value) :
    OwnRecs (w.setCell ⟨g, k * n + j, none⟩ x) base e n (.slice (some ⟨g, 0, none⟩) l.length cap) (l.modify k (fun r => r.set j x)) := by
  have h1 := (h.row.stored (k * n + j) x).1
  rw [flat_set n x l h.each k j hj] at h1
  refine ⟨by rw [List.length_modify]; exact h1, fun r hr => ?_⟩
  obtain ⟨i, hi, rfl⟩ := List.getElem_of_mem hr
  rw [List.getElem_modify]
  split
  · rw [List.length_set]; exact h.each _ (List.getElem_mem _)
  · exact h.each _ (List.getElem_mem _)

theorem OwnRecs.append {m : List (List Value)} (h : w'.ownsRow base e n v (l.length + m.length) (l.flatten ++ m.flatten)) (h1 : ∀ r ∈ l, r.length = n) (h2 : ∀ r ∈ m, r.length = n) : OwnRecs w' base e n v (l ++ m) :=
  ⟨by simpa using h, fun r hr => by rcases List.mem_append.1 hr with hr | hr; exact h1 r hr; exact h2 r hr⟩

theorem cells_new (w : World) (cs : List Value) (t : TypeId) : ∀ (j : Nat) (u : Value), cs[j]? = some u → (w.alloc (.cells cs.toArray t)).cell? ((⟨w.heap.size, 0, none⟩ : Addr).add j) = some u := by
  intro j u hu
  have : (⟨w.heap.size, 0, none⟩ : Addr).add j = ⟨w.heap.size, j, none⟩ := by unfold Addr.add; split <;> simp_all
  rw [this]
  exact cell_of_block (block_alloc_new _ _) (by simpa using hu)

end Go.My
end

section
namespace Go.My
open Go.ChangeShapes Go.WideShapes Go.ChangeAt Go.RowKit

section
variable {H : Type} {enc : TypeId × Value → H} {P : Program}

theorem trodAll_stays (hl : laidOutB P = true) {W W' : World} (hb : Below W.heap.size W W') : ∀ {ts : List TypeId} {vs : List Value} {ds : List (DataW H)} {ps : List MemPlace},
    (∀ t ∈ ts, P.readableRec t = true ∧ t < P.types.size) → DataW.TrodAll enc P W 0 (fun _ => true) true ts vs ds ps → (∀ x ∈ ps, x.block < W.heap.size) → DataW.TrodAll enc P W' 0 (fun b => decide (b < W.heap.size)) true ts vs ds ps
  | [], [], [], _, _, h, _ => h
  | [], [], _ :: _, _, _, h, _ => h.elim
  | [], _ :: _, _, _, _, h, _ => h.elim
  | _ :: _, [], _, _, _, h, _ => h.elim
  | _ :: _, _ :: _, [], _, _, h, _ => h.elim
  | t :: ts, v :: vs, d :: ds, ps, hr, h, hlt => by
    obtain ⟨p, q, h1, h2, rfl⟩ := h
    have ht := hr t (by simp)
    exact ⟨p, q, Below.trod hl ht.1 ht.2 h1 hb (fun x hx => hlt x (by simp [hx])), trodAll_stays hl hb (fun t ht => hr t (by simp [ht])) h2 (fun x hx => hlt x (by simp [hx])), rfl⟩

theorem trodAll_length {W : World} {base : Nat} {sp : Nat → Bool} {held : Bool} : ∀ {ts : List TypeId} {vs : List Value} {ds : List (DataW H)} {ps : List MemPlace}, DataW.TrodAll enc P W base sp held ts vs ds ps → ds.length = ts.length ∧ vs.length = ts.length
  | [], [], [], _, _ => ⟨rfl, rfl⟩
  | [], [], _ :: _, _, h => h.elim
  | [], _ :: _, _, _, h => h.elim
  | _ :: _, [], _, _, h => h.elim
  | _ :: _, _ :: _, [], _, h => h.elim
  | t :: ts, v :: vs, d :: ds, ps, h => by
    obtain ⟨p, q, h1, h2, rfl⟩ := h
    have := trodAll_length h2
    simp [this]

theorem law_handed {C : Checked} {os : Os} {F : FuncId} {fn : Func} {s : ChangeSpec} {tb : TypeId} (own : ownKnob C.prog.godebug = none) (started : os.Started) (noInit : C.prog.inits.idxOf? F = none) (hfn : C.prog.funcs[F]? = some fn)
    (witness : ∃ (w : World) (tape : Tape) (i : Input), w.os = os ∧ (w.forCall tape i).Shaped C.prog ∧ i.vars = [] ∧ Input.okWide C.prog (w.forCall tape i) .any w.heap.size F i ∧
      s.pre6 enc C.prog fn [] false (w.forCall tape i).memory i.args ∧ ({} : Assume).holds C.prog (lone (Frame.enter C.prog F i.args .normal) [] (w.forCall tape i)))
    (hl : laidOutB C.prog = true) (rows : ∀ t ∈ fn.params.toList, C.prog.readableRec t = true ∧ t < C.prog.types.size) (hvars : s.vars = []) (hres : fn.resultTypes = #[tb]) (htb : C.prog.underlying tb = some .bool)
    (hspec : ∀ ds : List (DataW H), ds.length = fn.params.size → s.fn H ds = { results := [.lit (.bool true)], args := ds })
    (contract : ∀ (W : World) (base : Nat) (args : Array Value) (ds : List (DataW H)) (before : List MemPlace),
      (∀ (j : Nat) t v, fn.params[j]? = some t → args[j]? = some v → Value.okWide C.prog W .any base t v) →
      DataW.TrodAll enc C.prog W 0 (fun _ => true) true fn.params.toList args.toList ds before → (∀ x ∈ before, x.block < W.heap.size) →
      (DataW.weightsEach C.prog fn.params.toList ds).all (· ≤ reachBytes) = true →
      Calls C.prog F args W fun e W' => e = .returned (.bool true) ∧ Chg (fun _ => False) W W') :
    ReturnsInHanded {} C os F .any (s.pre6 enc C.prog fn [] false) (s.post enc C.prog fn false true false false) := by
  refine returnsInHanded_of_change_sized own started noInit hfn witness ?_
  intro W base args ds gs before hval hW _ hsz _
  have hW' := hW
  have hlt := hW.lt
  obtain ⟨p, q, hA, hV, rfl, hfz, hnd⟩ := hW
  have hg : gs = [] ∧ q = [] := by
    rw [hvars] at hV
    cases gs with
    | nil => exact ⟨rfl, hV⟩
    | cons g gs => exact hV.elim
  obtain ⟨rfl, rfl⟩ := hg
  simp only [List.append_nil] at hlt hW'
  have hpt : s.plain.varTypes C.prog = [] := by
    have : s.plain.vars = [] := hvars
    simp [DataSpec.varTypes, this]
  rw [hpt, List.append_nil, List.append_nil] at hsz
  refine (contract W base args ds p hval hA hlt hsz).mono fun e W' ⟨he, hc⟩ => ⟨_, he, ?_⟩
  have hb : Below W.heap.size W W' := hc.below (Nat.le_refl _) (fun k h => h.elim)
  have hlen : ds.length = fn.params.size := by have := (trodAll_length hA).1; simpa using this
  refine ⟨ds, [], p, [], p, [], hW', ?_, ?_, ?_, hb.frame _, fun h => by cases h⟩
  · rw [List.append_nil, hspec ds hlen, hres]
    exact trodAll_mk1 (shut_bool htb _)
  · rw [List.append_nil, hspec ds hlen]
    exact trodAll_stays hl hb rows hA hlt
  · rw [List.append_nil, hspec ds hlen, hvars]
    rfl

end
end Go.My
end

section
namespace Go.My
open Go.ChangeShapes Go.WideShapes Go.RowKit Go.Deep

structure RowsAt (w : World) (n : Nat) (oa : Option Addr) (l : List (List Value)) : Prop where
  spot : l ≠ [] → ∃ b off, oa = some ⟨b, off, none⟩
  row : ∀ (i : Nat) (r : List Value), l[i]? = some r → r.length = n
  cell : ∀ (b off : Nat), oa = some ⟨b, off, none⟩ → ∀ (i : Nat) (r : List Value) (j : Nat) (v : Value), l[i]? = some r → r[j]? = some v → w.cell? ⟨b, off + i * n + j, none⟩ = some v

theorem RowsAt.lt {w : World} {n : Nat} {oa : Option Addr} {l : List (List Value)} (h : RowsAt w n oa l) (hn : 0 < n) {b off : Nat} (ho : oa = some ⟨b, off, none⟩) (hl : l ≠ []) : b < w.heap.size := by
  cases l with
  | nil => exact absurd rfl hl
  | cons r l =>
    have h1 := h.row 0 r rfl
    cases r with
    | nil => simp at h1; omega
    | cons v r => exact World.block_lt_of_cell? _ _ (h.cell b off ho 0 _ 0 v rfl rfl)

theorem RowsAt.kept {w w' : World} {n : Nat} {oa : Option Addr} {l : List (List Value)} (h : RowsAt w n oa l) {S : Nat → Prop} (hc : Chg S w w') (hs : ∀ k, k < w.heap.size → ¬ S k) : RowsAt w' n oa l :=
  ⟨h.spot, h.row, fun b off ho i r j v hi hj => by
    have h1 := h.cell b off ho i r j v hi hj
    exact hc.cell h1 (hs _ (World.block_lt_of_cell? _ _ h1))⟩

section
variable {H : Type} {enc : TypeId × Value → H} {P : Program}

theorem open_rows {W : World} {base : Nat} {sp : Nat → Bool} {held : Bool} {t e n : Nat} {v : Value} {d : DataW H} {ps : List MemPlace} {r : Reach} {b0 : Nat} (ht : P.underlying t = some (.slice e)) (hc : P.cellsOf e = n) (hn : 0 < n)
    (hv : Value.okWide P W r b0 t v) (h : DataW.Trod enc P W base sp held t v d ps) :
    ∃ (oa : Option Addr) (l : List (List Value)) (cap : Nat), v = .slice oa l.length cap ∧ l.length ≤ cap ∧ cap ≤ maxLen ∧ RowsAt W n oa l ∧ (∀ x ∈ l, ∃ fuel y, DataW.trod enc P W base sp held fuel e x = some y) := by
  obtain ⟨a0, len0, cap0, rfl⟩ := okWide_slice ht hv
  obtain ⟨fuel, hf⟩ := h
  rcases open_slice ht hf with ⟨h1, _⟩ | ⟨a, len, cap, m, k, D, Pl, h1, hb, hl, hm, hmm, _, hx⟩
  · simp only [Value.cells, List.cons.injEq, Value.slice.injEq, and_true] at h1
    obtain ⟨rfl, rfl, rfl⟩ := h1
    exact ⟨none, [], 0, rfl, Nat.le_refl _, by unfold maxLen; omega, ⟨fun h => absurd rfl h, by simp, by simp⟩, by simp⟩
  · simp only [Value.cells, List.cons.injEq, Value.slice.injEq, and_true] at h1
    obtain ⟨rfl, rfl, rfl⟩ := h1
    have hle : len0 ≤ m := by rw [hmm]; split <;> omega
    obtain ⟨R, hR⟩ := choose_lt (α := List Value) (n := len0) (p := fun i cs' => W.cells? base (a.add (i * n)) n = some cs' ∧ DataW.trod enc P W base sp held k e cs' = some (D i, Pl i)) (fun i hi => by
      obtain ⟨cs', h1, h2⟩ := hx i (by omega)
      rw [hc] at h1
      exact ⟨cs', h1, h2⟩)
    refine ⟨some a, (List.range len0).map R, cap0, by simp, by simpa using hl, hm, ⟨?_, ?_, ?_⟩, ?_⟩
    · intro hne
      have h0 : 0 < len0 := by
        rcases Nat.eq_zero_or_pos len0 with h | h
        · subst h; simp at hne
        · exact h
      obtain ⟨h1, _⟩ := hR 0 h0
      obtain ⟨_, h2, h3⟩ := World.cells?_some h1
      have h4 := h3 0 hn
      have h5 : a.add (0 * n) = a := by simp [Addr.add]
      rw [h5] at h4
      have h6 : a.add 0 = a := by simp [Addr.add]
      rw [h6, List.getElem?_eq_getElem (by omega)] at h4
      obtain ⟨bl, of, spt⟩ := a
      cases spt with
      | none => exact ⟨bl, of, rfl⟩
      | some s =>
        unfold World.cell? at h4
        cases hh : W.heap[bl]? with
        | none => simp [hh] at h4
        | some o => cases o <;> simp [hh] at h4
    · intro i r hr
      simp only [List.getElem?_map, Option.map_eq_some_iff] at hr
      obtain ⟨i', hi', rfl⟩ := hr
      obtain ⟨hlt, rfl⟩ := List.getElem?_eq_some_iff.1 hi'
      simp only [List.length_range] at hlt
      simp only [List.getElem_range]
      obtain ⟨h1, _⟩ := hR i hlt
      exact (World.cells?_some h1).2.1
    · intro b off hab i r j v hi hj
      cases hab
      simp only [List.getElem?_map, Option.map_eq_some_iff] at hi
      obtain ⟨i', hi', rfl⟩ := hi
      obtain ⟨hlt, rfl⟩ := List.getElem?_eq_some_iff.1 hi'
      simp only [List.length_range] at hlt
      simp only [List.getElem_range] at hj
      obtain ⟨h1, _⟩ := hR i hlt
      obtain ⟨_, h2, h3⟩ := World.cells?_some h1
      have hjn : j < n := by have := (List.getElem?_eq_some_iff.1 hj).1; omega
      have h4 := h3 j hjn
      rw [hj] at h4
      rw [← h4]
      congr 1
      unfold Addr.add
      by_cases e1 : i * n = 0 <;> by_cases e2 : j = 0 <;> simp [e1, e2]
    · intro x hx'
      simp only [List.mem_map, List.mem_range] at hx'
      obtain ⟨i, hi, rfl⟩ := hx'
      exact ⟨_, _, (hR i hi).2⟩

end
end Go.My
end

section
namespace Go.My
open Go.ChangeShapes Go.WideShapes Go.RowKit Go.Deep

section
variable {H : Type} {enc : TypeId × Value → H} {P : Program}

theorem open_rows_trod {W : World} {base : Nat} {sp : Nat → Bool} {held : Bool} {t e n fuel : Nat} {cs : List Value} {y : DataW H × List MemPlace} (ht : P.underlying t = some (.slice e)) (hc : P.cellsOf e = n) (hn : 0 < n)
    (hf : DataW.trod enc P W base sp held fuel t cs = some y) :
    ∃ (oa : Option Addr) (l : List (List Value)) (cap : Nat), cs = [.slice oa l.length cap] ∧ l.length ≤ cap ∧ cap ≤ maxLen ∧ RowsAt W n oa l ∧ (∀ x ∈ l, ∃ fuel y, DataW.trod enc P W base sp held fuel e x = some y) := by
  rcases open_slice ht hf with ⟨h1, _⟩ | ⟨a, len0, cap0, m, k, D, Pl, h1, hb, hl, hm, hmm, _, hx⟩
  · exact ⟨none, [], 0, h1, Nat.le_refl _, by unfold maxLen; omega, ⟨fun h => absurd rfl h, by simp, by simp⟩, by simp⟩
  · subst h1
    have hle : len0 ≤ m := by rw [hmm]; split <;> omega
    obtain ⟨R, hR⟩ := choose_lt (α := List Value) (n := len0) (p := fun i cs' => W.cells? base (a.add (i * n)) n = some cs' ∧ DataW.trod enc P W base sp held k e cs' = some (D i, Pl i)) (fun i hi => by
      obtain ⟨cs', h1, h2⟩ := hx i (by omega)
      rw [hc] at h1
      exact ⟨cs', h1, h2⟩)
    refine ⟨some a, (List.range len0).map R, cap0, by simp, by simpa using hl, hm, ⟨?_, ?_, ?_⟩, ?_⟩
    · intro hne
      have h0 : 0 < len0 := by
        rcases Nat.eq_zero_or_pos len0 with h | h
        · subst h; simp at hne
        · exact h
      obtain ⟨h1, _⟩ := hR 0 h0
      obtain ⟨_, h2, h3⟩ := World.cells?_some h1
      have h4 := h3 0 hn
      have h5 : a.add (0 * n) = a := by simp [Addr.add]
      rw [h5] at h4
      have h6 : a.add 0 = a := by simp [Addr.add]
      rw [h6, List.getElem?_eq_getElem (by omega)] at h4
      obtain ⟨bl, of, spt⟩ := a
      cases spt with
      | none => exact ⟨bl, of, rfl⟩
      | some s =>
        unfold World.cell? at h4
        cases hh : W.heap[bl]? with
        | none => simp [hh] at h4
        | some o => cases o <;> simp [hh] at h4
    · intro i r hr
      simp only [List.getElem?_map, Option.map_eq_some_iff] at hr
      obtain ⟨i', hi', rfl⟩ := hr
      obtain ⟨hlt, rfl⟩ := List.getElem?_eq_some_iff.1 hi'
      simp only [List.length_range] at hlt
      simp only [List.getElem_range]
      obtain ⟨h1, _⟩ := hR i hlt
      exact (World.cells?_some h1).2.1
    · intro b off hab i r j v hi hj
      cases hab
      simp only [List.getElem?_map, Option.map_eq_some_iff] at hi
      obtain ⟨i', hi', rfl⟩ := hi
      obtain ⟨hlt, rfl⟩ := List.getElem?_eq_some_iff.1 hi'
      simp only [List.length_range] at hlt
      simp only [List.getElem_range] at hj
      obtain ⟨h1, _⟩ := hR i hlt
      obtain ⟨_, h2, h3⟩ := World.cells?_some h1
      have hjn : j < n := by have := (List.getElem?_eq_some_iff.1 hj).1; omega
      have h4 := h3 j hjn
      rw [hj] at h4
      rw [← h4]
      congr 1
      unfold Addr.add
      by_cases e1 : i * n = 0 <;> by_cases e2 : j = 0 <;> simp [e1, e2]
    · intro x hx'
      simp only [List.mem_map, List.mem_range] at hx'
      obtain ⟨i, hi, rfl⟩ := hx'
      exact ⟨_, _, (hR i hi).2⟩

theorem flat_one {α β : Type} (f : α → β) : ∀ (l : List α), (l.map (fun z => [f z])).flatten = l.map f
  | [] => rfl
  | a :: l => by simp [flat_one f l]

theorem trod_fields {W : World} {base : Nat} {sp : Nat → Bool} {held : Bool} {e n fuel : Nat} {fs : Array Field} {cs : List Value} {y : DataW H × List MemPlace} (he : P.underlying e = some (.struct fs)) (hc : P.cellsOf e = n) (hn : fs.size = n)
    (hf : ∀ (i : Nat) (f : Field), fs[i]? = some f → f.offset = i ∧ P.cellsOf f.type = 1) (h : DataW.trod enc P W base sp held fuel e cs = some y) :
    cs.length = n ∧ ∃ k, ∀ (i : Nat) (f : Field) (u : Value), fs[i]? = some f → cs[i]? = some u → ∃ x, DataW.trod enc P W base sp held k f.type [u] = some x := by
  obtain ⟨xs, k, _, _, hlen, hxs, hx⟩ := DataW.trod_struct he h
  rw [hc] at hlen
  refine ⟨hlen, k, fun i f u hfi hu => ?_⟩
  obtain ⟨h1, h2⟩ := hf i f hfi
  have h4 := hx i f hfi
  have hi : i < xs.length := by have := (Array.getElem?_eq_some_iff.1 hfi).1; omega
  have hic : i < cs.length := by have := (Array.getElem?_eq_some_iff.1 hfi).1; omega
  rw [List.getElem?_eq_getElem hi] at h4
  refine ⟨xs[i], ?_⟩
  rw [← h4, h1, h2]
  congr 1
  rw [List.getElem?_eq_getElem hic] at hu
  cases hu
  rw [List.drop_eq_getElem_cons hic]
  rfl

end

theorem own_cell {w : World} {base : Nat} {e : TypeId} {g n cap : Nat} {xs : List Value} (h : w.ownsRow base e 1 (.slice (some ⟨g, 0, none⟩) n cap) n xs) {k : Nat} (hk : k < n) :
    ∃ hx : k < xs.length, w.cell? ⟨g, k, none⟩ = some (xs[k]'hx) ∧ w.frozen? ⟨g, k, none⟩ = false ∧ base ≤ g ∧ g < w.heap.size := by
  have h1 := h.1
  rcases h.2 with ⟨h', _⟩ | ⟨g', cap', cur, h', hb, hg, hnc, hcm, hcs, htake⟩
  · simp at h'
  · simp only [Value.slice.injEq, Option.some.injEq, Addr.mk.injEq, and_true, true_and] at h'
    obtain ⟨rfl, rfl⟩ := h'
    refine ⟨by omega, ?_, free_of_block hg, hb, lt_of_block hg⟩
    refine cell_of_block hg ?_
    have h2 : (cur.toList.take (n * 1))[k]? = some (xs[k]'(by omega)) := by rw [htake]; exact List.getElem?_eq_getElem _
    rw [List.getElem?_take_of_lt (by omega)] at h2
    simpa using h2

theorem wpList_store_new {P : Program} {ops : Array Oper} {rest : List Oper} {op : Oper} {a : Act} {w : World} {Q : Exit → Act → World → Prop} {c : Array Value} (hgd : op.guard = none) (ty : TypeId) (x y : Operand) (ho : op.op = .store ty x y)
    (c' : Array Value) (hx : a.eval x = .pointer (some ⟨w.heap.size, 0, none⟩)) (hy : a.eval y = .agg c') (hi : (P.info? ty).map (·.size) = some c'.size) (hs : c.size = c'.size) (h1 : c'.all (·.oneCell') = true)
    (h : wpList P ops Q rest (a.put op.dst undef) (w.alloc (.cells c' ty))) : wpList P ops Q (op :: rest) a (w.alloc (.cells c ty)) := by
  refine wpList_plain hgd fun _ hK => ?_
  unfold Oper.wp execOp
  simp only [ho, hx, hy, Sem.run_bind, Sem.run_pure, run_storeAt_new w ty c c' hi hs h1, Result.andThen_ok]
  exact hK _ _ h

end Go.My
end

section
namespace Go.Proofs.YtbjagmlbamjdbaaGreat.disks
open Go.RowKit Go.Maps Go.My
set_option maxRecDepth 100000

abbrev Blk := List UInt8
def cellsB (l : Blk) : List Value := l.map (fun b => .int .u8 b.toNat)
theorem cellsB_length (l : Blk) : (cellsB l).length = l.length := by simp [cellsB]

def iKey : KeyEnc Tryz.prog 3 Int where
  enc := encI
  ok k := (Lit.int .i64 k).wf = true
  keyed := int_keyed Tryz.underlying3
  reads k hk := ⟨_, keyOf_int_mk Tryz.underlying3 hk⟩
  inj k k' h := by simpa [encI] using h

structure DV where
  B : List Blk
  L : Nat → List Blk
  fuse : Int
  down : Bool
  done : Int

def objD (bv : Value) (q : Nat) (X : DV) : Obj := .cells #[bv, .map (some q), .int .i64 X.fuse, .bool X.down, .int .i64 X.done] 51 (0, 0)

structure DiskIs (w : World) (d : Nat) (F : Nat → Prop) (X : DV) (bv : Value) (q : Nat) (m : List (Int × (Value × List Blk))) : Prop where
  head : w.heap[d]? = some (objD bv q X)
  rows : OwnRecs w 0 154 64 bv (X.B.map cellsB)
  any : X.B ≠ []
  wmap : MapIs iKey Prod.fst w q m
  lists : ∀ p ∈ m, OwnRecs w 0 154 64 p.2.1 (p.2.2.map cellsB) ∧ p.2.2 ≠ [] ∧ 0 ≤ p.1 ∧ p.1 < X.B.length
  waits : ∀ i : Nat, X.L i = ((mget m (i : Int)).map (·.2)).getD []
  off : ∀ p ∈ m, p.2.1.ownBlock ≠ bv.ownBlock
  apart : ∀ p ∈ m, ∀ p' ∈ m, p.1 ≠ p'.1 → p.2.1.ownBlock ≠ p'.2.1.ownBlock
  fd : F d
  fq : F q
  fb : ∀ g, bv.ownBlock = some g → F g
  fm : ∀ p ∈ m, ∀ g, p.2.1.ownBlock = some g → F g
  lt : ∀ k, F k → k < w.heap.size
  size : X.B.length ≤ 4096

def DiskAt (w : World) (d : Nat) (F : Nat → Prop) (X : DV) : Prop := ∃ bv q m, DiskIs w d F X bv q m

variable {w w' : World} {d q : Nat} {F F' : Nat → Prop} {X X' : DV} {bv : Value} {m : List (Int × (Value × List Blk))}

theorem DiskIs.kept (h : DiskIs w d F X bv q m) {S : Nat → Prop} (hc : Chg S w w') (hs : ∀ k, F k → ¬ S k) : DiskIs w' d F X bv q m :=
  ⟨hc.at h.head (hs _ h.fd), h.rows.kept hc (fun k hk => hs _ (h.fb k hk)), h.any, h.wmap.kept hc (hs _ h.fq), fun p hp => ⟨(h.lists p hp).1.kept hc (fun k hk => hs _ (h.fm p hp k hk)), (h.lists p hp).2⟩,
    h.waits, h.off, h.apart, h.fd, h.fq, h.fb, h.fm, fun k hk => Nat.lt_of_lt_of_le (h.lt k hk) hc.size, h.size⟩

theorem DiskAt.kept (h : DiskAt w d F X) {S : Nat → Prop} (hc : Chg S w w') (hs : ∀ k, F k → ¬ S k) : DiskAt w' d F X := by
  obtain ⟨bv, q, m, h⟩ := h; exact ⟨bv, q, m, h.kept hc hs⟩

theorem DiskAt.fresh (h : DiskAt w d F X) (hc : Chg (fun _ => False) w w') : DiskAt w' d F X := h.kept hc (fun _ _ h => h)

theorem DiskIs.wide (h : DiskIs w d F X bv q m) (hs : ∀ k, F k → F' k) (hl : ∀ k, F' k → k < w.heap.size) : DiskIs w d F' X bv q m :=
  ⟨h.head, h.rows, h.any, h.wmap, h.lists, h.waits, h.off, h.apart, hs _ h.fd, hs _ h.fq, fun g hg => hs _ (h.fb g hg), fun p hp g hg => hs _ (h.fm p hp g hg), hl, h.size⟩

theorem DiskAt.wide (h : DiskAt w d F X) (hs : ∀ k, F k → F' k) (hl : ∀ k, F' k → k < w.heap.size) : DiskAt w d F' X := by
  obtain ⟨bv, q, m, h⟩ := h; exact ⟨bv, q, m, h.wide hs hl⟩

theorem own_obj {w : World} {base : Nat} {e : TypeId} {n : Nat} {v : Value} {l : List (List Value)} (h : OwnRecs w base e n v l) {g : Nat} (hg : v.ownBlock = some g) : ∃ cur, w.heap[g]? = some (.cells cur e (0, 0)) := by
  rcases h.row.2 with ⟨rfl, h0⟩ | ⟨g', cap, cur, rfl, _, hh, _⟩
  · simp [Value.ownBlock] at hg
  · simp only [Value.ownBlock, Option.some.injEq] at hg
    subst hg
    exact ⟨cur, hh⟩

theorem DiskIs.d_ne_q (h : DiskIs w d F X bv q m) : d ≠ q := by
  obtain ⟨es, clock, hb, _⟩ := h.wmap
  rintro rfl
  rw [h.head, objD] at hb; cases hb

theorem types_ne : (51 : Nat) ≠ 154 := by decide

theorem row_ne_d {l : List (List Value)} {v : Value} (h : DiskIs w d F X bv q m) (hr : OwnRecs w 0 154 64 v l) : v.ownBlock ≠ some d := by
  intro hg
  obtain ⟨cur, hc⟩ := own_obj hr hg
  rw [h.head, objD] at hc
  simp only [Option.some.injEq, Obj.cells.injEq] at hc
  exact types_ne hc.2.1

theorem row_ne_q {l : List (List Value)} {v : Value} (h : DiskIs w d F X bv q m) (hr : OwnRecs w 0 154 64 v l) : v.ownBlock ≠ some q := by
  intro hg
  obtain ⟨cur, hc⟩ := own_obj hr hg
  obtain ⟨es, clock, hb, _⟩ := h.wmap
  rw [hb] at hc; cases hc

theorem DiskIs.putD (h : DiskIs w d F X bv q m) (f : Int) (u : Bool) (n : Int) (hc : Chg (· = d) w w') (ho : w'.heap[d]? = some (objD bv q { X with fuse := f, down := u, done := n })) : DiskIs w' d F { X with fuse := f, down := u, done := n } bv q m :=
  ⟨ho, h.rows.kept hc (fun _ hk e => row_ne_d h h.rows (e ▸ hk)), h.any, h.wmap.kept hc (fun e => h.d_ne_q e.symm), fun p hp => ⟨(h.lists p hp).1.kept hc (fun _ hk e => row_ne_d h (h.lists p hp).1 (e ▸ hk)), (h.lists p hp).2⟩,
    h.waits, h.off, h.apart, h.fd, h.fq, h.fb, h.fm, fun k hk => Nat.lt_of_lt_of_le (h.lt k hk) hc.size, h.size⟩

theorem DiskIs.sl (h : DiskIs w d F X bv q m) : ∃ g cap, bv = .slice (some ⟨g, 0, none⟩) X.B.length cap ∧ X.B.length ≤ cap := by
  obtain ⟨oa, cap, h1, h2, _⟩ := h.rows.slice
  have hne : 0 < (X.B.map cellsB).length := by have := h.any; cases hX : X.B with | nil => exact absurd hX this | cons a l => simp
  obtain ⟨g, cap', e1, e2, _⟩ := h.rows.cell hne
  exact ⟨g, cap', by rw [e1]; simp, by simpa using e2⟩

theorem none_no (w : World) (h : DiskAt w d F X) : Calls Tryz.prog 84 #[.pointer (some ⟨d, 0, none⟩)] w fun e w' => e = .returned (.bool false) ∧ w = w' := by
  obtain ⟨bv, q, m, h⟩ := h
  obtain ⟨g, cap, rfl, _⟩ := h.sl
  have c0 := cell_of_block h.head (i := 0) rfl
  have hq := fun w n c => run_eql_slice_nil (P := Tryz.prog) w 48 _ (some ⟨g, 0, none⟩) n c Tryz.underlying48
  clear h
  go_enter Tryz.func84, Tryz.ntmps84
  go_wp2
  go_ret
  exact ⟨rfl, rfl⟩

def askedC (X : DV) (i : Int) : Int := if X.down then 15 else if 0 ≤ i ∧ i < X.B.length then 0 else 2

theorem asked_any (w : World) (h : DiskAt w d F X) (i : Int) : Calls Tryz.prog 82 #[.pointer (some ⟨d, 0, none⟩), .int .i64 i] w fun e w' => e = .returned (.int .i64 (askedC X i)) ∧ w = w' := by
  have H := Lib.hid h
  obtain ⟨bv, q, m, h⟩ := h
  obtain ⟨g, cap, rfl, _⟩ := h.sl
  have c0 := cell_of_block h.head (i := 0) rfl
  have c3 := cell_of_block h.head (i := 3) rfl
  clear h
  cases hd : X.down
  all_goals rw [hd] at c3
  all_goals go_enter Tryz.func82, Tryz.ntmps82
  all_goals go_wp2_with (go_at_call 84; refine (none_no _ H.out).mono ?_; rintro e w' ⟨rfl, rfl⟩)
  all_goals go_ret
  all_goals refine ⟨?_, rfl⟩
  all_goals first | (simp [askedC, *]; done) | (simp [askedC, hd]; omega)

theorem blocks_any (w : World) (h : DiskAt w d F X) : Calls Tryz.prog 102 #[.pointer (some ⟨d, 0, none⟩)] w fun e w' => e = .returned (.int .i64 X.B.length) ∧ w = w' := by
  have H := Lib.hid h
  obtain ⟨bv, q, m, h⟩ := h
  obtain ⟨g, cap, rfl, _⟩ := h.sl
  have c0 := cell_of_block h.head (i := 0) rfl
  clear h
  go_enter Tryz.func102, Tryz.ntmps102
  go_wp2_with (go_at_call 84; refine (none_no _ H.out).mono ?_; rintro e w' ⟨rfl, rfl⟩)
  go_ret
  exact ⟨rfl, rfl⟩

def DV.burn (X : DV) : DV := if X.fuse = 0 then { X with down := true } else { X with fuse := if 0 < X.fuse then X.fuse - 1 else X.fuse, done := wrap64 (X.done + 1) }

end Go.Proofs.YtbjagmlbamjdbaaGreat.disks
end

section
namespace Go.Proofs.YtbjagmlbamjdbaaGreat.disks
open Go.ChangeShapes Go.WideShapes Go.RowKit Go.My Go.Deep

theorem laidOut : laidOutB Tryz.prog = true := by kernel_rfl
theorem own : ownKnob Tryz.prog.godebug = none := by kernel_rfl
def inR (a : Int) : Prop := -9223372036854775808 ≤ a ∧ a ≤ 9223372036854775807
theorem inR_wf {a : Int} (h : inR a) : (Lit.int .i64 a).wf = true := WalkArith.wf_i64 h
theorem wf_inR {a : Int} (h : (Lit.int .i64 a).wf = true) : inR a := by have := bounds_i64 h; exact ⟨by omega, by omega⟩

end Go.Proofs.YtbjagmlbamjdbaaGreat.disks
end

section
namespace Go.Proofs.YtbjagmlbamjdbaaGreat.disks
open Go.RowKit Go.Maps Go.My
set_option maxRecDepth 100000

variable {w w' : World} {d q : Nat} {F F' : Nat → Prop} {X X' : DV} {bv : Value} {m : List (Int × (Value × List Blk))}

theorem setD2 (h : DiskIs w d F X bv q m) (f : Int) : Chg (· = d) w (w.setCell ⟨d, 2, none⟩ (.int .i64 f)) ∧ DiskIs (w.setCell ⟨d, 2, none⟩ (.int .i64 f)) d F { X with fuse := f } bv q m := by
  have hc : Chg (· = d) w (w.setCell ⟨d, 2, none⟩ (.int .i64 f)) := Chg.setCell (S := (· = d)) (Chg.refl _ _) (fun _ => rfl) _
  refine ⟨hc, h.putD f X.down X.done hc ?_⟩
  rw [block_setCell (h.head.trans rfl)]; rfl

theorem setD3 (h : DiskIs w d F X bv q m) (b : Bool) : Chg (· = d) w (w.setCell ⟨d, 3, none⟩ (.bool b)) ∧ DiskIs (w.setCell ⟨d, 3, none⟩ (.bool b)) d F { X with down := b } bv q m := by
  have hc : Chg (· = d) w (w.setCell ⟨d, 3, none⟩ (.bool b)) := Chg.setCell (S := (· = d)) (Chg.refl _ _) (fun _ => rfl) _
  refine ⟨hc, h.putD X.fuse b X.done hc ?_⟩
  rw [block_setCell (h.head.trans rfl)]; rfl

theorem setD4 (h : DiskIs w d F X bv q m) (n : Int) : Chg (· = d) w (w.setCell ⟨d, 4, none⟩ (.int .i64 n)) ∧ DiskIs (w.setCell ⟨d, 4, none⟩ (.int .i64 n)) d F { X with done := n } bv q m := by
  have hc : Chg (· = d) w (w.setCell ⟨d, 4, none⟩ (.int .i64 n)) := Chg.setCell (S := (· = d)) (Chg.refl _ _) (fun _ => rfl) _
  refine ⟨hc, h.putD X.fuse X.down n hc ?_⟩
  rw [block_setCell (h.head.trans rfl)]; rfl

theorem through_any (w : World) (h : DiskIs w d F X bv q m) (hf : X.fuse ≤ 9223372036854775807) : Calls Tryz.prog 187 #[.pointer (some ⟨d, 0, none⟩)] w fun e w' => e = .returned (.bool (decide (X.fuse ≠ 0))) ∧ DiskIs w' d F X.burn bv q m ∧ Chg (· = d) w w' := by
  have c2 : w.cell? ⟨d, 2, none⟩ = some (.int .i64 X.fuse) := cell_of_block h.head rfl
  have c4 : w.cell? ⟨d, 4, none⟩ = some (.int .i64 X.done) := cell_of_block h.head rfl
  have c3 : w.cell? ⟨d, 3, none⟩ = some (.bool X.down) := cell_of_block h.head rfl
  have z2 : w.frozen? ⟨d, 2, none⟩ = false := free_of_block h.head
  have z3 : w.frozen? ⟨d, 3, none⟩ = false := free_of_block h.head
  have z4 : w.frozen? ⟨d, 4, none⟩ = false := free_of_block h.head
  have H := Lib.hid h
  clear h
  go_enter Tryz.func187, Tryz.ntmps187
  go_wp2_with fail
  · go_ret
    have e : X.fuse = 0 := by simpa using ‹(X.fuse == 0) = true›
    obtain ⟨h1, h2⟩ := setD3 H.out true
    exact ⟨by simp [e], by rw [DV.burn, if_pos e]; exact h2, h1⟩
  · go_ret
    have e : X.fuse ≠ 0 := by simpa using ‹(X.fuse == 0) = false›
    obtain ⟨h1, h2⟩ := setD2 H.out (X.fuse - 1)
    obtain ⟨h3, h4⟩ := setD4 h2 (wrap64 (X.done + 1))
    exact ⟨by simp [e], by rw [DV.burn, if_neg e, if_pos (by assumption)]; exact h4, h1.trans' h3⟩
  · go_ret
    have e : X.fuse ≠ 0 := by simpa using ‹(X.fuse == 0) = false›
    obtain ⟨h1, h2⟩ := setD4 H.out (wrap64 (X.done + 1))
    exact ⟨by simp [e], by rw [DV.burn, if_neg e, if_neg (by omega)]; exact h2, h1⟩

def DV.set (X : DV) (n : Int) : DV := if X.down ∨ n < 0 then X else { X with fuse := n }

theorem DiskIs.pos (h : DiskIs w d F X bv q m) : 0 < X.B.length := by have := h.any; cases hX : X.B with | nil => exact absurd hX this | cons a l => simp

theorem asked0 (h : DiskIs w d F X bv q m) : askedC X 0 = if X.down then 15 else 0 := by
  have := h.pos
  unfold askedC
  split
  · rfl
  · rw [if_pos ⟨by omega, by omega⟩]

end Go.Proofs.YtbjagmlbamjdbaaGreat.disks
end

section
namespace Go.Proofs.YtbjagmlbamjdbaaGreat.disks
open Go.RowKit Go.Maps Go.My
set_option maxRecDepth 100000

variable {w w' : World} {d q : Nat} {F F' : Nat → Prop} {X X' : DV} {bv : Value} {m : List (Int × (Value × List Blk))}

theorem info_u8' : (Tryz.prog.info? 5).map (fun i => (i.zero, i.size, i.bytes)) = some (some (.int .u8 0), 1, 1) := by kernel_rfl
theorem info_block : (Tryz.prog.info? 154).map (fun i => (i.zero, i.size, i.bytes)) = some (some (.agg (Array.replicate 64 (.int .u8 0))), 64, 64) := by kernel_rfl
theorem size_block : (Tryz.prog.info? 154).map (·.size) = some 64 := by kernel_rfl
theorem zero_blocks (w : World) : (zeroValue 48).run Tryz.prog w = .ok (.slice none 0 0) w := by kernel_rfl

theorem one_cellsB (b : Blk) : ∀ v ∈ cellsB b, v.oneCell' = true := by
  intro v hv
  simp only [cellsB, List.mem_map] at hv
  obtain ⟨x, _, rfl⟩ := hv
  rfl

def DV.cur (X : DV) (i : Nat) : Blk := ((X.L i).getLast?).getD (X.B[i]?.getD [])

theorem DiskIs.wide64 (h : DiskIs w d F X bv q m) : ∀ b ∈ X.B, b.length = 64 := fun b hb => by
  have := h.rows.each (cellsB b) (List.mem_map_of_mem hb)
  rwa [cellsB_length] at this

theorem rows_range {v : Value} {l : List Blk} (h : OwnRecs w 0 154 64 v (l.map cellsB)) {k : Nat} (hk : k < l.length) :
    ∃ g cap, v = .slice (some ⟨g, 0, none⟩) l.length cap ∧ g < w.heap.size ∧ w.rangeAt g (k * 64) (cellsB l[k]) ∧ (∀ j, w.frozen? ⟨g, j, none⟩ = false) := by
  obtain ⟨g, cap, h1, _, _, h2, h3, h4⟩ := h.cell (k := k) (by simpa using hk)
  exact ⟨g, cap, by simpa using h1, h2, fun j x hx => h3 j x (by simpa using hx), h4⟩

theorem DiskIs.looked (h : DiskIs w d F X bv q m) (i : Nat) : ∃ v, lookRes false (.slice none 0 0) Prod.fst (mget m (i : Int)) = v ∧ OwnRecs w 0 154 64 v ((X.L i).map cellsB) := by
  rw [h.waits i]
  cases hm : mget m (i : Int) with
  | none => exact ⟨_, rfl, OwnRecs.nil _ _ _ _⟩
  | some p =>
    have hp : ((i : Int), p) ∈ m := by
      unfold mget at hm
      simp only [Option.map_eq_some_iff] at hm
      obtain ⟨r, h1, rfl⟩ := hm
      have h2 := List.find?_some h1
      simp only [decide_eq_true_eq] at h2
      rw [← h2]
      exact List.mem_of_find?_eq_some h1
    exact ⟨_, rfl, (h.lists _ hp).1⟩

theorem own_empty (w : World) (A : Obj) : ((w.alloc A).alloc (.cells #[] 5)).ownsRow w.heap.size 5 1 (.slice (some ⟨w.heap.size + 1, 0, none⟩) 0 0) 0 [] := by
  have := World.ownsRow_lit (base := w.heap.size) (e := 5) (size := 1) (w.alloc A) #[] 0 (by simp) (by unfold maxLen; omega) rfl
  simpa using this

theorem cells_there (w : World) (l : Blk) (t : TypeId) (B : Obj) : ∀ j u, (cellsB l)[j]? = some u → ((w.alloc (.cells (cellsB l).toArray t)).alloc B).cell? ((⟨w.heap.size, 0, none⟩ : Addr).add j) = some u := by
  intro j u hu
  have h1 := cells_new w (cellsB l) t j u hu
  exact ((Chg.refl (fun _ => False) (w.alloc (.cells (cellsB l).toArray t))).alloc B).cell h1 id

set_option maxHeartbeats 4000000 in
theorem read_any (w : World) (h : DiskIs w d F X bv q m) (i : Int) (hi : inR i) :
    Calls Tryz.prog 101 #[.pointer (some ⟨d, 0, none⟩), .int .i64 i] w fun e w' => ∃ v, e = .returned (.tuple #[v, .int .i64 (askedC X i)]) ∧
      w'.ownsRow w.heap.size 5 1 v (if askedC X i = 0 then 64 else 0) (cellsB (if askedC X i = 0 then X.cur i.toNat else [])) ∧ Chg (fun _ => False) w w' := by
  obtain ⟨i0, hI0⟩ := info_parts info_u8'
  have HI0 := Lib.hid hI0
  clear hI0
  by_cases ha : askedC X i = 0
  · obtain ⟨k, rfl, hk⟩ : ∃ k : Nat, i = (k : Int) ∧ k < X.B.length := by
      unfold askedC at ha
      split at ha
      · omega
      · split at ha
        · exact ⟨i.toNat, by omega, by omega⟩
        · omega
    rw [if_pos ha, if_pos ha, ha]
    obtain ⟨g, cap, rfl, hg, hr, -⟩ := rows_range h.rows hk
    have c0 : w.cell? ⟨d, 0, none⟩ = some (.slice (some ⟨g, 0, none⟩) X.B.length cap) := cell_of_block h.head rfl
    have c1 : w.cell? ⟨d, 1, none⟩ = some (.map (some q)) := cell_of_block h.head rfl
    have hbs : (cellsB X.B[k]).toArray.size = 64 := by rw [List.size_toArray, cellsB_length, h.wide64 _ (List.getElem_mem _)]
    have Hbs := Lib.hid hbs
    clear hbs
    have b1 : ∀ c, (w.alloc (.cells c 154)).cell? ⟨d, 1, none⟩ = some (.map (some q)) := fun c => ((Chg.refl (fun _ => False) w).alloc _).cell c1 id
    obtain ⟨u, hu, hou⟩ := h.looked k
    have H := Lib.hid h
    have HR := Lib.hid hr
    have hk' : (k : Int) < (X.B.length : Int) := by omega
    have Hu := Lib.hid hu
    clear h hr hu
    rcases List.eq_nil_or_concat (X.L k) with hL | ⟨l, b, hL⟩
    · have hcur : X.cur k = X.B[k] := by simp [DV.cur, hL, hk]
      rw [hL] at hou
      obtain ⟨oa, cap', rfl, -⟩ := hou.slice
      clear hou
      go_enter Tryz.func101, Tryz.ntmps101
      go_wp2_with (first
        | (go_at_call 82; refine (asked_any _ ⟨_, _, _, H.out⟩ _).mono ?_; rw [ha]; rintro e w' ⟨rfl, rfl⟩)
        | (refine wpList_load_mid rfl 154 _ rfl g (k * 64) rfl (cellsB X.B[k]) _ HR.out Tryz.underlying154 rfl (by rw [size_block, cellsB_length, H.out.wide64 _ (List.getElem_mem _)]) ?_)
        | (refine wpList_store_new rfl 154 _ _ rfl (cellsB X.B[k]).toArray rfl rfl (size_block.trans (by rw [Hbs.out])) (by rw [Hbs.out] <;> rfl) (all_oneCell_toArray (one_cellsB _)) ?_)
        | (at_lookup; refine wpList_look (H.out.kept ((Chg.refl (fun _ => False) w).alloc _) (fun _ _ h => h)).wmap rfl _ _ _ _ rfl _ Tryz.underlying49 (zero_blocks _) rfl (k : Int) rfl (inR_wf hi) Hu.out ?_)
        | (at_builtin; refine wpList_append_own_at _ rfl _ _ 101 rfl w.heap.size 5 i0 (.int .u8 0) 1 1 Tryz.underlying101 HI0.out.1 HI0.out.2.1 HI0.out.2.2.1 HI0.out.2.2.2 rfl (by decide) _ _ _ rfl (own_empty _ _) ⟨w.heap.size, 0, none⟩ 64 64 (cellsB X.B[k]) rfl ?c1 ?c2 ?c3 ?c4 ?c5 ?c6 ?_))
      case c1 => rw [cellsB_length, H.out.wide64 _ (List.getElem_mem _)]
      case c2 => exact cells_there _ _ _ _
      case c3 => exact one_cellsB _
      case c4 => unfold maxLen; omega
      case c5 => omega
      case c6 => simp only [World.size_alloc]; omega
      intro v' w2 ho hg _ _
      go_wp2_with fail
      go_ret2
      refine ⟨v', rfl, ?_, ?_⟩
      · rw [Int.toNat_natCast, hcur]; exact ho
      · exact (((Chg.refl _ _).alloc _).alloc _).trans (Chg.of_grown hg) (fun i hi hk => by simp [Value.ownBlock] at hk; omega)
    · have hcur : X.cur k = b := by simp [DV.cur, hL, List.concat_eq_append]
      rw [hL, List.concat_eq_append] at hou
      have hb : b.length = 64 := by
        have := hou.each (cellsB b) (by simp)
        rwa [cellsB_length] at this
      have hlw : wrap64 (l.length : Int) = (l.length : Int) := by
        obtain ⟨_, _, _, h1, h2⟩ := hou.slice
        unfold maxLen at h2
        simp only [List.length_map, List.length_append, List.length_cons, List.length_nil] at h1
        exact IntWalk.wrap64_in _ (by omega)
      obtain ⟨g2, cap2, rfl, hg2, hr2, -⟩ := rows_range hou (k := l.length) (by simp)
      have hr3 : (w.rangeAt g2 (l.length * 64) (cellsB b)) := by simpa using hr2
      have hr4 : ∀ c, (w.alloc (.cells c 154)).rangeAt g2 (l.length * 64) (cellsB b) := fun c j x hx => ((Chg.refl (fun _ => False) w).alloc _).cell (hr3 j x hx) id
      have HR2 := Lib.hid hr4
      have hbs2 : (cellsB b).toArray.size = 64 := by rw [List.size_toArray, cellsB_length, hb]
      have Hbs2 := Lib.hid hbs2
      have Hb := Lib.hid hb
      simp only [List.length_append, List.length_cons, List.length_nil, Nat.zero_add] at Hu
      clear hou hr2 hr3 hr4 hbs2 hb
      go_enter Tryz.func101, Tryz.ntmps101
      go_wp2_with (first
        | (go_at_call 82; refine (asked_any _ ⟨_, _, _, H.out⟩ _).mono ?_; rw [ha]; rintro e w' ⟨rfl, rfl⟩)
        | (refine wpList_load_mid rfl 154 _ rfl g (k * 64) rfl (cellsB X.B[k]) _ HR.out Tryz.underlying154 rfl (by rw [size_block, cellsB_length, H.out.wide64 _ (List.getElem_mem _)]) ?_)
        | (refine wpList_load_mid rfl 154 _ rfl g2 (l.length * 64) rfl (cellsB b) _ (HR2.out _) Tryz.underlying154 rfl (by rw [size_block, cellsB_length, Hb.out]) ?_)
        | (refine wpList_store_new rfl 154 _ _ rfl (cellsB X.B[k]).toArray rfl rfl (size_block.trans (by rw [Hbs.out])) (by rw [Hbs.out] <;> rfl) (all_oneCell_toArray (one_cellsB _)) ?_)
        | (refine wpList_store_new rfl 154 _ _ rfl (cellsB b).toArray rfl rfl (size_block.trans (by rw [Hbs2.out])) (Hbs.out.trans Hbs2.out.symm) (all_oneCell_toArray (one_cellsB _)) ?_)
        | (at_lookup; refine wpList_look (H.out.kept ((Chg.refl (fun _ => False) w).alloc _) (fun _ _ h => h)).wmap rfl _ _ _ _ rfl _ Tryz.underlying49 (zero_blocks _) rfl (k : Int) rfl (inR_wf hi) Hu.out ?_)
        | (at_builtin; refine wpList_append_own_at _ rfl _ _ 101 rfl w.heap.size 5 i0 (.int .u8 0) 1 1 Tryz.underlying101 HI0.out.1 HI0.out.2.1 HI0.out.2.2.1 HI0.out.2.2.2 rfl (by decide) _ _ _ rfl (own_empty _ _) ⟨w.heap.size, 0, none⟩ 64 64 (cellsB b) rfl ?c1 ?c2 ?c3 ?c4 ?c5 ?c6 ?_))
      case c1 => rw [cellsB_length, Hb.out]
      case c2 => exact cells_there _ _ _ _
      case c3 => exact one_cellsB _
      case c4 => unfold maxLen; omega
      case c5 => omega
      case c6 => simp only [World.size_alloc]; omega
      intro v' w2 ho hg _ _
      go_wp2_with fail
      go_ret2
      refine ⟨v', rfl, ?_, ?_⟩
      · rw [Int.toNat_natCast, hcur]; exact ho
      · exact (((Chg.refl _ _).alloc _).alloc _).trans (Chg.of_grown hg) (fun i hi hk => by simp [Value.ownBlock] at hk; omega)
  · rw [if_neg ha, if_neg ha]
    have Ha := Lib.hid ha
    have H := Lib.hid h
    have hne : (askedC X i != 0) = true := by simpa using ha
    clear h ha
    go_enter Tryz.func101, Tryz.ntmps101
    go_wp2_with (go_at_call 82; refine (asked_any _ ⟨_, _, _, H.out⟩ _).mono ?_; rintro e w' ⟨rfl, rfl⟩)
    go_ret2
    exact ⟨_, rfl, World.ownsRow_nil _ _ _ _, Chg.refl _ _⟩

end Go.Proofs.YtbjagmlbamjdbaaGreat.disks
end
