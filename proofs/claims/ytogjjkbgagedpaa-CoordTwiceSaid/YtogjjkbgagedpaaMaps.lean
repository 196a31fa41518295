/-
  GENERAL LEMMAS OF MY OWN: a map's block as an association list ('MapIs'), and what the operations on it do, at any key type.
-/
import Derived.Test.YtogjjkbgagedpaaBase
import Derived.Maps.OwnSet
namespace Go.My
open Go.RowKit Go.Maps Go.MapKept Go.ChangeMaps

structure KeyEnc (P : Program) (kt : TypeId) (K : Type) where
  enc : K → Value
  ok : K → Prop
  keyed : Keyed P kt
  reads : ∀ k, ok k → ∃ l, keyOf P kt (enc k) = some l
  inj : ∀ k k', enc k = enc k' → k = k'

section
variable {P : Program} {kt : TypeId} {K V : Type}

def pairOf (e : MapEntry) : Value × Value := (e.key, e.val)

def MapIs (E : KeyEnc P kt K) (ev : V → Value) (w : World) (b : Nat) (m : List (K × V)) : Prop :=
  ∃ es clock, w.heap[b]? = some (.map es clock) ∧ es.toList.map pairOf = m.map (fun p => (E.enc p.1, ev p.2)) ∧ (∀ p ∈ m, E.ok p.1) ∧ Stamped es clock

variable {E : KeyEnc P kt K} {ev : V → Value} {w : World} {b : Nat} {m : List (K × V)}

theorem MapIs.lt (h : MapIs E ev w b m) : b < w.heap.size := by
  obtain ⟨es, clock, hb, _⟩ := h; exact lt_of_block hb

theorem MapIs.kept (h : MapIs E ev w b m) {S : Nat → Prop} {w' : World} (hc : Chg S w w') (hn : ¬ S b) : MapIs E ev w' b m := by
  obtain ⟨es, clock, hb, r⟩ := h; exact ⟨es, clock, hc.at hb hn, r⟩

theorem MapIs.of_eq (h : MapIs E ev w b m) {w' : World} (hc : w'.heap[b]? = w.heap[b]?) : MapIs E ev w' b m := by
  obtain ⟨es, clock, hb, r⟩ := h; exact ⟨es, clock, hc.trans hb, r⟩

theorem MapIs.copied (h : MapIs E ev w b m) {es : Array MapEntry} {k : Nat} (hb : w.heap[b]? = some (.map es k)) {w' : World} {b' : Nat} (hb' : w'.heap[b']? = some (.map es k)) : MapIs E ev w' b' m := by
  obtain ⟨es', k', h1, r⟩ := h
  rw [hb] at h1; cases h1
  exact ⟨es, k, hb', r⟩

theorem MapIs.made {w : World} {b clock : Nat} (E : KeyEnc P kt K) (ev : V → Value) (hb : w.heap[b]? = some (.map #[] clock)) : MapIs E ev w b [] :=
  ⟨#[], clock, hb, by simp, by simp, stamped_empty clock⟩

theorem nodup_keys {es : List MapEntry} {m : List (K × V)} (hp : es.map pairOf = m.map (fun p => (E.enc p.1, ev p.2))) (hn : (es.map (·.key)).Nodup) : (m.map (·.1)).Nodup := by
  have h1 : es.map (·.key) = (m.map (·.1)).map E.enc := by
    have := congrArg (List.map Prod.fst) hp
    simpa [pairOf, Function.comp_def] using this
  rw [h1] at hn
  exact List.Pairwise.of_map _ (fun a b h e => h (by rw [e])) hn

theorem MapIs.nodup (h : MapIs E ev w b m) : (m.map (·.1)).Nodup := by
  obtain ⟨es, clock, hb, hp, _, _, _, hk⟩ := h; exact nodup_keys hp hk

theorem MapIs.oks (h : MapIs E ev w b m) : ∀ p ∈ m, E.ok p.1 := by
  obtain ⟨es, clock, hb, hp, h, _⟩ := h; exact h

theorem pair_at {es : List MapEntry} {m : List (K × V)} (hp : es.map pairOf = m.map (fun p => (E.enc p.1, ev p.2))) {j : Nat} {e : MapEntry} (hj : es[j]? = some e) :
    ∃ p, m[j]? = some p ∧ e.key = E.enc p.1 ∧ e.val = ev p.2 := by
  have h1 : (es.map pairOf)[j]? = some (e.key, e.val) := by simp [hj, pairOf]
  rw [hp] at h1
  simp only [List.getElem?_map, Option.map_eq_some_iff, Prod.mk.injEq] at h1
  obtain ⟨p, h2, h3, h4⟩ := h1
  exact ⟨p, h2, h3.symm, h4.symm⟩

variable [DecidableEq K]

theorem mget_none_of (m : List (K × V)) (k : K) (h : ∀ p ∈ m, p.1 ≠ k) : mget m k = none := by
  induction m with
  | nil => rfl
  | cons p m ih => rw [mget_cons, if_neg (h p (by simp)), ih (fun q hq => h q (by simp [hq]))]

theorem mget_some_of (m : List (K × V)) (hn : (m.map (·.1)).Nodup) {j : Nat} {p : K × V} (hj : m[j]? = some p) : mget m p.1 = some p.2 := by
  induction m generalizing j with
  | nil => simp at hj
  | cons q m ih =>
    rw [mget_cons]
    simp only [List.map_cons, List.nodup_cons] at hn
    cases j with
    | zero => simp at hj; subst hj; simp
    | succ j =>
      simp only [List.getElem?_cons_succ] at hj
      have : q.1 ≠ p.1 := fun e => hn.1 (e ▸ List.mem_map.2 ⟨p, List.mem_of_getElem? hj, rfl⟩)
      rw [if_neg this, ih hn.2 hj]

/-- The search: nothing, or the place of the one entry. -/
theorem MapIs.find {es : Array MapEntry} (w : World) (hp : es.toList.map pairOf = m.map (fun p => (E.enc p.1, ev p.2))) (hok : ∀ p ∈ m, E.ok p.1) (hn : (es.toList.map (·.key)).Nodup) (k : K) (hk : E.ok k) :
    ((Instr.findKey kt (E.enc k) es.toList).run P w = .ok none w ∧ mget m k = none ∧ (∀ e ∈ es.toList, e.key ≠ E.enc k)) ∨
    ∃ j e v, (Instr.findKey kt (E.enc k) es.toList).run P w = .ok (some (j, ev v)) w ∧ es.toList[j]? = some e ∧ e.key = E.enc k ∧ mget m k = some v ∧ m[j]? = some (k, v) := by
  obtain ⟨l, hl⟩ := E.reads k hk
  have hks : ∀ e ∈ es.toList, ∃ l, keyOf P kt e.key = some l := by
    intro e he
    obtain ⟨j, hj, rfl⟩ := List.getElem_of_mem he
    obtain ⟨p, h1, h2, _⟩ := pair_at hp (List.getElem?_eq_getElem hj)
    rw [h2]; exact E.reads _ (hok p (List.mem_of_getElem? h1))
  rcases E.keyed.find w hl es.toList hks with ⟨h1, h2⟩ | ⟨j, e, h1, h2, h3⟩
  · refine Or.inl ⟨h1, mget_none_of m k (fun p hpm he => ?_), h2⟩
    obtain ⟨j, hj, rfl⟩ := List.getElem_of_mem hpm
    have : (es.toList.map pairOf)[j]? = some (E.enc m[j].1, ev m[j].2) := by rw [hp]; simp [hj]
    simp only [List.getElem?_map, Option.map_eq_some_iff] at this
    obtain ⟨e, he1, he2⟩ := this
    exact h2 e (List.mem_of_getElem? he1) (by have := congrArg Prod.fst he2; simp only [pairOf] at this; rw [this, he])
  · obtain ⟨p, h4, h5, h6⟩ := pair_at hp h2
    have hkp : p.1 = k := E.inj _ _ (h5.symm.trans h3)
    refine Or.inr ⟨j, e, p.2, by rw [h1, h6], h2, h3, ?_, ?_⟩
    · rw [← hkp]; exact mget_some_of m (nodup_keys hp hn) h4
    · rw [h4, ← hkp]

def lookVal (z : Value) (ev : V → Value) (o : Option V) : Value := match o with | some v => ev v | none => z
def lookRes (c : Bool) (z : Value) (ev : V → Value) (o : Option V) : Value := if c then .tuple #[lookVal z ev o, .bool o.isSome] else lookVal z ev o

theorem lookRes_ok (z : Value) (ev : V → Value) (o : Option V) : lookRes true z ev o = .tuple #[lookVal z ev o, .bool o.isSome] := rfl
def encI (k : Int) : Value := .int .i64 k
theorem lookRes_int (o : Option Int) : lookRes true (.int .i64 0) encI o = .tuple #[.int .i64 (o.getD 0), .bool o.isSome] := by cases o <;> rfl
theorem lookRes_int1 (o : Option Int) : lookRes false (.int .i64 0) encI o = .int .i64 (o.getD 0) := by cases o <;> rfl
theorem lookRes_bool (o : Option Bool) : lookRes true (.bool false) Value.bool o = .tuple #[.bool (o.getD false), .bool o.isSome] := by cases o <;> rfl
theorem lookRes_bool1 (o : Option Bool) : lookRes false (.bool false) Value.bool o = .bool (o.getD false) := by cases o <;> rfl

variable {t e : TypeId}

theorem MapIs.look (h : MapIs E ev w b m) (ht : P.underlying t = some (.map kt e)) {z : Value} (hz : (zeroValue e).run P w = .ok z w) (c : Bool) (k : K) (hk : E.ok k) :
    (Instr.lookup t (.map (some b)) (E.enc k) c).run P w = .ok (lookRes c z ev (mget m k)) w := by
  obtain ⟨es, clock, hb, hp, hok, _, _, hn⟩ := h
  obtain ⟨l, hl⟩ := E.reads k hk
  rcases MapIs.find w hp hok hn k hk with ⟨h1, h2, _⟩ | ⟨j, e, v, h1, _, _, h4, _⟩
  · simp [Instr.lookup, run_underlying ht, MapKept.run_getObj_map hb, E.keyed.check w _ hl, h1, h2, hz, Result.andThen, lookRes, lookVal]
  · simp [Instr.lookup, run_underlying ht, MapKept.run_getObj_map hb, E.keyed.check w _ hl, h1, h4, Result.andThen, lookRes, lookVal]

omit [DecidableEq K] in
theorem look_nil (E : KeyEnc P kt K) (ev : V → Value) (ht : P.underlying t = some (.map kt e)) {z : Value} (hz : (zeroValue e).run P w = .ok z w) (c : Bool) (k : K) (hk : E.ok k) :
    (Instr.lookup t (.map none) (E.enc k) c).run P w = .ok (lookRes c z ev none) w := by
  obtain ⟨l, hl⟩ := E.reads k hk
  have hf : (Instr.findKey kt (E.enc k) []).run P w = .ok none w := by
    rcases E.keyed.find w hl [] (by simp) with ⟨h1, _⟩ | ⟨j, e, _, h, _⟩
    · exact h1
    · simp at h
  simp [Instr.lookup, run_underlying ht, E.keyed.check w _ hl, hf, hz, Result.andThen, lookRes, lookVal]

theorem map_modify_pair {es : Array MapEntry} {m : List (K × V)} (hp : es.toList.map pairOf = m.map (fun p => (E.enc p.1, ev p.2))) (hn : (es.toList.map (·.key)).Nodup) {j : Nat} {k : K} {v0 : V} (hj : m[j]? = some (k, v0)) (f : MapEntry → MapEntry)
    (v : V) (hf : ∀ e, es[j]? = some e → (f e).key = E.enc k ∧ (f e).val = ev v) :
    (es.modify j f).toList.map pairOf = (m.map (fun p => if p.1 = k then (k, v) else p)).map (fun p => (E.enc p.1, ev p.2)) := by
  have hnd := nodup_keys hp hn
  apply List.ext_getElem?
  intro i
  simp only [List.getElem?_map, Array.getElem?_toList, Array.getElem?_modify]
  have hi : (es.toList.map pairOf)[i]? = (m.map (fun p => (E.enc p.1, ev p.2)))[i]? := by rw [hp]
  simp only [List.getElem?_map, Array.getElem?_toList] at hi
  by_cases hij : j = i
  · subst hij
    rw [if_pos rfl]
    rw [hj] at hi ⊢
    cases he : es[j]? with
    | none => simp [he] at hi
    | some e =>
      have h2 := hf e he
      simp [pairOf, h2.1, h2.2]
  · rw [if_neg hij, hi]
    cases hm : m[i]? with
    | none => rfl
    | some p =>
      have : p.1 ≠ k := by
        intro e1
        apply hij
        obtain ⟨hjl, hje⟩ := List.getElem?_eq_some_iff.1 hj
        obtain ⟨hil, hie⟩ := List.getElem?_eq_some_iff.1 hm
        have h1 : (m.map (·.1))[j]'(by simpa using hjl) = (m.map (·.1))[i]'(by simpa using hil) := by simp [hje, hie, e1]
        rcases Nat.lt_trichotomy j i with h | h | h
        · exact absurd h1 (List.pairwise_iff_getElem.1 hnd j i (by simpa using hjl) (by simpa using hil) h)
        · exact h
        · exact absurd h1.symm (List.pairwise_iff_getElem.1 hnd i j (by simpa using hil) (by simpa using hjl) h)
      simp [this]

theorem MapIs.put (h : MapIs E ev w b m) (ht : P.underlying t = some (.map kt e)) (k : K) (hk : E.ok k) (v : V) :
    ∃ o, (Instr.mapUpdate t (.map (some b)) (E.enc k) (ev v)).run P w = .ok () (setBlock w b o) ∧ MapIs E ev (setBlock w b o) b (mput m k v) := by
  obtain ⟨es, clock, hb, hp, hok, hst⟩ := h
  obtain ⟨l, hl⟩ := E.reads k hk
  rcases MapIs.find w hp hok hst.2.2 k hk with ⟨h1, h2, h3⟩ | ⟨j, e, v0, h1, h3, h4, h5, h6⟩
  · refine ⟨.map (es.push ⟨E.enc k, ev v, clock⟩) (clock + 1), ?_, _, _, heap_setBlock_same hb _, ?_, ?_, stamped_push hst h3⟩
    · simp [Instr.mapUpdate, run_underlying ht, MapKept.run_getObj_map hb, E.keyed.check w false hl, h1, MapKept.run_setObj_map _ hb, Result.andThen, setBlock]
    · simp [mput, h2, hp, pairOf]
    · intro p hpm
      simp only [mput, h2, Option.isSome_none, Bool.false_eq_true, if_false, List.mem_append, List.mem_singleton] at hpm
      rcases hpm with hpm | rfl
      · exact hok p hpm
      · exact hk
  · have hj : es[j]? = some e := by simpa using h3
    refine ⟨.map (es.modify j (fun e' => { e' with key := E.enc k, val := ev v })) clock, ?_, _, _, heap_setBlock_same hb _, ?_, ?_, stamped_modify hst _ _ (fun _ _ => rfl) (fun e' _ he' => ?_)⟩
    · simp [Instr.mapUpdate, run_underlying ht, MapKept.run_getObj_map hb, E.keyed.check w false hl, h1, hj, h4, E.keyed.stays w hl, MapKept.run_setObj_map _ hb, Result.andThen, setBlock]
    · rw [mput, if_pos (by simp [h5])]
      exact map_modify_pair hp hst.2.2 h6 _ v (fun e' _ => ⟨rfl, rfl⟩)
    · intro p hpm
      rw [mput, if_pos (by simp [h5])] at hpm
      obtain ⟨q, hq, rfl⟩ := List.mem_map.1 hpm
      split
      · exact hk
      · exact hok q hq
    · rw [hj] at he'; cases he'; exact h4.symm

theorem erase_filter (m : List (K × V)) (hn : (m.map (·.1)).Nodup) {j : Nat} {k : K} {v : V} (hj : m[j]? = some (k, v)) : m.eraseIdx j = mdel m k := by
  induction m generalizing j with
  | nil => simp at hj
  | cons p m ih =>
    simp only [List.map_cons, List.nodup_cons] at hn
    cases j with
    | zero =>
      simp at hj; subst hj
      simp only [List.eraseIdx_cons_zero, mdel, List.filter_cons, ne_eq, not_true_eq_false, decide_false, Bool.false_eq_true, if_false]
      exact (List.filter_eq_self.2 (fun q hq => by simp only [decide_eq_true_eq]; exact fun e => hn.1 (e ▸ List.mem_map.2 ⟨q, hq, rfl⟩))).symm
    | succ j =>
      simp only [List.getElem?_cons_succ] at hj
      have hne : p.1 ≠ k := fun e => hn.1 (e ▸ List.mem_map.2 ⟨(k, v), List.mem_of_getElem? hj, rfl⟩)
      simp only [List.eraseIdx_cons_succ, mdel, List.filter_cons, ne_eq, hne, not_false_eq_true, decide_true, if_true, List.cons.injEq, true_and]
      exact ih hn.2 hj

theorem MapIs.del (h : MapIs E ev w b m) (ht : P.underlying t = some (.map kt e)) (k : K) (hk : E.ok k) (ty : TypeId) :
    ∃ o, (Builtin.delete_ #[t, kt] ty #[.map (some b), E.enc k]).run P w = .ok (.tuple #[]) (setBlock w b o) ∧ MapIs E ev (setBlock w b o) b (mdel m k) := by
  obtain ⟨es, clock, hb, hp, hok, hst⟩ := h
  obtain ⟨l, hl⟩ := E.reads k hk
  have hnd := nodup_keys hp hst.2.2
  rcases MapIs.find w hp hok hst.2.2 k hk with ⟨h1, h2, h3⟩ | ⟨j, e, v0, h1, h3, h4, h5, h6⟩
  · have hm : mdel m k = m := List.filter_eq_self.2 (fun q hq => by
      simp only [ne_eq, decide_eq_true_eq]; intro e1
      obtain ⟨i, hi, rfl⟩ := List.getElem_of_mem hq
      have := mget_some_of m hnd (List.getElem?_eq_getElem hi)
      rw [e1, h2] at this; cases this)
    refine ⟨.map es clock, ?_, es, clock, heap_setBlock_same hb _, by rw [hm]; exact hp, by rw [hm]; exact hok, hst⟩
    simp [Builtin.delete_, run_underlying ht, MapKept.run_getObj_map hb, E.keyed.check w _ hl, h1, MapKept.run_setObj_map _ hb, Result.andThen, setBlock]
  · have hjs : j < es.size := by have := (List.getElem?_eq_some_iff.1 h3).1; simpa using this
    have hsub : (es.eraseIdxIfInBounds j).toList = es.toList.eraseIdx j := by
      unfold Array.eraseIdxIfInBounds
      rw [dif_pos hjs]
      simp
    refine ⟨.map (es.eraseIdxIfInBounds j) clock, ?_, _, _, heap_setBlock_same hb _, ?_, ?_, stamped_erase hst j⟩
    · simp [Builtin.delete_, run_underlying ht, MapKept.run_getObj_map hb, E.keyed.check w _ hl, h1, MapKept.run_setObj_map _ hb, Result.andThen, setBlock]
    · rw [hsub, map_eraseIdx, hp, ← map_eraseIdx, erase_filter m hnd h6]
    · intro p hpm
      exact hok p (List.mem_filter.1 hpm).1

omit [DecidableEq K] in
theorem MapIs.len (h : MapIs E ev w b m) (ht : P.underlying t = some (.map kt e)) (ty : TypeId) : (Builtin.len_ #[t] ty #[.map (some b)]).run P w = .ok (.int .i64 m.length) w := by
  obtain ⟨es, clock, hb, hp, hok, hst⟩ := h
  have : es.size = m.length := by have := congrArg List.length hp; simpa using this
  simp [Builtin.len_, run_underlying ht, MapKept.run_getObj_map hb, Result.andThen, this]
  rfl

/-! ### at the operation -/
variable {ops : Array Oper} {rest : List Oper} {o : Oper} {a : Act} {Q : Exit → Act → World → Prop}

theorem wpList_look (h : MapIs E ev w b m) (hg : o.guard = none) (x y : Operand) (t : TypeId) (c : Bool) (hop : o.op = Op.lookup t x y c)
    (e : TypeId) (ht : P.underlying t = some (.map kt e)) {z : Value} (hz : (zeroValue e).run P w = .ok z w) (hx : a.eval x = .map (some b)) (k : K) (hy : a.eval y = E.enc k) (hk : E.ok k) {r : Value} (hr : lookRes c z ev (mget m k) = r)
    (hK : wpList P ops Q rest (a.put o.dst r) w) : wpList P ops Q (o :: rest) a w := by
  subst hr
  refine wpList_plain hg fun K' hK' => ?_
  unfold Oper.wp
  simp only [execOp, hop, hx, hy]
  simp [h.look ht hz c k hk, Result.andThen]
  exact hK' _ _ hK

theorem wpList_put (h : MapIs E ev w b m) (hg : o.guard = none) (x y u : Operand) (t : TypeId) (hop : o.op = Op.mapUpdate t x y u)
    (e : TypeId) (ht : P.underlying t = some (.map kt e)) (hx : a.eval x = .map (some b)) (k : K) (hy : a.eval y = E.enc k) (hk : E.ok k) (v : V) (hv : a.eval u = ev v)
    (hK : ∀ w1, MapIs E ev w1 b (mput m k v) → Chg (· = b) w w1 → wpList P ops Q rest (a.put o.dst (.tuple #[])) w1) : wpList P ops Q (o :: rest) a w := by
  refine wpList_plain hg fun K' hK' => ?_
  obtain ⟨ob, h1, h2⟩ := h.put ht k hk v
  unfold Oper.wp
  simp only [execOp, hop, hx, hy, hv]
  simp [h1, Result.andThen]
  exact hK' _ _ (hK _ h2 (Chg.setBlock (S := (· = b)) (Chg.refl _ w) (fun _ => rfl) _))

omit [DecidableEq K] in
theorem wpList_len (h : MapIs E ev w b m) (hg : o.guard = none) (x : Operand) (t : TypeId) (hop : o.op = Op.call { callee := Callee.builtin Builtin.len, args := #[x], argTypes := #[t] })
    (e : TypeId) (ht : P.underlying t = some (.map kt e)) (hx : a.eval x = .map (some b))
    (hK : wpList P ops Q rest (a.put o.dst (.int .i64 m.length)) w) : wpList P ops Q (o :: rest) a w := by
  refine wpList_plain hg fun K' hK' => ?_
  unfold Oper.wp
  simp [execOp, hop, resolve, invoke, builtin, hx, h.len ht o.type, Result.andThen]
  exact hK' _ _ hK

theorem wpList_del (h : MapIs E ev w b m) (hg : o.guard = none) (x y : Operand) (t : TypeId) (hop : o.op = Op.call { callee := Callee.builtin Builtin.delete, args := #[x, y], argTypes := #[t, kt] })
    (e : TypeId) (ht : P.underlying t = some (.map kt e)) (hx : a.eval x = .map (some b)) (k : K) (hy : a.eval y = E.enc k) (hk : E.ok k)
    (hK : ∀ w1, MapIs E ev w1 b (mdel m k) → Chg (· = b) w w1 → wpList P ops Q rest (a.put o.dst (.tuple #[])) w1) : wpList P ops Q (o :: rest) a w := by
  refine wpList_plain hg fun K' hK' => ?_
  obtain ⟨ob, h1, h2⟩ := h.del ht k hk o.type
  unfold Oper.wp
  simp [execOp, hop, hx, hy, h1, Result.andThen, resolve, invoke, builtin]
  exact hK' _ _ (hK _ h2 (Chg.setBlock (S := (· = b)) (Chg.refl _ w) (fun _ => rfl) _))

end

/-- A key that is a struct of two integers. -/
theorem keyOf_struct2 {P : Program} {k e : TypeId} {q : IntKind} {f0 f1 : Field} (hk : P.underlying k = some (.struct #[f0, f1])) (hkt : P.keyType k = true) (hc : P.cellsOf k = 2) (n0 : (f0.name != "_") = true) (n1 : (f1.name != "_") = true)
    (t0 : f0.type = e) (t1 : f1.type = e) (o0 : f0.offset = 0) (o1 : f1.offset = 1) (he : P.underlying e = some (.int q)) (hce : P.cellsOf e = 1) (hn : 0 < P.types.size) (a b : Int) (ha : (Lit.int q a).wf = true) (hb : (Lit.int q b).wf = true) :
    ∃ l, keyOf P k (.agg #[.int q a, .int q b]) = some l := by
  have hf : (Value.agg #[.int q a, .int q b]).formed P k = true := by
    simp [Value.formed, hk, hc]
  obtain ⟨n, hn⟩ : ∃ n, P.types.size = n + 1 := ⟨P.types.size - 1, by omega⟩
  simp [keyOf, hk, hkt, hf, hn, Program.keyLits, hc, hce, he, ha, hb, Value.cells, n0, n1, t0, t1, o0, o1]

end Go.My
