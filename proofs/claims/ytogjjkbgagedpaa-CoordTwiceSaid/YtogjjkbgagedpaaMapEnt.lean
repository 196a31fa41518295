/-
  GENERAL LEMMAS OF MY OWN: 'm[k] op= v' of a map: the entry is made, then stored.
-/
import Derived.Test.YtogjjkbgagedpaaMaps
import Derived.WideKeyEntry
namespace Go.My
open Go.RowKit Go.Maps Go.MapKept Go.ChangeMaps

section
variable {P : Program} {kt : TypeId} {K V : Type} [DecidableEq K] {E : KeyEnc P kt K} {ev : V → Value} {w : World} {b : Nat} {m : List (K × V)} {t e : TypeId}

theorem MapIs.entry (h : MapIs E ev w b m) (L : WideMaps.KeyLaw P kt) (ht : P.underlying t = some (.map kt e)) (z : V) (hz : ∀ u : World, (zeroValue e).run P u = .ok (ev z) u) (hm : m.length ≤ maxLen) (k : K) (hk : E.ok k) :
    ∃ (v0 : Value) (st : Nat) (ob : Obj) (m1 : List (K × V)), (Instr.mapEntry t (.map (some b)) (E.enc k)).run P w = .ok (.tuple #[v0, goInt st]) (setBlock w b ob) ∧ MapIs E ev (setBlock w b ob) b m1 ∧ (mget m1 k).getD z = (mget m k).getD z ∧
      ∀ (w2 : World) (v : V), w2.heap[b]? = some ob → ∃ ob2, (Instr.entryStore t (.map (some b)) (goInt st) (ev v)).run P w2 = .ok () (setBlock w2 b ob2) ∧ MapIs E ev (setBlock w2 b ob2) b (mput m k v) := by
  have h' := h
  obtain ⟨es, clock, hb, hp, hok, hst⟩ := h
  obtain ⟨l, hl⟩ := E.reads k hk
  have hsz : es.size = m.length := by have := congrArg List.length hp; simpa using this
  have F : WideElems.Fit (H := Unit) P kt (fun _ => some (.nil, [])) es clock := ⟨by omega, hst, fun x hx => by
    obtain ⟨j, hj⟩ := List.getElem?_of_mem hx
    obtain ⟨p, hpj, hkey, -⟩ := pair_at hp hj
    obtain ⟨l', hl'⟩ := E.reads p.1 (hok p (List.mem_of_getElem? hpj))
    exact ⟨_, by unfold WideElems.rd; rw [hkey, hl']; rfl⟩⟩
  obtain ⟨v0, st, es1, clock1, hrun, -, hstore⟩ := WideElems.entry_then_store L ht hz hb F hl
  have hmid : ∃ ob m1 x0, (Instr.mapEntry t (.map (some b)) (E.enc k)).run P w = .ok x0 (setBlock w b ob) ∧ MapIs E ev (setBlock w b ob) b m1 ∧ (mget m1 k).getD z = (mget m k).getD z := by
    rcases MapIs.find w hp hok hst.2.2 k hk with ⟨h1, h2, h3⟩ | ⟨j, e0, v1, h1, h3, h4, h5, h6⟩
    · obtain ⟨o, hu, hM⟩ := h'.put ht k hk z
      refine ⟨o, mput m k z, .tuple #[ev z, goInt clock], ?_, hM, ?_⟩
      · have hu2 : (Instr.mapUpdate t (.map (some b)) (E.enc k) (ev z)).run P w = .ok () (setBlock w b (.map (es.push ⟨E.enc k, ev z, clock⟩) (clock + 1))) := by
          simp [Instr.mapUpdate, run_underlying ht, MapKept.run_getObj_map hb, E.keyed.check w false hl, h1, MapKept.run_setObj_map _ hb, Result.andThen, setBlock]
        rw [hu] at hu2
        have hw : setBlock w b o = setBlock w b (.map (es.push ⟨E.enc k, ev z, clock⟩) (clock + 1)) := by injection hu2
        rw [hw]
        simp [Instr.mapEntry, run_underlying ht, MapKept.run_getObj_map hb, E.keyed.check w false hl, h1, hz, MapKept.run_setObj_map _ hb, Result.andThen, setBlock]
      · rw [mget_mput, if_pos rfl, h2]; rfl
    · have hj : es[j]? = some e0 := by simpa using h3
      have hsame : es.modify j (fun e => { e with key := E.enc k }) = es := by
        apply Array.ext'
        rw [Array.toList_modify, modify_eq_set _ _ _ _ h3]
        have : ({ e0 with key := E.enc k } : MapEntry) = e0 := by rw [← h4]
        rw [this]
        exact WideElems.set_self _ _ _ h3
      refine ⟨.map es clock, m, .tuple #[ev v1, goInt e0.born], ?_, h'.of_eq (by rw [heap_setBlock_same hb, hb]), rfl⟩
      simp [Instr.mapEntry, run_underlying ht, MapKept.run_getObj_map hb, E.keyed.check w false hl, h1, hj, h4, E.keyed.stays w hl, hsame, MapKept.run_setObj_map _ hb, Result.andThen, setBlock]
  obtain ⟨ob, m1, x0, hr1, hM1, hg⟩ := hmid
  rw [hrun] at hr1
  have hw1 : setBlock w b (.map es1 clock1) = setBlock w b ob := by injection hr1
  refine ⟨v0, st, .map es1 clock1, m1, hrun, by rw [hw1]; exact hM1, hg, fun w2 v hw2 => ?_⟩
  obtain ⟨es', clock', hs1, hs2⟩ := hstore w2 (ev v) hw2
  obtain ⟨o, hu, hM⟩ := h'.put ht k hk v
  rw [hu] at hs2
  have hw : setBlock w b o = setBlock w b (.map es' clock') := by injection hs2
  rw [hw] at hM
  exact ⟨.map es' clock', hs1, hM.of_eq (by rw [heap_setBlock_same hw2, heap_setBlock_same hb])⟩

end
end Go.My
