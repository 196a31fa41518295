/-
  coord, of any plans: Tick, as a function of what is known.
-/
import Derived.Test.YtogjjkbgagedpaaCoGI
import Derived.Test.YtogjjkbgagedpaaCoordR
namespace Go.Proofs.Ytogjjkbgagedpaa.coordg
open Go.RowKit Go.Maps Go.My Go.ChangeMaps coords
set_option maxRecDepth 100000

variable {w w' : World} {c q : Nat} {Fc : Nat → Prop} {lim : Int} {L : List (Int × Ent)}

def EV.aged (E : EV) : EV := { E with age := E.age + 1 }
def tickE (lim : Int) (E : EV) : Option EV := if E.state = 1 then if lim ≤ E.age + 1 then none else some E.aged else some E
def tickM (lim : Int) (tx : Int) (E : EV) : List (Int × Int × Int) :=
  if E.state = 1 then if lim ≤ E.age + 1 then E.ps.map (fun r => (4, r, tx)) else (lacksOf E E.ps.length).map (fun r => (1, r, tx))
  else if E.state = 3 then (lacksOf E E.ps.length).map (fun r => (3, r, tx)) else []
def tickK (lim : Int) (K : List Int) (L : List (Int × Ent)) : List (Int × Ent) :=
  L.filterMap (fun p => if p.1 ∈ K then (tickE lim p.2.E).map (fun E => (p.1, { p.2 with E := E })) else some p)
def tickA (lim : Int) (L : List (Int × Ent)) (tx : Int) : List (Int × Int × Int) := match mget L tx with | none => [] | some e => tickM lim tx e.E

theorem tickK_nil (L : List (Int × Ent)) : tickK lim [] L = L := by
  unfold tickK
  simp

theorem tickK_congr {K K' : List Int} {L : List (Int × Ent)} (h : ∀ p ∈ L, (p.1 ∈ K ↔ p.1 ∈ K')) : tickK lim K L = tickK lim K' L := by
  unfold tickK
  have : ∀ (l : List (Int × Ent)) (f g : Int × Ent → Option (Int × Ent)), (∀ p ∈ l, f p = g p) → l.filterMap f = l.filterMap g := by
    intro l f g
    induction l with
    | nil => intro _; rfl
    | cons p l ih => intro h; rw [List.filterMap_cons, List.filterMap_cons, h p (by simp), ih (fun p hp => h p (by simp [hp]))]
  refine this L _ _ (fun p hp => ?_)
  by_cases h1 : p.1 ∈ K
  · rw [if_pos h1, if_pos ((h p hp).1 h1)]
  · rw [if_neg h1, if_neg (fun h2 => h1 ((h p hp).2 h2))]

theorem tickK_get {K : List Int} {tx : Int} (h : tx ∉ K) (L : List (Int × Ent)) (hn : (L.map (·.1)).Nodup) : mget (tickK lim K L) tx = mget L tx := by
  induction L with
  | nil => rfl
  | cons p L ih =>
    rw [List.map_cons, List.nodup_cons] at hn
    have ih := ih hn.2
    unfold tickK at ih ⊢
    rw [List.filterMap_cons]
    by_cases h1 : p.1 ∈ K
    · have hne : p.1 ≠ tx := fun e => h (e ▸ h1)
      rw [if_pos h1, mget_cons (p := p), if_neg hne]
      cases tickE lim p.2.E with
      | none => exact ih
      | some E => simp only [Option.map_some]; rw [mget_cons, if_neg hne]; exact ih
    · rw [if_neg h1]
      simp only
      rw [mget_cons, mget_cons, ih]

theorem tickK_keys {K : List Int} {L : List (Int × Ent)} {p : Int × Ent} (h : p ∈ tickK lim K L) : ∃ p0 ∈ L, p0.1 = p.1 := by
  obtain ⟨p0, h0, h1⟩ := List.mem_filterMap.1 h
  refine ⟨p0, h0, ?_⟩
  by_cases hk : p0.1 ∈ K
  · rw [if_pos hk] at h1
    obtain ⟨E, -, rfl⟩ := Option.map_eq_some_iff.1 h1
    rfl
  · rw [if_neg hk] at h1
    cases h1; rfl

theorem tickK_step {K : List Int} {tx : Int} (hK : tx ∉ K) : ∀ (L : List (Int × Ent)), (L.map (·.1)).Nodup → ∀ {e : Ent}, mget L tx = some e →
    tickK lim (K ++ [tx]) L = match tickE lim e.E with | none => mdel (tickK lim K L) tx | some E => upd (tickK lim K L) tx E
  | [], _, e, he => by simp [mget_nil] at he
  | p :: L, hn, e, he => by
    rw [List.map_cons, List.nodup_cons] at hn
    rw [mget_cons] at he
    have hcons : ∀ K', tickK lim K' (p :: L) = (if p.1 ∈ K' then (tickE lim p.2.E).map (fun E => (p.1, { p.2 with E := E })) else some p).toList ++ tickK lim K' L := by
      intro K'
      unfold tickK
      rw [List.filterMap_cons]
      cases (if p.1 ∈ K' then (tickE lim p.2.E).map (fun E => (p.1, { p.2 with E := E })) else some p) <;> rfl
    by_cases hp : p.1 = tx
    · rw [if_pos hp] at he
      cases he
      have hno : ∀ p0 ∈ L, p0.1 ≠ tx := fun p0 h0 e1 => hn.1 (by rw [hp, ← e1]; exact List.mem_map_of_mem h0)
      have hrest : tickK lim (K ++ [tx]) L = tickK lim K L := tickK_congr (fun p0 h0 => by simp [hno p0 h0])
      rw [hcons, hcons, hrest, if_pos (by simp [hp]), if_neg (by rw [hp]; exact hK)]
      have hrk : ∀ p0 ∈ tickK lim K L, p0.1 ≠ tx := fun p0 h0 => by obtain ⟨p1, h1, h2⟩ := tickK_keys h0; rw [← h2]; exact hno p1 h1
      cases tickE lim p.2.E with
      | none =>
        simp only [Option.map_none, Option.toList_none, List.nil_append, Option.toList_some]
        unfold mdel
        rw [List.cons_append, List.nil_append, List.filter_cons, if_neg (by simp [hp])]
        exact (List.filter_eq_self.2 (fun p0 h0 => by simpa using hrk p0 h0)).symm
      | some E =>
        simp only [Option.map_some, Option.toList_some]
        unfold upd
        rw [List.map_append]
        congr 1
        · simp [hp]
        · have : ∀ p0 ∈ tickK lim K L, (fun p : Int × Ent => if p.1 = tx then (p.1, { p.2 with E := E }) else p) p0 = id p0 := fun p0 h0 => if_neg (hrk p0 h0)
          rw [List.map_congr_left this, List.map_id]
    · rw [if_neg hp] at he
      have ih := tickK_step hK L hn.2 he
      rw [hcons, hcons, ih]
      have h1 : (p.1 ∈ K ++ [tx]) ↔ p.1 ∈ K := by simp [hp]
      have hhd : ∀ p0 ∈ (if p.1 ∈ K then (tickE lim p.2.E).map (fun E => (p.1, { p.2 with E := E })) else some p).toList, p0.1 ≠ tx := by
        intro p0 h0
        split at h0
        · cases ht : tickE lim p.2.E with
          | none => rw [ht] at h0; simp at h0
          | some E => rw [ht] at h0; simp at h0; rw [h0]; exact hp
        · simp at h0; rw [h0]; exact hp
      rw [show (if p.1 ∈ K ++ [tx] then (tickE lim p.2.E).map (fun E => (p.1, ({ p.2 with E := E } : Ent))) else some p) = (if p.1 ∈ K then (tickE lim p.2.E).map (fun E => (p.1, ({ p.2 with E := E } : Ent))) else some p) from by by_cases h2 : p.1 ∈ K <;> simp [h2, hp]]
      cases tickE lim e.E with
      | none =>
        simp only
        unfold mdel
        rw [List.filter_append]
        congr 1
        exact (List.filter_eq_self.2 (fun p0 h0 => by simpa using hhd p0 h0)).symm
      | some E =>
        simp only
        unfold upd
        rw [List.map_append]
        congr 1
        have : ∀ p0 ∈ (if p.1 ∈ K then (tickE lim p.2.E).map (fun E => (p.1, ({ p.2 with E := E } : Ent))) else some p).toList, (fun p : Int × Ent => if p.1 = tx then (p.1, { p.2 with E := E }) else p) p0 = id p0 := fun p0 h0 => if_neg (hhd p0 h0)
        rw [List.map_congr_left this, List.map_id]

def msgR (t : (Int × Int × Int) × Value) : List Value := [.int .i64 t.1.1, .int .i64 0, .int .i64 t.1.2.1, .int .i64 t.1.2.2, .bool false, t.2]

/-- Messages of any kind. -/
structure Out (w : World) (base : Nat) (v : Value) (ms : List (Int × Int × Int)) : Prop where
  is : ∃ T : List ((Int × Int × Int) × Value), OwnRecs w base 24 6 v (T.map msgR) ∧ T.map (·.1) = ms ∧ Slices (T.map (·.2))

theorem Out.nil (w : World) (base : Nat) : Out w base (.slice none 0 0) [] := ⟨[], OwnRecs.nil _ _ _ _, rfl, by intro p hp; simp at hp⟩

theorem Out.kept {base : Nat} {v : Value} {ms : List (Int × Int × Int)} (h : Out w base v ms) {S : Nat → Prop} (hc : Chg S w w') (hn : ∀ k, v.ownBlock = some k → ¬ S k) : Out w' base v ms := by
  obtain ⟨T, h1, h2⟩ := h.is
  exact ⟨T, h1.kept hc hn, h2⟩

/-- 'append(out, own...)' of messages. -/
theorem append_out {base base2 : Nat} {a b : Value} {ms : List (Int × Int × Int)} {kd tx : Int} {rs : List Int} (ha : Out w base a ms) (hb : Msgs w base2 b kd tx rs) (h1 : ms.length ≤ 100000) (h2 : rs.length ≤ 100000) (hbase : base ≤ w.heap.size) :
    ∃ v' w', (Builtin.append_ #[28, 28] 28 #[a, b]).run Try.prog w = .ok v' w' ∧ Out w' base v' (ms ++ rs.map (fun r => (kd, r, tx))) ∧ Chg (fun k => some k = a.ownBlock) w w' := by
  obtain ⟨i0, hI0⟩ := info_parts info_msg
  obtain ⟨A, ha1, ha2, ha3⟩ := ha.is
  obtain ⟨B, hb1, hb2, hb3⟩ := hb.is
  have hA : (A.map msgR).length ≤ 100000 := by have := congrArg List.length ha2; rw [List.length_map] at this ⊢; omega
  have hB : (B.map (msgP kd tx)).length ≤ 100000 := by have := congrArg List.length hb2; rw [List.length_map] at this ⊢; omega
  have hone : ∀ u ∈ (B.map (msgP kd tx)).flatten, u.oneCell' = true := by
    intro u hu
    obtain ⟨r, hr, hur⟩ := List.mem_flatten.1 hu
    obtain ⟨z, hz, rfl⟩ := List.mem_map.1 hr
    obtain ⟨oq, nq, cq, e⟩ := hb3 z.2 (List.mem_map_of_mem hz)
    simp only [msgP, List.mem_cons, List.not_mem_nil, or_false] at hur
    rcases hur with rfl | rfl | rfl | rfl | rfl | rfl <;> first | rfl | (rw [e]; rfl)
  obtain ⟨v', w', r1, r2, r3⟩ := run_append_recs (w := w) (base := base) (base2 := base2) 28 28 24 i0 (.agg (msgC 0 0 0 0 false).toArray) Try.underlying28 hI0.1 hI0.2.1 hI0.2.2.1 hI0.2.2.2 rfl (by decide) a b ha1.row hb1.row hone (by unfold maxLen; omega) (by omega) hbase
  have ho := OwnRecs.append r2 ha1.each hb1.each
  refine ⟨v', w', r1, ⟨A ++ B.map (fun t => ((kd, t.1, tx), t.2)), ?_, ?_, ?_⟩, r3⟩
  · rw [List.map_append, List.map_map]
    exact ho
  · rw [List.map_append, ha2, List.map_map, ← hb2, List.map_map]; rfl
  · intro p hp
    rw [List.map_append, List.map_map] at hp
    rcases List.mem_append.1 hp with h | h
    · exact ha3 p h
    · exact hb3 p h

theorem EntIs.putAge {x qa : Nat} {F : Nat → Prop} {E : EV} {pv : Value} (h : EntIs w x F E pv qa) : EntIs (w.setCell ⟨x, 1, none⟩ (.int .i64 (E.age + 1))) x F E.aged pv qa ∧ Chg (· = x) w (w.setCell ⟨x, 1, none⟩ (.int .i64 (E.age + 1))) := by
  have hc : Chg (· = x) w (w.setCell ⟨x, 1, none⟩ (.int .i64 (E.age + 1))) := Chg.setCell (S := (· = x)) (Chg.refl _ _) (fun _ => rfl) _
  refine ⟨⟨?_, h.plans.kept hc (fun g hg => (h.own_ne g hg).2), h.ans.kept hc (fun e => h.map_ne e.symm), h.fr, h.fq, h.fp, fun k hk => Nat.lt_of_lt_of_le (h.lt k hk) hc.size, h.ok, h.len, h.pkl, fun p hp => (h.pks p hp).kept hc (fun k hk e => hk.2.1 e)⟩, hc⟩
  rw [block_setCell h.head]; rfl

theorem tick_closure (w : World) {x qa : Nat} {F : Nat → Prop} {E : EV} {pv : Value} (h : EntIs w x F E pv qa) (g : Nat) (hg : w.cell? ⟨g, 0, none⟩ = some (.pointer (some ⟨x, 0, none⟩))) (r : Int) (hr : 1 ≤ r ∧ r ≤ 6) :
    Calls Try.prog 43 #[.int .i64 r, .pointer (some ⟨g, 0, none⟩)] w fun e w' => e = .returned (.bool (!(mget E.ans r).getD false)) ∧ w = w' := by
  have c3 : w.cell? ⟨x, 3, none⟩ = some (.map (some qa)) := cell_of_block h.head rfl
  have hlk := h.ans.look Try.underlying84 (zero_bool _) false r (WalkArith.wf_i64 (by omega))
  rw [lookRes_bool1] at hlk
  have hlk : (Instr.lookup 84 (.map (some qa)) (.int .i64 r) false).run Try.prog w = .ok (.bool ((mget E.ans r).getD false)) w := hlk
  clear h
  go_enter Try.func43, Try.ntmps43
  go_wp2_with fail
  go_ret
  exact ⟨rfl, rfl⟩

theorem lacks_filter (E : EV) : lacksOf E E.ps.length = E.ps.filter (fun r => !(mget E.ans r).getD false) := by
  unfold lacksOf; rw [List.take_length]

end Go.Proofs.Ytogjjkbgagedpaa.coordg
