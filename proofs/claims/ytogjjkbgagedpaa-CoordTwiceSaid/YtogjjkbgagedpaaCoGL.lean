/-
  coord, of any plans: Sure, Quit, State, Lacks.
-/
import Derived.Test.YtogjjkbgagedpaaCoGK
namespace Go.Proofs.Ytogjjkbgagedpaa.coordg
open Go.RowKit Go.Maps Go.My Go.ChangeMaps coords
set_option maxRecDepth 100000

variable {w w' : World} {c q : Nat} {Fc : Nat → Prop} {lim : Int} {L : List (Int × Ent)}

theorem AllIs.looks (h : AllIs w c Fc lim q L) {tx : Int} (ht : inR tx) : (Instr.lookup 71 (.map (some q)) (.int .i64 tx) false).run Try.prog w = .ok (.pointer ((mget L tx).map (fun e => ⟨e.x, 0, none⟩))) w := by
  have hlk := h.co.mp.look Try.underlying71 (zero_ent _) false tx (inR_wf ht)
  rw [mget_map] at hlk
  cases he : mget L tx with
  | none => rw [he] at hlk; exact hlk
  | some e => rw [he] at hlk; exact hlk

theorem state_all (w : World) (h : AllIs w c Fc lim q L) (tx : Int) (ht : inR tx) :
    Calls Try.prog 15 #[ptrV c, .int .i64 tx] w fun e w' => e = .returned (.int .i64 (((mget L tx).map (·.E.state)).getD 0)) ∧ w = w' := by
  have c1 : w.cell? ⟨c, 1, none⟩ = some (.map (some q)) := cell_of_block h.co.head rfl
  have hlk := h.looks ht
  have HNo := Lib.hid (none_no w h.co)
  cases he : mget L tx with
  | none =>
    rw [he] at hlk
    have hlk : (Instr.lookup 71 (.map (some q)) (.int .i64 tx) false).run Try.prog w = .ok (.pointer none) w := hlk
    clear h he
    unfold ptrV
    go_enter Try.func15, Try.ntmps15
    go_wp2_with (first
      | (go_at_call 34; refine HNo.out.mono ?_; rintro e w1 ⟨rfl, rfl⟩))
    go_ret
    exact ⟨rfl, rfl⟩
  | some e =>
    rw [he] at hlk
    have hlk : (Instr.lookup 71 (.map (some q)) (.int .i64 tx) false).run Try.prog w = .ok (.pointer (some ⟨e.x, 0, none⟩)) w := hlk
    obtain ⟨pv, qa, hE⟩ := h.ents _ (mget_mem he)
    have s0 : w.cell? ⟨e.x, 0, none⟩ = some (.int .i64 e.E.state) := cell_of_block hE.head rfl
    clear h he hE
    unfold ptrV
    go_enter Try.func15, Try.ntmps15
    go_wp2_with (first
      | (go_at_call 34; refine HNo.out.mono ?_; rintro e w1 ⟨rfl, rfl⟩))
    go_ret
    exact ⟨rfl, rfl⟩

def updF (L : List (Int × Ent)) (tx : Int) (E : EV) (F : Nat → Prop) : List (Int × Ent) := L.map (fun p => if p.1 = tx then (p.1, { p.2 with E := E, F := F }) else p)

theorem updF_keys (L : List (Int × Ent)) (tx : Int) (E : EV) (F : Nat → Prop) : (updF L tx E F).map (·.1) = L.map (·.1) := by
  unfold updF; rw [List.map_map]; apply List.map_congr_left; intro p _; simp only [Function.comp]; split <;> rfl
theorem updF_xs (L : List (Int × Ent)) (tx : Int) (E : EV) (F : Nat → Prop) : (updF L tx E F).map (fun p => (p.1, p.2.x)) = L.map (fun p => (p.1, p.2.x)) := by
  unfold updF; rw [List.map_map]; apply List.map_congr_left; intro p _; simp only [Function.comp]; split <;> rfl
theorem updF_mem {L : List (Int × Ent)} {tx : Int} {E : EV} {F : Nat → Prop} {p : Int × Ent} (h : p ∈ updF L tx E F) : ∃ p0 ∈ L, p.1 = p0.1 ∧ p.2.x = p0.2.x ∧ (p0.1 ≠ tx → p = p0) ∧ (p0.1 = tx → p.2.E = E ∧ p.2.F = F) := by
  obtain ⟨p0, h0, rfl⟩ := List.mem_map.1 h
  refine ⟨p0, h0, ?_⟩
  by_cases e : p0.1 = tx
  · simp [e]
  · simp [e]

/-- An entry turns, and has more memory. -/
theorem AllIs.updF (h : AllIs w c Fc lim q L) {tx : Int} {e : Ent} (he : mget L tx = some e) {E' : EV} {F' : Nat → Prop} {pv : Value} {qa : Nat} (hE : EntIs w' e.x F' E' pv qa) (hF : ∀ k, F' k → e.F k ∨ w.heap.size ≤ k) (hco : CoIs w' c Fc lim (L.map fun p => (p.1, p.2.x)) q) {S : Nat → Prop} (hc : Chg S w w') (hs : ∀ k, S k → Fc k ∨ e.F k ∨ ¬ Foot L Fc k) (hok : EntOk E' lim) : AllIs w' c Fc lim q (coordg.updF L tx E' F') := by
  have hmem := mget_mem he
  have huniq : ∀ p0 ∈ L, p0.1 = tx → p0 = (tx, e) := fun p0 h0 e0 => by
    have h6 := mem_mget h.nodup (show (tx, p0.2) ∈ L by rw [← e0]; exact h0)
    rw [he] at h6
    cases h6
    rw [← e0]
  have hfoot : ∀ k, F' k → (e.F k ∨ ¬ Foot L Fc k) := fun k hk => (hF k hk).imp id (fun h1 hf => by have := h.foot k hf; omega)
  refine ⟨?_, fun p hp => ?_, fun p hp k hk => ?_, fun p hp p' hp' hne k hk hk' => ?_, by rw [updF_keys]; exact h.nodup, fun p hp => ?_, fun p hp => ?_, h.lim1, h.lim2⟩
  · rw [updF_xs]; exact hco
  · obtain ⟨p0, h0, h1, h3, h4, h5⟩ := updF_mem hp
    by_cases e0 : p0.1 = tx
    · rw [h3, (h5 e0).1, (h5 e0).2, huniq p0 h0 e0]
      exact ⟨pv, qa, hE⟩
    · rw [h4 e0]
      obtain ⟨pv0, qa0, hE0⟩ := h.ents p0 h0
      refine ⟨pv0, qa0, hE0.kept hc (fun k hk hS => ?_)⟩
      rcases hs k hS with h1 | h1 | h1
      · exact h.apart _ h0 k hk h1
      · exact h.apart2 _ h0 _ hmem e0 k hk h1
      · exact h1 (Or.inr ⟨p0, h0, hk⟩)
  · obtain ⟨p0, h0, h1, h3, h4, h5⟩ := updF_mem hp
    by_cases e0 : p0.1 = tx
    · rw [(h5 e0).2] at hk
      rcases hfoot k hk with h6 | h6
      · exact h.apart _ hmem k h6
      · exact fun hc => h6 (Or.inl hc)
    · rw [h4 e0] at hk
      exact h.apart p0 h0 k hk
  · obtain ⟨p0, h0, h1, h3, h4, h5⟩ := updF_mem hp
    obtain ⟨p0', h0', h1', h3', h4', h5'⟩ := updF_mem hp'
    by_cases e0 : p0.1 = tx
    · have e0' : p0'.1 ≠ tx := fun e1 => hne (by rw [h1, h1', e0, e1])
      rw [(h5 e0).2] at hk
      rw [h4' e0'] at hk'
      rcases hfoot k hk with h6 | h6
      · exact h.apart2 _ hmem p0' h0' (fun e1 => e0' e1.symm) k h6 hk'
      · exact h6 (Or.inr ⟨p0', h0', hk'⟩)
    · rw [h4 e0] at hk
      by_cases e0' : p0'.1 = tx
      · rw [(h5' e0').2] at hk'
        rcases hfoot k hk' with h6 | h6
        · exact h.apart2 p0 h0 _ hmem e0 k hk h6
        · exact h6 (Or.inr ⟨p0, h0, hk⟩)
      · rw [h4' e0'] at hk'
        exact h.apart2 p0 h0 p0' h0' (by rw [← h1, ← h1']; exact hne) k hk hk'
  · obtain ⟨p0, h0, h1, -⟩ := updF_mem hp
    rw [h1]; exact h.txn p0 h0
  · obtain ⟨p0, h0, h1, h3, h4, h5⟩ := updF_mem hp
    by_cases e0 : p0.1 = tx
    · rw [(h5 e0).1]; exact hok
    · rw [h4 e0]; exact h.ok p0 h0

theorem foot_updF {tx : Int} {e : Ent} (he : mget L tx = some e) {E' : EV} {F' : Nat → Prop} {B : Nat} (hF : ∀ k, F' k → e.F k ∨ B ≤ k) : ∀ b, Foot (updF L tx E' F') Fc b → Foot L Fc b ∨ B ≤ b := by
  rintro b (hb | ⟨p, hp, hb⟩)
  · exact Or.inl (Or.inl hb)
  · obtain ⟨p0, h0, h1, h3, h4, h5⟩ := updF_mem hp
    by_cases e0 : p0.1 = tx
    · rw [(h5 e0).2] at hb
      exact (hF b hb).imp (fun h => Or.inr ⟨_, mget_mem he, h⟩) id
    · rw [h4 e0] at hb
      exact Or.inl (Or.inr ⟨p0, h0, hb⟩)

theorem filter_true (l : List Int) : l.filter (fun _ => true) = l := List.filter_eq_self.2 (fun _ _ => rfl)

/-- What Sure does: it is told to all, or it is refused. -/
inductive SureR (L : List (Int × Ent)) (tx : Int) : Int → List (Int × Int × Int) → List (Int × Ent) → Prop
  | no : (∀ e, mget L tx = some e → e.E.state ≠ 2) → SureR L tx 11 [] L
  | yes (e : Ent) (F' : Nat → Prop) : mget L tx = some e → e.E.state = 2 → SureR L tx 0 (e.E.ps.map (fun r => (3, r, tx))) (updF L tx { e.E with state := 3, ans := [] } F')

theorem Out.of_msgs {base : Nat} {v : Value} {kd tx : Int} {rs : List Int} (h : Msgs w base v kd tx rs) : Out w base v (rs.map (fun r => (kd, r, tx))) := by
  obtain ⟨T, h1, h2, h3⟩ := h.is
  refine ⟨T.map (fun t => ((kd, t.1, tx), t.2)), ?_, ?_, ?_⟩
  · rw [List.map_map]; exact h1
  · rw [List.map_map, ← h2, List.map_map]; rfl
  · rw [List.map_map]; exact h3

theorem Out.weaken {base base' : Nat} {v : Value} {ms : List (Int × Int × Int)} (h : Out w base v ms) (hb : base' ≤ base) : Out w base' v ms := by
  obtain ⟨T, h1, h2⟩ := h.is
  exact ⟨T, OwnRecs.weaken h1 hb, h2⟩

set_option maxHeartbeats 1000000 in
theorem sure_all (w : World) (h : AllIs w c Fc lim q L) (tx : Int) (ht : inR tx) :
    Calls Try.prog 25 #[ptrV c, .int .i64 tx] w fun e w' => ∃ v n ms L', e = .returned (.tuple #[v, .int .i64 n]) ∧ Out w' w.heap.size v ms ∧ SureR L tx n ms L' ∧ AllIs w' c Fc lim q L' ∧ (∀ b, Foot L' Fc b → Foot L Fc b ∨ w.heap.size ≤ b) ∧ Chg (Foot L Fc) w w' := by
  have c1 : w.cell? ⟨c, 1, none⟩ = some (.map (some q)) := cell_of_block h.co.head rfl
  have hlk := h.looks ht
  have HNo := Lib.hid (none_no w h.co)
  have H := Lib.hid h
  clear h
  cases he : mget L tx with
  | none =>
    rw [he] at hlk
    have hlk : (Instr.lookup 71 (.map (some q)) (.int .i64 tx) false).run Try.prog w = .ok (.pointer none) w := hlk
    have HE := Lib.hid he
    clear he
    unfold ptrV
    go_enter Try.func25, Try.ntmps25
    go_wp2_with (first
      | (go_at_call 34; refine HNo.out.mono ?_; rintro e w1 ⟨rfl, rfl⟩))
    go_ret2
    exact ⟨_, _, _, _, rfl, Out.nil _ _, SureR.no (fun e h1 => by rw [HE.out] at h1; cases h1), H.out, fun _ h => Or.inl h, Chg.refl _ _⟩
  | some e =>
    rw [he] at hlk
    have hlk : (Instr.lookup 71 (.map (some q)) (.int .i64 tx) false).run Try.prog w = .ok (.pointer (some ⟨e.x, 0, none⟩)) w := hlk
    obtain ⟨pv, qa, hE⟩ := H.out.ents _ (mget_mem he)
    have hE : EntIs w e.x e.F e.E pv qa := hE
    have HE := Lib.hid he
    by_cases hs : e.E.state = 2
    · have hmm := @run_makeMap Try.prog
      have s0 : w.cell? ⟨e.x, 0, none⟩ = some (.int .i64 2) := by rw [← hs]; exact cell_of_block hE.head rfl
      have hxlt := hE.lt e.x hE.fr
      have ha := (Chg.refl (fun _ => False) w).alloc (.map #[] 0)
      have hh1 := ha.at hE.head id
      have z0 : (w.alloc (.map #[] 0)).frozen? ⟨e.x, 0, none⟩ = false := free_of_block hh1
      have s1 : (w.alloc (.map #[] 0)).cell? ⟨e.x, 0, none⟩ = some (.int .i64 e.E.state) := cell_of_block hh1 rfl
      have hh2 := block_setCell (i := 0) (v := .int .i64 3) hh1
      have z3 : ((w.alloc (.map #[] 0)).setCell ⟨e.x, 0, none⟩ (.int .i64 3)).frozen? ⟨e.x, 3, none⟩ = false := free_of_block hh2
      have s3 : ((w.alloc (.map #[] 0)).setCell ⟨e.x, 0, none⟩ (.int .i64 3)).cell? ⟨e.x, 3, none⟩ = some (.map (some qa)) := cell_of_block hh2 rfl
      have s4 : w.cell? ⟨e.x, 3, none⟩ = some (.map (some qa)) := cell_of_block hE.head rfl
      have s5 : (w.alloc (.map #[] 0)).cell? ⟨e.x, 3, none⟩ = some (.map (some qa)) := cell_of_block hh1 rfl
      have z4 : w.frozen? ⟨e.x, 3, none⟩ = false := free_of_block hE.head
      have z5 : (w.alloc (.map #[] 0)).frozen? ⟨e.x, 3, none⟩ = false := free_of_block hh1
      have z6 : w.frozen? ⟨e.x, 0, none⟩ = false := free_of_block hE.head
      have hh4 := block_setCell (i := 3) (v := .map (some w.heap.size)) (block_setCell (i := 0) (v := .int .i64 3) hE.head)
      obtain ⟨w3, hw3⟩ : ∃ w3, ((w.setCell ⟨e.x, 0, none⟩ (.int .i64 3)).setCell ⟨e.x, 3, none⟩ (.map (some w.heap.size))).alloc (.map #[] 0) = w3 := ⟨_, rfl⟩
      have hc3 : Chg (· = e.x) w w3 := by rw [← hw3]; exact ((Chg.setCell (S := (· = e.x)) (Chg.refl _ _) (fun _ => rfl) _).setCell (fun _ => rfl) _).alloc _
      have hh3 : w3.heap[e.x]? = some (.cells #[.int .i64 3, .int .i64 e.E.age, pv, .map (some w.heap.size)] 86 (0, 0)) := by
        rw [← hw3, heap_alloc_get, if_neg (by simp only [World.size_setCell]; omega), hh4]; rfl
      have hmap : w3.heap[w.heap.size]? = some (.map #[] 0) := by
        rw [← hw3, heap_alloc_get, if_pos (by simp only [World.size_setCell])]
      have hE3 : EntIs w3 e.x (fun k => e.F k ∨ k = w.heap.size) { e.E with state := 3, ans := [] } pv w.heap.size :=
        ⟨hh3, hE.plans.kept hc3 (fun g hg => (hE.own_ne g hg).2), MapIs.made (clock := 0) _ _ hmap, Or.inl hE.fr, Or.inr rfl, fun g hg => Or.inl (hE.fp g hg), fun k hk => by
          have := hc3.size
          rcases hk with hk | hk
          · have := hE.lt k hk; omega
          · have h4 := lt_of_block hmap; omega, hE.ok, hE.len, hE.pkl, fun p hp => ((hE.pks p hp).kept hc3 (fun k hk e1 => hk.2.1 e1)).wide (fun k hk => ⟨Or.inl hk.1, hk.2.1, fun e1 => by have := hE.lt k hk.1; omega⟩)⟩
      have HE3 := Lib.hid hE3
      have HC3 := Lib.hid (H.out.co.kept hc3 (fun k hk e1 => H.out.apart _ (mget_mem he) k (by rw [e1]; exact hE.fr) hk))
      have HCw := Lib.hid hc3
      have HW3 := Lib.hid hw3
      have HS := Lib.hid hs
      have HFr := Lib.hid hE.fr
      clear hE he hs ha hh1 hh2 hh3 hh4 hc3 hmap hE3 hw3
      unfold ptrV
      go_enter Try.func25, Try.ntmps25
      go_wp2_with (first
        | (go_at_call 34; refine HNo.out.mono ?_; rintro e w1 ⟨rfl, rfl⟩)
        | (go_at_call 32; rw [HW3.out]; refine (all_each _ HE3.out 3 tx (fun _ => true) (fun wr _ r _ => each_any wr r)).mono ?_; rintro e w4 ⟨v, rfl, ho, hc4⟩; have HO := Lib.hid ho; have HC4 := Lib.hid hc4; clear ho hc4))
      go_ret2
      have ho := Out.of_msgs HO.out
      rw [filter_true] at ho
      refine ⟨_, _, _, _, rfl, ho.weaken HCw.out.size, SureR.yes e (fun k => e.F k ∨ k = w.heap.size) HE.out HS.out, ?_, foot_updF HE.out (fun k hk => hk.imp id (fun e1 => by omega)), (HCw.out.mono (fun k _ e1 => Or.inr ⟨_, mget_mem HE.out, by rw [e1]; exact HFr.out⟩)).trans' (HC4.out.mono (fun _ _ h => h.elim))⟩
      refine H.out.updF HE.out (HE3.out.fresh HC4.out) (fun k hk => hk.imp id (fun e1 => by omega)) (HC3.out.fresh HC4.out) (HCw.out.trans' (HC4.out.mono (fun _ _ h => h.elim))) (fun k e1 => Or.inr (Or.inl (by rw [e1]; exact HFr.out))) ⟨Or.inr (Or.inr rfl), (H.out.ok _ (mget_mem HE.out)).age0, (H.out.ok _ (mget_mem HE.out)).age1⟩
    · have hsb : (e.E.state == 2) = false := by simp [hs]
      have s0 : w.cell? ⟨e.x, 0, none⟩ = some (.int .i64 e.E.state) := cell_of_block hE.head rfl
      have HS := Lib.hid hs
      clear hE he hs
      unfold ptrV
      go_enter Try.func25, Try.ntmps25
      go_wp2_with (first
        | (go_at_call 34; refine HNo.out.mono ?_; rintro e w1 ⟨rfl, rfl⟩))
      go_ret2
      exact ⟨_, _, _, _, rfl, Out.nil _ _, SureR.no (fun e h1 => by rw [HE.out] at h1; cases h1; exact HS.out), H.out, fun _ h => Or.inl h, Chg.refl _ _⟩

end Go.Proofs.Ytogjjkbgagedpaa.coordg
