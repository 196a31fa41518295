/-
  coord, of any plans: Quit, Lacks; a coordinator that begins with plans without packages.
-/
import Derived.Test.YtogjjkbgagedpaaCoGL
namespace Go.Proofs.Ytogjjkbgagedpaa.coordg
open Go.RowKit Go.Maps Go.My Go.ChangeMaps coords
set_option maxRecDepth 100000

variable {w w' : World} {c q : Nat} {Fc : Nat → Prop} {lim : Int} {L : List (Int × Ent)}

inductive QuitR (L : List (Int × Ent)) (tx : Int) : Int → List (Int × Int × Int) → List (Int × Ent) → Prop
  | no : (∀ e, mget L tx = some e → e.E.state = 3) → QuitR L tx 11 [] L
  | yes (e : Ent) : mget L tx = some e → e.E.state ≠ 3 → QuitR L tx 0 (e.E.ps.map (fun r => (4, r, tx))) (mdel L tx)

set_option maxHeartbeats 1000000 in
theorem quit_all (w : World) (h : AllIs w c Fc lim q L) (tx : Int) (ht : inR tx) :
    Calls Try.prog 30 #[ptrV c, .int .i64 tx] w fun e w' => ∃ v n ms L', e = .returned (.tuple #[v, .int .i64 n]) ∧ Out w' w.heap.size v ms ∧ QuitR L tx n ms L' ∧ AllIs w' c Fc lim q L' ∧ Chg (Foot L Fc) w w' := by
  have c1 : w.cell? ⟨c, 1, none⟩ = some (.map (some q)) := cell_of_block h.co.head rfl
  have hlk := h.looks ht
  have HNo := Lib.hid (none_no w h.co)
  have H := Lib.hid h
  clear h
  cases he : mget L tx with
  | none =>
    rw [he] at hlk
    have hlk : (Instr.lookup 71 (.map (some q)) (.int .i64 tx) false).run Try.prog w = .ok (.pointer none) w := hlk
    have HE := Lib.hid he
    clear he
    unfold ptrV
    go_enter Try.func30, Try.ntmps30
    go_wp2_with (first
      | (go_at_call 34; refine HNo.out.mono ?_; rintro e w1 ⟨rfl, rfl⟩))
    go_ret2
    exact ⟨_, _, _, _, rfl, Out.nil _ _, QuitR.no (fun e h1 => by rw [HE.out] at h1; cases h1), H.out, Chg.refl _ _⟩
  | some e =>
    rw [he] at hlk
    have hlk : (Instr.lookup 71 (.map (some q)) (.int .i64 tx) false).run Try.prog w = .ok (.pointer (some ⟨e.x, 0, none⟩)) w := hlk
    obtain ⟨pv, qa, hE⟩ := H.out.ents _ (mget_mem he)
    have hE : EntIs w e.x e.F e.E pv qa := hE
    have HE := Lib.hid he
    by_cases hs : e.E.state = 3
    · have s0 : w.cell? ⟨e.x, 0, none⟩ = some (.int .i64 3) := by rw [← hs]; exact cell_of_block hE.head rfl
      have HS := Lib.hid hs
      clear hE he hs
      unfold ptrV
      go_enter Try.func30, Try.ntmps30
      go_wp2_with (first
        | (go_at_call 34; refine HNo.out.mono ?_; rintro e w1 ⟨rfl, rfl⟩))
      go_ret2
      exact ⟨_, _, _, _, rfl, Out.nil _ _, QuitR.no (fun e h1 => by rw [HE.out] at h1; cases h1; exact HS.out), H.out, Chg.refl _ _⟩
    · have hsb : (e.E.state == 3) = false := by simp [hs]
      have s0 : w.cell? ⟨e.x, 0, none⟩ = some (.int .i64 e.E.state) := cell_of_block hE.head rfl
      obtain ⟨ob, hdl, hmd⟩ := H.out.co.mp.del Try.underlying71 tx (inR_wf ht) 0
      have hdl : (Builtin.delete_ #[71, 3] 0 #[.map (some q), .int .i64 tx]).run Try.prog w = .ok (.tuple #[]) (setBlock w q ob) := hdl
      have hcd : Chg (· = q) w (setBlock w q ob) := Chg.setBlock (S := (· = q)) (Chg.refl _ _) (fun _ => rfl) _
      have hhd := hcd.at H.out.co.head H.out.co.cq
      have HCo := Lib.hid (show CoIs (setBlock w q ob) c Fc lim (mdel (L.map fun p => (p.1, p.2.x)) tx) q from ⟨hhd, hmd, H.out.co.fc, H.out.co.fq, fun k hk => Nat.lt_of_lt_of_le (H.out.co.lt k hk) hcd.size⟩)
      have HEq := Lib.hid (hE.kept hcd (fun k hk e1 => H.out.apart _ (mget_mem he) k hk (by rw [e1]; exact H.out.co.fq)))
      have HCd := Lib.hid hcd
      have HS := Lib.hid hs
      clear hE he hs hmd hcd hhd
      unfold ptrV
      go_enter Try.func30, Try.ntmps30
      go_wp2_with (first
        | (go_at_call 34; refine HNo.out.mono ?_; rintro e w1 ⟨rfl, rfl⟩)
        | (go_at_call 32; refine (all_each _ HEq.out 4 tx (fun _ => true) (fun wr _ r _ => each_any wr r)).mono ?_; rintro e w4 ⟨v, rfl, ho, hc4⟩; have HO := Lib.hid ho; have HC4 := Lib.hid hc4; clear ho hc4))
      go_ret2
      have ho := Out.of_msgs HO.out
      rw [filter_true] at ho
      exact ⟨_, _, _, _, rfl, ho.weaken HCd.out.size, QuitR.yes e HE.out HS.out, H.out.del HE.out (HCo.out.fresh HC4.out) (HCd.out.trans' (HC4.out.mono (fun _ _ h => h.elim))) (fun k e1 => Or.inl (by rw [e1]; exact H.out.co.fq)), (HCd.out.mono (fun k _ e1 => Or.inl (by rw [e1]; exact H.out.co.fq))).trans' (HC4.out.mono (fun _ _ h => h.elim))⟩

theorem lacks_all (w : World) (h : AllIs w c Fc lim q L) (tx : Int) (ht : inR tx) :
    Calls Try.prog 26 #[ptrV c, .int .i64 tx] w fun e w' => ∃ v n, e = .returned v ∧ w'.ownsRow w.heap.size 3 1 v n ((match mget L tx with | none => [] | some e => if e.E.state = 2 then [] else lacksOf e.E e.E.ps.length).map (Value.int .i64)) ∧ Chg (fun _ => False) w w' := by
  have hnil : ∀ w' : World, w'.ownsRow w.heap.size 3 1 (.slice none 0 0) 0 (([] : List Int).map (Value.int .i64)) := fun w' => World.ownsRow_nil _ _ _ _
  have c1 : w.cell? ⟨c, 1, none⟩ = some (.map (some q)) := cell_of_block h.co.head rfl
  have hlk := h.looks ht
  have HNo := Lib.hid (none_no w h.co)
  have H := Lib.hid h
  have HNil := Lib.hid hnil
  clear h hnil
  cases he : mget L tx with
  | none =>
    rw [he] at hlk
    have hlk : (Instr.lookup 71 (.map (some q)) (.int .i64 tx) false).run Try.prog w = .ok (.pointer none) w := hlk
    clear he
    unfold ptrV
    go_enter Try.func26, Try.ntmps26
    go_wp2_with (first
      | (go_at_call 34; refine HNo.out.mono ?_; rintro e w1 ⟨rfl, rfl⟩))
    go_ret
    exact ⟨_, _, rfl, HNil.out _, Chg.refl _ _⟩
  | some e =>
    rw [he] at hlk
    have hlk : (Instr.lookup 71 (.map (some q)) (.int .i64 tx) false).run Try.prog w = .ok (.pointer (some ⟨e.x, 0, none⟩)) w := hlk
    obtain ⟨pv, qa, hE⟩ := H.out.ents _ (mget_mem he)
    have hE : EntIs w e.x e.F e.E pv qa := hE
    have s0 : w.cell? ⟨e.x, 0, none⟩ = some (.int .i64 e.E.state) := cell_of_block hE.head rfl
    have HEn := Lib.hid hE
    clear hE he
    dsimp only
    by_cases hs : e.E.state = 2
    · have hsb : (e.E.state == 2) = true := by simp [hs]
      rw [if_pos hs]
      clear hs
      unfold ptrV
      go_enter Try.func26, Try.ntmps26
      go_wp2_with (first
        | (go_at_call 34; refine HNo.out.mono ?_; rintro e w1 ⟨rfl, rfl⟩))
      go_ret
      exact ⟨_, _, rfl, HNil.out _, Chg.refl _ _⟩
    · have hsb : (e.E.state == 2) = false := by simp [hs]
      rw [if_neg hs]
      clear hs
      unfold ptrV
      go_enter Try.func26, Try.ntmps26
      go_wp2_with (first
        | (go_at_call 34; refine HNo.out.mono ?_; rintro e w1 ⟨rfl, rfl⟩)
        | (go_at_call 44; refine (lacks_any _ HEn.out).mono ?_; rintro e0 w1 ⟨v, rfl, ho, hc⟩; have HO := Lib.hid ho; have HC := Lib.hid hc; clear ho hc))
      go_ret
      exact ⟨_, _, rfl, HO.out, HC.out⟩

/-- An entry without packages. -/
theorem EntIs.of_plain {x qa : Nat} {F : Nat → Prop} {E : coords.EV} {pv : Value} (h : coords.EntIs w x F E pv qa) : EntIs w x F ⟨E.state, E.age, E.ps, List.replicate E.ps.length (.slice none 0 0), E.ans⟩ pv qa := by
  refine ⟨h.head, ?_, h.ans, h.fr, h.fq, h.fp, h.lt, h.ok, h.len, by simp, fun p hp => ?_⟩
  · have : ∀ l : List Int, List.zipWith planG l (List.replicate l.length (.slice none 0 0)) = l.map coords.planC := by
      intro l
      induction l with
      | nil => rfl
      | cons a l ih => simp only [List.length_cons, List.replicate_succ, List.zipWith_cons_cons, ih, List.map_cons]; rfl
    show OwnRecs w 0 _ 2 pv (List.zipWith planG E.ps (List.replicate E.ps.length (.slice none 0 0)))
    rw [this]
    exact h.plans
  · rw [(List.mem_replicate.1 hp).2]
    exact PkOk.none _ _

end Go.Proofs.Ytogjjkbgagedpaa.coordg
