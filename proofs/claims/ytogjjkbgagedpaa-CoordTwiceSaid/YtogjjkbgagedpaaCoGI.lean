/-
  coord, of any plans: Take of any message, as a function of what is known.
-/
import Derived.Test.YtogjjkbgagedpaaCoGH
namespace Go.Proofs.Ytogjjkbgagedpaa.coordg
open Go.RowKit Go.Maps Go.My Go.ChangeMaps coords
set_option maxRecDepth 100000

variable {w w' : World} {c q : Nat} {Fc : Nat → Prop} {lim : Int} {L : List (Int × Ent)}

/-- What comes of a message: messages (kind, to), a commit to be written down, one that is closed, one that is given up; and what is known then. -/
structure TK where
  ms : List (Int × Int)
  lg : Int
  cl : Int
  gn : Int
  L : List (Int × Ent)

def unkF (L : List (Int × Ent)) (kd f : Int) (y : Bool) : TK := if (kd = 2 ∧ y = true) ∨ kd = 6 then ⟨[(4, f)], 0, 0, 0, L⟩ else ⟨[], 0, 0, 0, L⟩
def knownF (L : List (Int × Ent)) (E : EV) (kd f tx : Int) (y : Bool) : TK :=
  if kd = 5 then
    if E.state = 3 then if lacksOf (E.yes f) E.ps.length = [] then ⟨[], 0, tx, 0, mdel L tx⟩ else ⟨[], 0, 0, 0, upd L tx (E.yes f)⟩
    else ⟨[], 0, 0, 0, L⟩
  else if kd = 2 ∧ E.state = 1 then
    if y = true then ⟨[], if lacksOf (E.yes f) E.ps.length = [] then tx else 0, 0, 0, upd L tx (E.voted f)⟩
    else ⟨(E.ps.filter (· != f)).map (fun r => (4, r)), 0, 0, tx, mdel L tx⟩
  else if E.state = 3 then ⟨[(3, f)], 0, 0, 0, L⟩ else ⟨[], 0, 0, 0, L⟩
def lookF (L : List (Int × Ent)) (kd f tx : Int) (y : Bool) : TK :=
  match mget L tx with
  | none => unkF L kd f y
  | some e => if f ∈ e.E.ps then knownF L e.E kd f tx y else unkF L kd f y
open Classical in
noncomputable def takeF (L : List (Int × Ent)) (kd f t tx : Int) (y : Bool) (n : Nat) : TK := if Up kd f t tx y n then lookF L kd f tx y else ⟨[], 0, 0, 0, L⟩

def msgQ (tx : Int) (t : (Int × Int) × Value) : List Value := [.int .i64 t.1.1, .int .i64 0, .int .i64 t.1.2, .int .i64 tx, .bool false, t.2]

/-- What a call said. -/
structure SaidOf (w : World) (v : Value) (tx : Int) (ms : List (Int × Int)) (lg cl gn : Int) : Prop where
  is : ∃ (oa : Option Addr) (cap : Nat) (T : List ((Int × Int) × Value)), v = .agg #[.slice oa T.length cap, .int .i64 lg, .int .i64 cl, .int .i64 gn] ∧ RowsAt w 6 oa (T.map (msgQ tx)) ∧ T.map (·.1) = ms ∧ Slices (T.map (·.2)) ∧ InF (fun b => ∃ cs fr, w.heap[b]? = some (.cells cs 24 fr)) oa T.length

theorem SaidOf.none (w : World) (tx lg cl gn : Int) : SaidOf w (.agg #[.slice Option.none 0 0, .int .i64 lg, .int .i64 cl, .int .i64 gn]) tx [] lg cl gn :=
  ⟨Option.none, 0, [], rfl, ⟨fun h => absurd rfl h, by simp, by simp⟩, rfl, by intro p hp; simp at hp, fun h => absurd rfl h⟩

theorem SaidOf.one {gm : Nat} {kd f tx : Int} (h : w.heap[gm]? = some (.cells (msgC kd 0 f tx false).toArray 24 (0, 0))) : SaidOf w (saidM gm) tx [(kd, f)] 0 0 0 := by
  refine ⟨some ⟨gm, 0, Option.none⟩, 1, [((kd, f), .slice Option.none 0 0)], rfl, ⟨fun _ => ⟨_, _, rfl⟩, fun i r hr => ?_, fun b off ho i r j v hi hj => ?_⟩, rfl, ?_, fun _ b off ho => by cases ho; exact ⟨_, _, h⟩⟩
  · match i, hr with
    | 0, hr => cases hr; rfl
    | i + 1, hr => simp at hr
  · cases ho
    match i, hi with
    | 0, hi =>
      cases hi
      refine cell_of_block h ?_
      show (msgC kd 0 f tx false).toArray[0 + 0 * 6 + j]? = some v
      rw [show 0 + 0 * 6 + j = j by omega]
      simpa [msgC, msgQ] using hj
    | i + 1, hi => simp at hi
  · intro p hp
    rw [List.mem_singleton.1 hp]
    exact ⟨_, _, _, rfl⟩

theorem SaidOf.many {base : Nat} {v : Value} {tx : Int} {rs : List Int} {kd lg cl gn : Int} (h : Msgs w base v kd tx rs) : SaidOf w (.agg #[v, .int .i64 lg, .int .i64 cl, .int .i64 gn]) tx (rs.map (fun r => (kd, r))) lg cl gn := by
  obtain ⟨T, ho, h1, h2⟩ := h.is
  obtain ⟨oa, cap, rfl, -⟩ := ho.slice
  rw [List.length_map]
  refine ⟨oa, cap, T.map (fun t => ((kd, t.1), t.2)), by rw [List.length_map], ?_, ?_, ?_, fun hne b off hb => ?_⟩
  · have := rows_of_own ho
    rw [List.map_map]
    exact this
  · rw [List.map_map, ← h1, List.map_map]; rfl
  · rw [List.map_map]; exact h2
  · subst hb
    rw [List.length_map] at hne
    obtain ⟨g, e1, -⟩ := ho.cell' (k := 0) (by rw [List.length_map]; omega)
    obtain ⟨cur, hc⟩ := row_obj ho.row (g := b) rfl
    exact ⟨_, _, hc⟩

theorem Unk.of_other (h : AllIs w c Fc lim q L) {tx f : Int} (ht : 1 ≤ tx ∧ tx ≤ 1099511627776) {e : Ent} (he : mget L tx = some e) (hf : f ∉ e.E.ps) : Unk w q tx f := by
  obtain ⟨pv, qa, hE⟩ := h.ents _ (mget_mem he)
  refine ⟨some ⟨e.x, 0, Option.none⟩, fun w' hc => ?_, fun w' hc => ?_⟩
  · have hlk := (h.co.mp.kept hc id).look Try.underlying71 (zero_ent _) false tx (WalkArith.wf_i64 (by omega))
    rw [mget_map, he] at hlk
    exact hlk
  · have := has_any w' (hE.fresh hc) f
    rw [decide_eq_false hf] at this
    exact this

theorem voted_ok {E : EV} {lim : Int} (h : EntOk E lim) (f : Int) : EntOk (E.voted f) lim := by
  unfold EV.voted EV.yes
  split
  · exact ⟨Or.inr (Or.inl rfl), h.age0, h.age1⟩
  · exact ⟨h.state, h.age0, h.age1⟩
theorem yes_ok {E : EV} {lim : Int} (h : EntOk E lim) (f : Int) : EntOk (E.yes f) lim := ⟨h.state, h.age0, h.age1⟩

theorem take_all (w : World) (h : AllIs w c Fc lim q L) (kd f t tx : Int) (y : Bool) (oa : Option Addr) (cap : Nat) (ps : List (List Value)) (hM : MsgOk w oa cap ps) :
    Calls Try.prog 13 #[ptrV c, .agg #[.int .i64 kd, .int .i64 f, .int .i64 t, .int .i64 tx, .bool y, .slice oa ps.length cap]] w fun e w' => ∃ v, e = .returned v ∧
      SaidOf w' v tx (takeF L kd f t tx y ps.length).ms (takeF L kd f t tx y ps.length).lg (takeF L kd f t tx y ps.length).cl (takeF L kd f t tx y ps.length).gn ∧ AllIs w' c Fc lim q (takeF L kd f t tx y ps.length).L ∧ Chg (Foot L Fc) w w' := by
  by_cases hu : Up kd f t tx y ps.length
  · have e1 : takeF L kd f t tx y ps.length = lookF L kd f tx y := by unfold takeF; rw [if_pos hu]
    rw [e1]
    obtain rfl := hu.to'
    have hp0 := hu.packs
    rw [hp0] at hu ⊢
    have htx := hu.txn
    have unk : Unk w q tx f → lookF L kd f tx y = unkF L kd f y → Calls Try.prog 13 #[ptrV c, .agg #[.int .i64 kd, .int .i64 f, .int .i64 0, .int .i64 tx, .bool y, .slice oa 0 cap]] w fun e w' => ∃ v, e = .returned v ∧
        SaidOf w' v tx (lookF L kd f tx y).ms (lookF L kd f tx y).lg (lookF L kd f tx y).cl (lookF L kd f tx y).gn ∧ AllIs w' c Fc lim q (lookF L kd f tx y).L ∧ Chg (Foot L Fc) w w' := by
      intro hU e2
      rw [e2]
      have hy := hu.yes
      by_cases hb : (kd = 2 ∧ y = true) ∨ kd = 6
      · unfold unkF
        rw [if_pos hb]
        refine (take_unk_back w h.co kd f tx y oa cap hu hU ?_).mono ?_
        · rcases hb with hb | hb
          · exact Or.inl hb
          · refine Or.inr ⟨hb, ?_⟩
            cases y with
            | false => rfl
            | true => exact absurd (hy rfl) (by omega)
        · rintro e w1 ⟨gm, rfl, hg, hc⟩
          exact ⟨_, rfl, SaidOf.one hg, h.fresh hc, hc.mono (fun _ _ h => h.elim)⟩
      · unfold unkF
        rw [if_neg hb]
        refine (take_unk_quiet w h.co kd f tx y oa cap hu hU ?_).mono ?_
        · have hk := hu.kind
          cases y with
          | false =>
            rcases hk with rfl | rfl | rfl
            · exact Or.inl ⟨rfl, rfl⟩
            · exact Or.inr ⟨rfl, rfl⟩
            · exact absurd (Or.inr rfl) hb
          | true => exact absurd (Or.inl ⟨hy rfl, rfl⟩) hb
        · rintro e w1 ⟨rfl, hc⟩
          exact ⟨_, rfl, SaidOf.none _ _ _ _ _, h.fresh hc, hc.mono (fun _ _ h => h.elim)⟩
    cases he : mget L tx with
    | none =>
      exact unk (Unk.of_none h.co htx (by rw [mget_map, he]; rfl)) (by unfold lookF; rw [he])
    | some e =>
      by_cases hf : f ∈ e.E.ps
      · have e2 : lookF L kd f tx y = knownF L e.E kd f tx y := by unfold lookF; rw [he]; exact if_pos hf
        rw [e2]
        clear e2 e1 unk
        obtain ⟨pv, qa, hE⟩ := h.ents _ (mget_mem he)
        have hK : Known w c q e.x qa e.F Fc lim (L.map fun p => (p.1, p.2.x)) e.E pv tx f := ⟨h.co, hE, by rw [mget_map, he]; rfl, hf, h.apart _ (mget_mem he)⟩
        have hok : EntOk e.E lim := h.ok _ (mget_mem he)
        have hy := hu.yes
        have hFoot : ∀ k, e.F k → Foot L Fc k := fun k hk => Or.inr ⟨_, mget_mem he, hk⟩
        rcases hu.kind with rfl | rfl | rfl
        · -- a vote
          by_cases h1 : e.E.state = 1
          · unfold knownF
            rw [if_neg (by decide), if_pos ⟨rfl, h1⟩]
            cases y with
            | true =>
              rw [if_pos rfl]
              refine (k_yes w f tx oa cap hK hu h1).mono ?_
              rintro e0 w1 ⟨rfl, hE1, hC1, hc⟩
              exact ⟨_, rfl, SaidOf.none _ _ _ _ _, h.upd he hE1 hC1 hc (fun k hk => Or.inr (Or.inl hk)) (voted_ok hok f), hc.mono (fun k _ hk => hFoot k hk)⟩
            | false =>
              rw [if_neg (by decide)]
              refine (k_no w f tx oa cap hK hu h1).mono ?_
              rintro e0 w1 ⟨v, rfl, hm, hC1, hc⟩
              exact ⟨_, rfl, SaidOf.many hm, h.del he hC1 hc (fun k hk => Or.inl hk), hc.mono (fun k _ hk => Or.inl hk)⟩
          · unfold knownF
            rw [if_neg (by decide), if_neg (fun hh => h1 hh.2)]
            by_cases h3 : e.E.state = 3
            · rw [if_pos h3]
              refine (k_commit2 w f tx oa cap hK y hu h3).mono ?_
              rintro e0 w1 ⟨gm, rfl, hg, hc⟩
              exact ⟨_, rfl, SaidOf.one hg, h.fresh hc, hc.mono (fun _ _ h => h.elim)⟩
            · rw [if_neg h3]
              refine (k_quiet2 w f tx oa cap hK y hu (by have := hok.state; omega)).mono ?_
              rintro e0 w1 ⟨rfl, hc⟩
              exact ⟨_, rfl, SaidOf.none _ _ _ _ _, h.fresh hc, hc.mono (fun _ _ h => h.elim)⟩
        · -- an acknowledgement
          have hyf : y = false := by
            cases y with
            | false => rfl
            | true => exact absurd (hy rfl) (by decide)
          subst hyf
          unfold knownF
          rw [if_pos rfl]
          by_cases h3 : e.E.state = 3
          · rw [if_pos h3]
            refine (k_ack w f tx oa cap hK hu h3).mono ?_
            rintro e0 w1 ⟨rfl, hE1, hC1, hc⟩
            by_cases hl : lacksOf (e.E.yes f) e.E.ps.length = []
            · rw [if_pos hl] at hC1 ⊢
              rw [if_pos hl]
              exact ⟨_, rfl, SaidOf.none _ _ _ _ _, h.del he hC1 hc (fun k hk => hk.elim (fun h => Or.inr (Or.inl h)) Or.inl), hc.mono (fun k _ hk => hk.elim (hFoot k) Or.inl)⟩
            · rw [if_neg hl] at hC1 ⊢
              rw [if_neg hl]
              exact ⟨_, rfl, SaidOf.none _ _ _ _ _, h.upd he hE1 hC1 hc (fun k hk => hk.elim (fun h => Or.inr (Or.inl h)) Or.inl) (yes_ok hok f), hc.mono (fun k _ hk => hk.elim (hFoot k) Or.inl)⟩
          · rw [if_neg h3]
            refine (k_ackno w f tx oa cap hK hu (by have := hok.state; omega)).mono ?_
            rintro e0 w1 ⟨rfl, hc⟩
            exact ⟨_, rfl, SaidOf.none _ _ _ _ _, h.fresh hc, hc.mono (fun _ _ h => h.elim)⟩
        · -- an ask
          have hyf : y = false := by
            cases y with
            | false => rfl
            | true => exact absurd (hy rfl) (by decide)
          subst hyf
          unfold knownF
          rw [if_neg (by decide), if_neg (fun hh => absurd hh.1 (by decide))]
          by_cases h3 : e.E.state = 3
          · rw [if_pos h3]
            refine (k_commit6 w f tx oa cap hK hu h3).mono ?_
            rintro e0 w1 ⟨gm, rfl, hg, hc⟩
            exact ⟨_, rfl, SaidOf.one hg, h.fresh hc, hc.mono (fun _ _ h => h.elim)⟩
          · rw [if_neg h3]
            refine (k_quiet6 w f tx oa cap hK hu (by have := hok.state; omega)).mono ?_
            rintro e0 w1 ⟨rfl, hc⟩
            exact ⟨_, rfl, SaidOf.none _ _ _ _ _, h.fresh hc, hc.mono (fun _ _ h => h.elim)⟩
      · exact unk (Unk.of_other h htx he hf) (by unfold lookF; rw [he]; exact if_neg hf)
  · have e1 : takeF L kd f t tx y ps.length = ⟨[], 0, 0, 0, L⟩ := by unfold takeF; rw [if_neg hu]
    rw [e1]
    refine (take_bad w h.co kd f t tx y oa cap ps hM hu).mono ?_
    rintro e w1 ⟨rfl, hc⟩
    exact ⟨_, rfl, SaidOf.none _ _ _ _ _, h.fresh hc, hc.mono (fun _ _ h => h.elim)⟩

end Go.Proofs.Ytogjjkbgagedpaa.coordg
