/-
  CoordTwice: the plain law: a message taken twice in a row changes no more, and says at most one message back.
-/
import Derived.Test.YtogjjkbgagedpaaCoGT
import Derived.Test.YtogjjkbgagedpaaCoGR
namespace Go.Proofs.Ytogjjkbgagedpaa.coordg
open Go.RowKit Go.Maps Go.My Go.ChangeMaps coords
set_option maxRecDepth 100000

def stateAt (L : List (Int × Ent)) (tx : Int) : Int := ((mget L tx).map (·.E.state)).getD 0
def lacksAt (L : List (Int × Ent)) (tx : Int) : List Int := match mget L tx with | none => [] | some e => if e.E.state = 2 then [] else lacksOf e.E e.E.ps.length

theorem yes_yes (E : EV) (f : Int) (n : Nat) : lacksOf ((E.yes f).yes f) n = lacksOf (E.yes f) n := by
  unfold lacksOf
  apply List.filter_congr
  intro r _
  show (!(mget (mput (mput E.ans f true) f true) r).getD false) = (!(mget (mput E.ans f true) r).getD false)
  rw [mget_mput, mget_mput]
  by_cases h : r = f <;> simp [h]

/-- Nothing more is said but at most one message to its sender, and no more is changed. -/
structure Twice (T : TK) (L1 : List (Int × Ent)) (f tx : Int) : Prop where
  lg : T.lg = 0
  cl : T.cl = 0
  gn : T.gn = 0
  ms : T.ms = [] ∨ ∃ k, T.ms = [(k, f)]
  keys : (T.L.map fun p => (p.1, p.2.x)) = L1.map fun p => (p.1, p.2.x)
  st : stateAt T.L tx = stateAt L1 tx
  lk : lacksAt T.L tx = lacksAt L1 tx

theorem twice_unk (L : List (Int × Ent)) (kd f tx : Int) (y : Bool) : Twice (unkF L kd f y) L f tx := by
  unfold unkF
  split
  · exact ⟨rfl, rfl, rfl, Or.inr ⟨4, rfl⟩, rfl, rfl, rfl⟩
  · exact ⟨rfl, rfl, rfl, Or.inl rfl, rfl, rfl, rfl⟩

theorem twice_none {L : List (Int × Ent)} {kd f tx : Int} {y : Bool} (h : mget L tx = none) : Twice (lookF L kd f tx y) L f tx := by
  unfold lookF
  rw [h]
  exact twice_unk L kd f tx y

theorem twice_upd {L : List (Int × Ent)} {e : Ent} {f tx : Int} {E1 E2 : EV} (hm : mget L tx = some e) (hs : E2.state = E1.state) (hl : lacksOf E2 E2.ps.length = lacksOf E1 E1.ps.length) :
    Twice ⟨[], 0, 0, 0, upd (upd L tx E1) tx E2⟩ (upd L tx E1) f tx := by
  have g1 : mget (upd L tx E1) tx = some { e with E := E1 } := by rw [upd_get, if_pos rfl, hm]; rfl
  have g2 : mget (upd (upd L tx E1) tx E2) tx = some { e with E := E2 } := by rw [upd_get, if_pos rfl, g1]; rfl
  refine ⟨rfl, rfl, rfl, Or.inl rfl, upd_xs _ _ _, ?_, ?_⟩
  · show stateAt (upd (upd L tx E1) tx E2) tx = stateAt (upd L tx E1) tx
    unfold stateAt; rw [g1, g2]; exact hs
  · show lacksAt (upd (upd L tx E1) tx E2) tx = lacksAt (upd L tx E1) tx
    unfold lacksAt; rw [g1, g2]
    show (if E2.state = 2 then [] else lacksOf E2 E2.ps.length) = (if E1.state = 2 then [] else lacksOf E1 E1.ps.length)
    rw [hs, hl]

theorem twice_known (L : List (Int × Ent)) (e : Ent) (kd f tx : Int) (y : Bool) (hm : mget L tx = some e) (hf : f ∈ e.E.ps) :
    Twice (lookF (knownF L e.E kd f tx y).L kd f tx y) (knownF L e.E kd f tx y).L f tx := by
  have hsame : lookF L kd f tx y = knownF L e.E kd f tx y := by unfold lookF; rw [hm]; simp only [if_pos hf]
  have hdel : Twice (lookF (mdel L tx) kd f tx y) (mdel L tx) f tx := twice_none (by rw [mget_mdel, if_pos rfl])
  have hup : ∀ E' : EV, E'.ps = e.E.ps → lookF (upd L tx E') kd f tx y = knownF (upd L tx E') E' kd f tx y := fun E' hp => by
    unfold lookF
    rw [upd_get, if_pos rfl, hm]
    show (if f ∈ E'.ps then _ else _) = _
    rw [hp, if_pos hf]
  by_cases h5 : kd = 5
  · by_cases h3 : e.E.state = 3
    · by_cases hl : lacksOf (e.E.yes f) e.E.ps.length = []
      · have e1 : knownF L e.E kd f tx y = ⟨[], 0, tx, 0, mdel L tx⟩ := by unfold knownF; rw [if_pos h5, if_pos h3, if_pos hl]
        rw [e1]; exact hdel
      · have e1 : knownF L e.E kd f tx y = ⟨[], 0, 0, 0, upd L tx (e.E.yes f)⟩ := by unfold knownF; rw [if_pos h5, if_pos h3, if_neg hl]
        rw [e1]
        show Twice (lookF (upd L tx (e.E.yes f)) kd f tx y) (upd L tx (e.E.yes f)) f tx
        rw [hup (e.E.yes f) rfl]
        have e2 : knownF (upd L tx (e.E.yes f)) (e.E.yes f) kd f tx y = ⟨[], 0, 0, 0, upd (upd L tx (e.E.yes f)) tx ((e.E.yes f).yes f)⟩ := by
          unfold knownF
          rw [if_pos h5, if_pos (show (e.E.yes f).state = 3 from h3), if_neg (show ¬ lacksOf ((e.E.yes f).yes f) (e.E.yes f).ps.length = [] from by rw [yes_yes]; exact hl)]
        rw [e2]
        exact twice_upd hm rfl (yes_yes _ _ _)
    · have e1 : knownF L e.E kd f tx y = ⟨[], 0, 0, 0, L⟩ := by unfold knownF; rw [if_pos h5, if_neg h3]
      rw [e1]
      show Twice (lookF L kd f tx y) L f tx
      rw [hsame, e1]
      exact ⟨rfl, rfl, rfl, Or.inl rfl, rfl, rfl, rfl⟩
  · by_cases h2 : kd = 2 ∧ e.E.state = 1
    · cases y with
      | false =>
        have e1 : (knownF L e.E kd f tx false).L = mdel L tx := by unfold knownF; rw [if_neg h5, if_pos h2, if_neg (by simp)]
        rw [e1]; exact hdel
      | true =>
        have e1 : (knownF L e.E kd f tx true).L = upd L tx (e.E.voted f) := by unfold knownF; rw [if_neg h5, if_pos h2, if_pos rfl]
        rw [e1]
        by_cases hl : lacksOf (e.E.yes f) e.E.ps.length = []
        · have ev : e.E.voted f = { e.E.yes f with state := 2 } := by unfold EV.voted; exact if_pos hl
          rw [hup (e.E.voted f) (by rw [ev]; rfl), ev]
          have e2 : knownF (upd L tx { e.E.yes f with state := 2 }) { e.E.yes f with state := 2 } kd f tx true = ⟨[], 0, 0, 0, upd L tx { e.E.yes f with state := 2 }⟩ := by
            unfold knownF
            rw [if_neg h5, if_neg (by simp), if_neg (by simp)]
          rw [e2]
          exact ⟨rfl, rfl, rfl, Or.inl rfl, rfl, rfl, rfl⟩
        · have ev : e.E.voted f = e.E.yes f := by unfold EV.voted; exact if_neg hl
          have hl2 : ¬ lacksOf ((e.E.yes f).yes f) (e.E.yes f).ps.length = [] := by rw [yes_yes]; exact hl
          rw [hup (e.E.voted f) (by rw [ev]; rfl), ev]
          have e2 : knownF (upd L tx (e.E.yes f)) (e.E.yes f) kd f tx true = ⟨[], 0, 0, 0, upd (upd L tx (e.E.yes f)) tx ((e.E.yes f).yes f)⟩ := by
            unfold knownF
            rw [if_neg h5, if_pos (show kd = 2 ∧ (e.E.yes f).state = 1 from h2), if_pos rfl, if_neg hl2, show (e.E.yes f).voted f = (e.E.yes f).yes f from by unfold EV.voted; exact if_neg hl2]
          rw [e2]
          exact twice_upd hm rfl (yes_yes _ _ _)
    · by_cases h3 : e.E.state = 3
      · have e1 : knownF L e.E kd f tx y = ⟨[(3, f)], 0, 0, 0, L⟩ := by unfold knownF; rw [if_neg h5, if_neg h2, if_pos h3]
        rw [e1]
        show Twice (lookF L kd f tx y) L f tx
        rw [hsame, e1]
        exact ⟨rfl, rfl, rfl, Or.inr ⟨3, rfl⟩, rfl, rfl, rfl⟩
      · have e1 : knownF L e.E kd f tx y = ⟨[], 0, 0, 0, L⟩ := by unfold knownF; rw [if_neg h5, if_neg h2, if_neg h3]
        rw [e1]
        show Twice (lookF L kd f tx y) L f tx
        rw [hsame, e1]
        exact ⟨rfl, rfl, rfl, Or.inl rfl, rfl, rfl, rfl⟩

theorem twice (L : List (Int × Ent)) (kd f t tx : Int) (y : Bool) (n : Nat) : Twice (takeF (takeF L kd f t tx y n).L kd f t tx y n) (takeF L kd f t tx y n).L f tx := by
  by_cases hu : Up kd f t tx y n
  · have e1 : ∀ L, takeF L kd f t tx y n = lookF L kd f tx y := fun L => by unfold takeF; rw [if_pos hu]
    rw [e1 L, e1]
    cases hm : mget L tx with
    | none =>
      have e2 : lookF L kd f tx y = unkF L kd f y := by unfold lookF; rw [hm]
      have e3 : (unkF L kd f y).L = L := by unfold unkF; split <;> rfl
      rw [e2, e3, e2]
      exact twice_unk L kd f tx y
    | some e =>
      by_cases hf : f ∈ e.E.ps
      · have e2 : lookF L kd f tx y = knownF L e.E kd f tx y := by unfold lookF; rw [hm]; simp only [if_pos hf]
        rw [e2]
        exact twice_known L e kd f tx y hm hf
      · have e2 : lookF L kd f tx y = unkF L kd f y := by unfold lookF; rw [hm]; simp only [if_neg hf]
        have e3 : (unkF L kd f y).L = L := by unfold unkF; split <;> rfl
        rw [e2, e3, e2]
        exact twice_unk L kd f tx y
  · have e1 : ∀ L, takeF L kd f t tx y n = ⟨[], 0, 0, 0, L⟩ := fun L => by unfold takeF; rw [if_neg hu]
    rw [e1 L, e1]
    exact ⟨rfl, rfl, rfl, Or.inl rfl, rfl, rfl, rfl⟩

end Go.Proofs.Ytogjjkbgagedpaa.coordg
