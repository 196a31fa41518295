/-
  CoordAll: the plain law: what becomes of one open transaction, and what is heard of it.
-/
import Derived.Test.YtogjjkbgagedpaaCoGN
namespace Go.Proofs.Ytogjjkbgagedpaa.coordg
open Go.RowKit Go.Maps Go.My Go.ChangeMaps coords
set_option maxRecDepth 100000

structure Open1 (n : Nat) (S : Bool) (yes : List Int) (e : Ent) : Prop where
  ps : e.E.ps = upto n
  st : e.E.state = 3 ↔ S = true
  ans : e.E.state = 1 → ∀ r, (mget e.E.ans r).getD false = true → r ∈ yes

/-- What is known, and was heard. -/
inductive PSt (n : Nat) (S : Bool) (yes : List Int) (ab : Int) : List (Int × Ent) → Prop
  | opn (e : Ent) : Open1 n S yes e → ab = 0 → PSt n S yes ab [(1, e)]
  | gone : (S = true → ab = 0) → PSt n S yes ab []

theorem Open1.wide {n : Nat} {S : Bool} {yes yes' : List Int} {e : Ent} (h : Open1 n S yes e) (hy : ∀ r ∈ yes, r ∈ yes') : Open1 n S yes' e := ⟨h.ps, h.st, fun h1 r hr => hy r (h.ans h1 r hr)⟩

def at1 (tx : Int) (ms : List (Int × Int)) : List (Int × Int × Int) := ms.map (fun m => (m.1, m.2, tx))

/-- What one step does to what is known, and how many commits and aborts it tells. -/
structure Step (n : Nat) (S : Bool) (yes : List Int) (ms : List (Int × Int × Int)) (L : List (Int × Ent)) : Prop where
  next : (∃ e, L = [(1, e)] ∧ Open1 n S yes e ∧ cA n ms = 0) ∨ (L = [] ∧ (S = true → cA n ms = 0))
  early : S = false → cC ms = 0
  len : ms.length ≤ 6

theorem Step.pst {n : Nat} {S : Bool} {yes : List Int} {ms : List (Int × Int × Int)} {L : List (Int × Ent)} (h : Step n S yes ms L) {ab : Int} (hab : ab = 0) : PSt n S yes (ab + cA n ms) L := by
  rcases h.next with ⟨e, rfl, h1, h2⟩ | ⟨rfl, h1⟩
  · exact PSt.opn e h1 (by omega)
  · exact PSt.gone (fun hs => by have := h1 hs; omega)

theorem cA_of {n : Int} {ms : List (Int × Int × Int)} (h : ∀ m ∈ ms, m.1 = 4 → ¬ m.2.1 ≤ n) : cA n ms = 0 := by
  unfold cA
  rw [List.filter_eq_nil_iff.2]
  · rfl
  · intro m hm
    simp only [Bool.and_eq_true, beq_iff_eq, decide_eq_true_eq]
    exact fun h1 => h m hm h1.1 h1.2

theorem cC_of {ms : List (Int × Int × Int)} (h : ∀ m ∈ ms, m.1 ≠ 3) : cC ms = 0 := by
  unfold cC
  rw [List.filter_eq_nil_iff.2]
  · rfl
  · intro m hm
    simp only [beq_iff_eq]
    exact h m hm

theorem mget_one (e : Ent) : mget [((1 : Int), e)] 1 = some e := rfl
theorem mdel_one (e : Ent) : mdel [((1 : Int), e)] 1 = [] := rfl
theorem upd_one (e : Ent) (E : EV) : upd [((1 : Int), e)] 1 E = [(1, { e with E := E })] := rfl
theorem updF_one (e : Ent) (E : EV) (F : Nat → Prop) : updF [((1 : Int), e)] 1 E F = [(1, { e with E := E, F := F })] := rfl

theorem upto_le {n : Nat} {r : Int} : r ∈ upto n ↔ 1 ≤ r ∧ r ≤ n := upto_mem

theorem take_step {n : Nat} {S : Bool} {yes yes' : List Int} {e : Ent} (h : Open1 n S yes e) (hn : n ≤ 6) (kd f t : Int) (y : Bool) (k : Nat) (hy : ∀ r ∈ yes, r ∈ yes') (hf : kd = 2 → y = true → t = 0 → f ∈ yes') (hok : e.E.state = 1 ∨ e.E.state = 2 ∨ e.E.state = 3) :
    Step n S yes' (at1 1 (takeF [(1, e)] kd f t 1 y k).ms) (takeF [(1, e)] kd f t 1 y k).L ∧ ((takeF [(1, e)] kd f t 1 y k).lg ≠ 0 → ∀ r ∈ upto n, r ∈ yes') := by
  have h' := h.wide hy
  have quiet : Step n S yes' (at1 1 []) [(1, e)] := ⟨Or.inl ⟨e, rfl, h', rfl⟩, fun _ => rfl, Nat.zero_le _⟩
  unfold takeF
  by_cases hu : Up kd f t 1 y k
  · rw [if_pos hu]
    have ht := hu.to'
    have hfr := hu.from'
    unfold lookF
    rw [mget_one]
    dsimp only
    by_cases hps : f ∈ e.E.ps
    · rw [if_pos hps]
      have hle : 1 ≤ f ∧ f ≤ n := upto_le.1 (by rw [← h.ps]; exact hps)
      unfold knownF
      by_cases k5 : kd = 5
      · rw [if_pos k5]
        by_cases h3 : e.E.state = 3
        · rw [if_pos h3]
          by_cases hl : lacksOf (e.E.yes f) e.E.ps.length = []
          · rw [if_pos hl]
            exact ⟨⟨Or.inr ⟨mdel_one e, fun _ => rfl⟩, fun _ => rfl, Nat.zero_le _⟩, fun h0 => absurd rfl h0⟩
          · rw [if_neg hl]
            refine ⟨⟨Or.inl ⟨_, upd_one e _, ⟨h.ps, h.st, fun h1 => ?_⟩, rfl⟩, fun _ => rfl, Nat.zero_le _⟩, fun h0 => absurd rfl h0⟩
            exact absurd (show e.E.state = 1 from h1) (by omega)
        · rw [if_neg h3]
          exact ⟨quiet, fun h0 => absurd rfl h0⟩
      · rw [if_neg k5]
        by_cases k2 : kd = 2 ∧ e.E.state = 1
        · rw [if_pos k2]
          have hS : S = false := by
            cases S with
            | false => rfl
            | true => have := h.st.2 rfl; omega
          by_cases hyt : y = true
          · rw [if_pos hyt]
            have hmem := hf k2.1 hyt ht
            have hans : ∀ r, (mget (e.E.yes f).ans r).getD false = true → r ∈ yes' := by
              intro r hr
              unfold EV.yes at hr
              simp only at hr
              rw [mget_mput] at hr
              by_cases hrf : r = f
              · rw [hrf]; exact hmem
              · rw [if_neg hrf] at hr
                exact hy r (h.ans k2.2 r hr)
            refine ⟨⟨Or.inl ⟨_, upd_one e _, ?_, rfl⟩, fun _ => rfl, Nat.zero_le _⟩, fun h0 r hr => ?_⟩
            · unfold EV.voted
              split
              · exact ⟨h.ps, ⟨fun h1 => absurd (show (2 : Int) = 3 from h1) (by decide), fun h1 => by rw [hS] at h1; cases h1⟩, fun h1 => absurd (show (2 : Int) = 1 from h1) (by decide)⟩
              · exact ⟨h.ps, h.st, fun _ => hans⟩
            · by_cases hl : lacksOf (e.E.yes f) e.E.ps.length = []
              · have h1 : r ∈ e.E.ps := by rw [h.ps]; exact hr
                have h2 : r ∉ lacksOf (e.E.yes f) e.E.ps.length := by rw [hl]; simp
                apply hans
                cases hg : (mget (e.E.yes f).ans r).getD false with
                | true => rfl
                | false =>
                  exfalso
                  apply h2
                  rw [show e.E.ps.length = (e.E.yes f).ps.length from rfl, lacks_filter]
                  exact List.mem_filter.2 ⟨h1, by rw [hg]; rfl⟩
              · simp only [if_neg hl] at h0
                exact absurd rfl h0
          · rw [if_neg hyt]
            refine ⟨⟨Or.inr ⟨mdel_one e, fun h1 => by rw [hS] at h1; cases h1⟩, fun _ => cC_of (fun m hm => ?_), ?_⟩, fun h0 => absurd rfl h0⟩
            · obtain ⟨m0, h0, rfl⟩ := List.mem_map.1 hm
              obtain ⟨r, -, rfl⟩ := List.mem_map.1 h0
              show (4 : Int) ≠ 3
              decide
            · unfold at1
              rw [List.length_map, List.length_map]
              refine Nat.le_trans (List.length_filter_le _ _) ?_
              rw [h.ps, upto_len]; exact hn
        · rw [if_neg k2]
          by_cases h3 : e.E.state = 3
          · rw [if_pos h3]
            refine ⟨⟨Or.inl ⟨e, rfl, h', cA_of (fun m hm => ?_)⟩, fun hS => ?_, by unfold at1; simp⟩, fun h0 => absurd rfl h0⟩
            · simp only [at1, List.map_cons, List.map_nil, List.mem_singleton] at hm
              rw [hm]; intro h4; exact absurd (show (3 : Int) = 4 from h4) (by decide)
            · have := h.st.1 h3; rw [hS] at this; cases this
          · rw [if_neg h3]
            exact ⟨quiet, fun h0 => absurd rfl h0⟩
    · rw [if_neg hps]
      unfold unkF
      by_cases hb : (kd = 2 ∧ y = true) ∨ kd = 6
      · rw [if_pos hb]
        refine ⟨⟨Or.inl ⟨e, rfl, h', cA_of (fun m hm => ?_)⟩, fun _ => cC_of (fun m hm => ?_), by unfold at1; simp⟩, fun h0 => absurd rfl h0⟩
        · simp only [at1, List.map_cons, List.map_nil, List.mem_singleton] at hm
          rw [hm]
          intro _ h5
          exact hps (by rw [h.ps]; exact upto_le.2 ⟨hfr.1, h5⟩)
        · simp only [at1, List.map_cons, List.map_nil, List.mem_singleton] at hm
          rw [hm]; show (4 : Int) ≠ 3; decide
      · rw [if_neg hb]
        exact ⟨quiet, fun h0 => absurd rfl h0⟩
  · rw [if_neg hu]
    exact ⟨quiet, fun h0 => absurd rfl h0⟩

theorem all_len {n : Nat} {S : Bool} {yes : List Int} {e : Ent} (h : Open1 n S yes e) (hn : n ≤ 6) (k : Int) : (e.E.ps.map (fun r => (k, r, (1 : Int)))).length ≤ 6 := by
  rw [List.length_map, h.ps, upto_len]; exact hn

theorem kind_of {k : Int} {l : List Int} : ∀ m ∈ l.map (fun r => (k, r, (1 : Int))), m.1 = k := by
  intro m hm
  obtain ⟨r, -, rfl⟩ := List.mem_map.1 hm
  rfl

theorem sure_step {n : Nat} {S : Bool} {yes : List Int} {e : Ent} (h : Open1 n S yes e) (hn : n ≤ 6) {nn : Int} {ms : List (Int × Int × Int)} {L : List (Int × Ent)} (hr : SureR [(1, e)] 1 nn ms L) : (nn = 0 ∨ nn = 11) ∧ Step n (S || decide (nn = 0)) yes ms L := by
  cases hr with
  | no h1 => exact ⟨Or.inr rfl, by rw [show (S || decide ((11 : Int) = 0)) = S by simp]; exact ⟨Or.inl ⟨e, rfl, h, rfl⟩, fun _ => rfl, Nat.zero_le _⟩⟩
  | yes e0 F' h1 h2 =>
    rw [mget_one] at h1
    cases h1
    refine ⟨Or.inl rfl, ?_⟩
    rw [show (S || decide ((0 : Int) = 0)) = true by simp]
    refine ⟨Or.inl ⟨_, updF_one e _ _, ⟨h.ps, ⟨fun _ => rfl, fun _ => rfl⟩, fun h3 => absurd (show (3 : Int) = 1 from h3) (by decide)⟩, cA_of (fun m hm h4 => ?_)⟩, fun h3 => by simp at h3, all_len h hn 3⟩
    have := kind_of m hm
    omega

theorem quit_step {n : Nat} {S : Bool} {yes : List Int} {e : Ent} (h : Open1 n S yes e) (hn : n ≤ 6) {nn : Int} {ms : List (Int × Int × Int)} {L : List (Int × Ent)} (hr : QuitR [(1, e)] 1 nn ms L) : Step n S yes ms L := by
  cases hr with
  | no h1 => exact ⟨Or.inl ⟨e, rfl, h, rfl⟩, fun _ => rfl, Nat.zero_le _⟩
  | yes e0 h1 h2 =>
    rw [mget_one] at h1
    cases h1
    refine ⟨Or.inr ⟨mdel_one e, fun h3 => absurd (h.st.2 h3) h2⟩, fun _ => cC_of (fun m hm => ?_), all_len h hn 4⟩
    have := kind_of m hm
    omega

theorem asc_one : asc [1] = [1] := List.mergeSort_of_pairwise (by simp)

theorem tick_step {n : Nat} {S : Bool} {yes : List Int} {e : Ent} (h : Open1 n S yes e) (hn : n ≤ 6) (lim : Int) : Step n S yes ((asc ([((1 : Int), e)].map (·.1))).flatMap (tickA lim [(1, e)])) (tickK lim ([((1 : Int), e)].map (·.1)) [(1, e)]) := by
  have hll : (lacksOf e.E e.E.ps.length).length ≤ 6 := by rw [lacks_filter]; exact Nat.le_trans (List.length_filter_le _ _) (by rw [h.ps, upto_len]; exact hn)
  rw [show [((1 : Int), e)].map (·.1) = [1] from rfl, asc_one]
  rw [show [(1 : Int)].flatMap (tickA lim [(1, e)]) = tickM lim 1 e.E from by simp [tickA, mget_one]]
  have hK : tickK lim [1] [(1, e)] = match tickE lim e.E with | none => [] | some E => [(1, { e with E := E })] := by
    unfold tickK
    simp only [List.filterMap_cons, List.filterMap_nil, List.mem_singleton, if_true]
    cases tickE lim e.E <;> rfl
  rw [hK]
  unfold tickM tickE
  by_cases h1 : e.E.state = 1
  · have hS : S = false := by
      cases S with
      | false => rfl
      | true => have := h.st.2 rfl; omega
    simp only [if_pos h1]
    by_cases ho : lim ≤ e.E.age + 1
    · simp only [if_pos ho]
      refine ⟨Or.inr ⟨rfl, fun h3 => by rw [hS] at h3; cases h3⟩, fun _ => cC_of (fun m hm => ?_), all_len h hn 4⟩
      have := kind_of m hm
      omega
    · simp only [if_neg ho]
      refine ⟨Or.inl ⟨_, rfl, ⟨h.ps, h.st, h.ans⟩, cA_of (fun m hm h4 => ?_)⟩, fun _ => cC_of (fun m hm => ?_), by rw [List.length_map]; exact hll⟩
      · have := kind_of m hm; omega
      · have := kind_of m hm; omega
  · simp only [if_neg h1]
    by_cases h3 : e.E.state = 3
    · simp only [if_pos h3]
      refine ⟨Or.inl ⟨_, rfl, h, cA_of (fun m hm h4 => ?_)⟩, fun hS => ?_, by rw [List.length_map]; exact hll⟩
      · have := kind_of m hm; omega
      · have := h.st.1 h3; rw [hS] at this; cases this
    · simp only [if_neg h3]
      exact ⟨Or.inl ⟨_, rfl, h, rfl⟩, fun _ => rfl, Nat.zero_le _⟩

/-- What a message turns has no more memory than there was. -/
theorem foot_take {Fc : Nat → Prop} {L : List (Int × Ent)} (kd f t tx : Int) (y : Bool) (k : Nat) : ∀ b, Foot (takeF L kd f t tx y k).L Fc b → Foot L Fc b := by
  have hd : ∀ b, Foot (mdel L tx) Fc b → Foot L Fc b := by
    rintro b (hb | ⟨p, hp, hb⟩)
    · exact Or.inl hb
    · exact Or.inr ⟨p, mdel_mem hp, hb⟩
  have hu : ∀ E b, Foot (upd L tx E) Fc b → Foot L Fc b := by
    rintro E b (hb | ⟨p, hp, hb⟩)
    · exact Or.inl hb
    · obtain ⟨p0, h0, -, h2, -⟩ := upd_mem hp
      exact Or.inr ⟨p0, h0, by rw [← h2]; exact hb⟩
  intro b
  unfold takeF
  split
  · unfold lookF
    split
    · unfold unkF; split <;> exact id
    · split
      · unfold knownF
        split
        · split
          · split
            · exact hd b
            · exact hu _ b
          · exact id
        · split
          · split
            · exact hu _ b
            · exact hd b
          · split <;> exact id
      · unfold unkF; split <;> exact id
  · exact id

theorem foot_del {Fc : Nat → Prop} {L : List (Int × Ent)} {tx : Int} : ∀ b, Foot (mdel L tx) Fc b → Foot L Fc b := by
  rintro b (hb | ⟨p, hp, hb⟩)
  · exact Or.inl hb
  · exact Or.inr ⟨p, mdel_mem hp, hb⟩

theorem foot_quit {Fc : Nat → Prop} {L L' : List (Int × Ent)} {tx nn : Int} {ms : List (Int × Int × Int)} (h : QuitR L tx nn ms L') : ∀ b, Foot L' Fc b → Foot L Fc b := by
  cases h with
  | no _ => exact fun _ h => h
  | yes _ _ _ => exact foot_del

end Go.Proofs.Ytogjjkbgagedpaa.coordg
