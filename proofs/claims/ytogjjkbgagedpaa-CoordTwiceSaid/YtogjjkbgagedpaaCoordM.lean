/-
  coord's laws: In; the plain law of acknowledgements.
-/
import Derived.Test.YtogjjkbgagedpaaCoordL
namespace Go.Proofs.Ytogjjkbgagedpaa.coords
open Go.RowKit Go.Maps Go.My Go.ChangeMaps
set_option maxRecDepth 100000

variable {w w' : World}

theorem in_any (w : World) {base : Nat} {v : Value} {zs : List Int} (h : w.ownsRow base 3 1 v zs.length (zs.map (Value.int .i64))) (hl : zs.length ≤ 1000) (z : Int) :
    Calls Try.prog 23 #[v, .int .i64 z] w fun e w' => e = .returned (.bool (decide (z ∈ zs))) ∧ w = w' := by
  obtain ⟨oa, cap, rfl⟩ := own_slice h
  have H := Lib.hid h
  clear h
  go_enter Try.func23, Try.ntmps23
  go_wp2_with fail
  go_loopw [5] (fun j wr => ∃ k : Nat, j = .int .i64 k ∧ k ≤ zs.length ∧ (∀ (i : Nat) r, i < k → zs[i]? = some r → r ≠ z) ∧ w = wr) (fun j _ => zs.length - (intOf j).toNat)
  · exact ⟨0, rfl, Nat.zero_le _, by intro i r h; omega, rfl⟩
  obtain ⟨k, rfl, hk, hno, rfl⟩ := hrel
  have HNo := Lib.hid hno
  clear hno
  by_cases hlt : k < zs.length
  · have hki : (k : Int) < (zs.length : Int) := by omega
    obtain ⟨g, r, rfl, hr, hc⟩ : ∃ g r, oa = some ⟨g, 0, none⟩ ∧ zs[k]? = some r ∧ w.cell? ⟨g, k, none⟩ = some (.int .i64 r) := by
      rcases H.out.2 with ⟨e1, h0⟩ | ⟨g, cap', cur, e1, -⟩
      · omega
      · have e2 := e1
        simp only [Value.slice.injEq] at e1
        obtain ⟨rfl, -, -⟩ := e1
        obtain ⟨hx, h1, -⟩ := own_cell H.out hlt
        exact ⟨g, zs[k], rfl, List.getElem?_eq_getElem hlt, by rw [h1, List.getElem_map]⟩
    have Hr := Lib.hid hr
    clear hr
    by_cases he : r = z
    · have heb : (r == z) = true := by simp [he]
      have hin : decide (z ∈ zs) = true := by rw [decide_eq_true_eq, ← he]; exact List.mem_of_getElem? Hr.out
      have HIn := Lib.hid hin
      clear he hin
      go_wp2_with fail
      go_ret
      exact ⟨by rw [HIn.out]; rfl, rfl⟩
    · have heb : (r == z) = false := by simp [he]
      have HNe := Lib.hid he
      clear he
      go_wp2_with fail
      refine ⟨⟨k + 1, by go_num, hlt, fun i r' hi hr' => ?_, trivial⟩, meas_step hlt⟩
      rcases Nat.lt_or_ge i k with h | h
      · exact HNo.out i r' h hr'
      · have : i = k := by omega
        subst this
        rw [Hr.out] at hr'
        cases hr'; exact HNe.out
  · have hki : ¬ (k : Int) < (zs.length : Int) := by omega
    have hin : decide (z ∈ zs) = false := by
      rw [decide_eq_false_iff_not]
      intro h
      obtain ⟨i, hi⟩ := List.getElem?_of_mem h
      exact HNo.out i z (by have := (List.getElem?_eq_some_iff.1 hi).1; omega) hi rfl
    have HIn := Lib.hid hin
    clear hin
    go_wp2_with fail
    go_ret
    exact ⟨by rw [HIn.out]; rfl, rfl⟩

/-- The roots 1 to n. -/
def upto (n : Nat) : List Int := (List.range n).map (fun i : Nat => (i : Int) + 1)
theorem upto_len (n : Nat) : (upto n).length = n := by simp [upto]
theorem upto_succ (n : Nat) : upto (n + 1) = upto n ++ [(n : Int) + 1] := by simp [upto, List.range_succ]
theorem upto_mem {n : Nat} {z : Int} : z ∈ upto n ↔ 1 ≤ z ∧ z ≤ n := by
  simp only [upto, List.mem_map, List.mem_range]
  constructor
  · rintro ⟨i, hi, rfl⟩; omega
  · rintro ⟨h1, h2⟩; exact ⟨(z - 1).toNat, by omega, by omega⟩
theorem upto_get {n k : Nat} {r : Int} (h : (upto n)[k]? = some r) : r = (k : Int) + 1 ∧ k < n := by
  obtain ⟨hk, rfl⟩ := List.getElem?_eq_some_iff.1 h
  rw [upto_len] at hk
  simp [upto, hk]
theorem upto_nodup (n : Nat) : (upto n).Nodup := by
  unfold List.Nodup upto
  rw [List.pairwise_map]
  exact List.nodup_range.imp (fun h e => h (by omega))
theorem good_upto {n : Nat} (h1 : 1 ≤ n) (h6 : n ≤ 6) : Good (upto n) := by
  refine ⟨fun e => ?_, by rw [upto_len]; exact h6, fun k r h => ?_, fun r hr => by rw [upto_mem] at hr; omega⟩
  · have := congrArg List.length e; rw [upto_len] at this; simp at this; omega
  · obtain ⟨rfl, hk⟩ := upto_get h
    refine ⟨?_, by omega⟩
    cases k with
    | zero => simp [lastOf]
    | succ k =>
      have hk' : k < (upto n).length := by rw [upto_len]; omega
      have h2 := upto_get (List.getElem?_eq_getElem hk')
      simp only [lastOf, List.getElem?_eq_getElem hk', Option.getD_some]
      omega

/-- Who acknowledged, as the law's list has it. -/
structure Acks (n : Nat) (ans : List (Int × Bool)) (l : List Int) : Prop where
  nd : l.Nodup
  sub : ∀ r ∈ l, 1 ≤ r ∧ r ≤ n
  iff : ∀ r, (mget ans r).getD false = true ↔ r ∈ l

theorem Acks.nil (n : Nat) : Acks n [] [] := ⟨List.nodup_nil, by simp, by simp [mget]⟩

theorem Acks.again {n : Nat} {ans : List (Int × Bool)} {l : List Int} (h : Acks n ans l) {r : Int} (hr : r ∈ l) : Acks n (mput ans r true) l := by
  refine ⟨h.nd, h.sub, fun s => ?_⟩
  rw [mget_mput]
  by_cases e : s = r
  · rw [if_pos e, e]; simp [hr]
  · rw [if_neg e]; exact h.iff s

theorem Acks.add {n : Nat} {ans : List (Int × Bool)} {l : List Int} (h : Acks n ans l) {r : Int} (hr : r ∉ l) (h1 : 1 ≤ r ∧ r ≤ n) : Acks n (mput ans r true) (l ++ [r]) := by
  refine ⟨?_, fun s hs => ?_, fun s => ?_⟩
  · rw [List.nodup_append]
    exact ⟨h.nd, by simp, by intro a ha b hb; rw [List.mem_singleton.1 hb]; intro e; exact hr (e ▸ ha)⟩
  · rcases List.mem_append.1 hs with hs | hs
    · exact h.sub s hs
    · rw [List.mem_singleton.1 hs]; exact h1
  · rw [mget_mput]
    by_cases e : s = r
    · rw [if_pos e, e]; simp
    · rw [if_neg e]
      simp only [List.mem_append, List.mem_singleton, e, or_false]
      exact h.iff s

theorem Acks.le {n : Nat} {ans : List (Int × Bool)} {l : List Int} (h : Acks n ans l) : l.length ≤ n := by
  have h2 : l ⊆ upto n := fun r hr => upto_mem.2 (h.sub r hr)
  have := h.nd.length_le_of_subset h2
  rwa [upto_len] at this

/-- All acknowledged just when the list is full. -/
theorem Acks.full {n : Nat} {ans : List (Int × Bool)} {l : List Int} (h : Acks n ans l) (E : EV) (he : E.ans = ans) (hp : E.ps = upto n) : lacksOf E E.ps.length = [] ↔ l.length = n := by
  have e1 : lacksOf E E.ps.length = (upto n).filter (fun r => !(mget ans r).getD false) := by
    rw [lacksOf, List.take_length, hp, he]
  rw [e1, List.filter_eq_nil_iff]
  constructor
  · intro hall
    have h2 : upto n ⊆ l := fun r hr => by
      have := hall r hr
      exact (h.iff r).1 (by simpa using this)
    have := (upto_nodup n).length_le_of_subset h2
    rw [upto_len] at this
    have := h.le
    omega
  · intro hl r hr
    have hin : r ∈ l := by
      apply Classical.byContradiction
      intro hno
      have hnd : (l ++ [r]).Nodup := by
        rw [List.nodup_append]
        exact ⟨h.nd, by simp, by intro a ha b hb; rw [List.mem_singleton.1 hb]; intro e; exact hno (e ▸ ha)⟩
      have hsub : l ++ [r] ⊆ upto n := fun s hs => by
        rcases List.mem_append.1 hs with hs | hs
        · exact upto_mem.2 (h.sub s hs)
        · rw [List.mem_singleton.1 hs]; exact hr
      have := hnd.length_le_of_subset hsub
      rw [upto_len, List.length_append, hl] at this
      simp only [List.length_singleton] at this
      omega
    simpa using (h.iff r).2 hin

/-- '(z % n + n) % n'. -/
theorem mod_twice (z : Int) (n : Nat) (h1 : 1 ≤ n) (hn : n ≤ 1000) : ∃ R : Nat, R < n ∧ wrap64 (z.tmod n + n) = z.tmod n + n ∧ (z.tmod n + n).tmod n = (R : Int) := by
  have h2 := Int.tmod_lt_of_pos z (b := (n : Int)) (by omega)
  have h3 := Int.lt_tmod_of_pos z (b := (n : Int)) (by omega)
  have h4 : 0 ≤ (z.tmod n + n).tmod n := Int.tmod_nonneg _ (by omega)
  have h5 := Int.tmod_lt_of_pos (z.tmod n + n) (b := (n : Int)) (by omega)
  exact ⟨((z.tmod n + n).tmod n).toNat, by omega, IntWalk.wrap64_in _ (by omega), by omega⟩

end Go.Proofs.Ytogjjkbgagedpaa.coords
