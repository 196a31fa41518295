/-
  caps: the plain law between the table's two maps and the reference's list.
-/
import Derived.Test.YtomceindibnpnaaCapsLists
import Derived.Test.YtomceindibnpnaaCapsActs
namespace Go.Proofs.Ytomceindibnpnaa.capsPlays
open Go.My

def stepQ (a : Act) (Q : List (Int × Int)) : List (Int × Int) := if a.kind = 0 then tenantMap Q a.id a.quota else Q
def stepG (a : Act) (Q : List (Int × Int)) (G : List ((Int × Int) × Bool)) : List ((Int × Int) × Bool) := if a.kind = 1 then grantMap Q G a.id a.root true else if a.kind = 2 then grantMap Q G a.id a.root false else G

theorem tenantMap_at (Q : List (Int × Int)) (id quota x : Int) : mget (tenantMap Q id quota) x = if x = id ∧ 1 ≤ id ∧ id ≤ 8 ∧ 0 ≤ quota ∧ mget Q id = none then some quota else mget Q x := by
  unfold tenantMap tenantCode
  by_cases h : 1 ≤ id ∧ id ≤ 8 ∧ 0 ≤ quota
  · rw [if_pos h]
    cases hm : mget Q id with
    | none =>
      simp only [Option.isSome_none, Bool.false_eq_true, if_false, if_true, mget_mput]
      by_cases e : x = id
      · simp [e, h]
      · simp [e]
    | some v => simp
  · rw [if_neg h, if_neg (by omega), if_neg (fun h' => h ⟨h'.2.1, h'.2.2.1, h'.2.2.2.1⟩)]

theorem grantMap_at (Q : List (Int × Int)) (G : List ((Int × Int) × Bool)) (id root : Int) (b : Bool) (x r : Int) : mget (grantMap Q G id root b) (x, r) = if x = id ∧ r = root ∧ askedCode Q id root = 0 then some b else mget G (x, r) := by
  unfold grantMap
  by_cases h : askedCode Q id root = 0
  · rw [if_pos h, mget_mput]
    by_cases e : (x, r) = (id, root)
    · rw [if_pos e]; simp only [Prod.mk.injEq] at e; rw [if_pos ⟨e.1, e.2, h⟩]
    · rw [if_neg e, if_neg]; intro h'; exact e (by rw [h'.1, h'.2.1])
  · rw [if_neg h, if_neg (fun h' => h h'.2.2)]


def stepL (a : Act) (L : List RT) : List RT := if a.kind = 0 then refTenant L a.id a.quota else if a.kind = 1 then refSet L a.id a.root true else if a.kind = 2 then refSet L a.id a.root false else L

structure SameT (Q : List (Int × Int)) (G : List ((Int × Int) × Bool)) (L : List RT) : Prop where
  hq : ∀ id, mget Q id = (getT L id).map (·.quota)
  hm : ∀ id r : Int, 1 ≤ r → r ≤ 6 → (mget G (id, r)).getD false = (((getT L id).map (fun t => t.roots.getD r.toNat false)).getD false)
  inG : ∀ i r : Int, (mget G (i, r)).getD false = true → 1 ≤ i ∧ i ≤ 8 ∧ 1 ≤ r ∧ r ≤ 6
  bound : ∀ id v, mget Q id = some v → 0 ≤ v ∧ v ≤ 9223372036854775807
  seven : ∀ t ∈ L, t.roots.length = 7

theorem SameT.start : SameT [] [] [] := ⟨fun _ => rfl, fun _ _ _ _ => rfl, fun _ _ h => by simp [mget_nil] at h, fun _ _ h => by simp [mget_nil] at h, by simp⟩

theorem getT_append (L : List RT) (t : RT) (i : Int) : getT (L ++ [t]) i = (getT L i).or (if t.id = i then some t else none) := by
  unfold getT
  rw [List.find?_append]
  congr 1
  by_cases h : t.id = i <;> simp [h]

def upd (L : List RT) (id : Int) (f : RT → RT) : List RT := match L with | [] => [] | t :: L => if t.id = id then f t :: L else t :: upd L id f

theorem modify_upd (f : RT → RT) (id : Int) : ∀ (L : List RT), (getT L id).isSome = true → L.modify (findI L id).toNat f = upd L id f
  | [], h => by simp [getT] at h
  | t :: L, h => by
    unfold findI upd
    rw [List.findIdx?_cons]
    by_cases e : t.id = id
    · simp [e]
    · have h' : (getT L id).isSome = true := by simpa [getT, List.find?_cons, e] using h
      have ih := modify_upd f id L h'
      rw [if_neg e]
      have hne : (t.id == id) = false := by simp [e]
      rw [hne]
      simp only [Bool.false_eq_true, if_false]
      rcases findI_cases L id with ⟨_, h2⟩ | ⟨k, t', h1, _, _, _⟩
      · rw [h2] at h'; simp at h'
      · unfold findI at ih h1
        cases hx : L.findIdx? (fun t => t.id == id) with
        | none => rw [hx] at h1; simp at h1
        | some m =>
          rw [hx] at ih
          simp only [Int.toNat_natCast] at ih
          simp only [Option.map_some, Int.toNat_natCast, List.modify_succ_cons, ih]

theorem getT_upd (L : List RT) (id : Int) (f : RT → RT) (hf : ∀ t, (f t).id = t.id) (i : Int) : getT (upd L id f) i = if i = id then (getT L id).map f else getT L i := by
  induction L with
  | nil => simp [upd, getT]
  | cons t L ih =>
    unfold upd
    unfold getT at ih ⊢
    by_cases e : t.id = id
    · rw [if_pos e, List.find?_cons, List.find?_cons, List.find?_cons]
      by_cases e2 : i = id
      · simp [hf, e, e2]
      · have : (id == i) = false := by rw [beq_eq_false_iff_ne]; exact fun h => e2 h.symm
        simp [hf, e, e2, this]
    · rw [if_neg e, List.find?_cons, List.find?_cons, List.find?_cons, ih]
      by_cases e2 : i = id
      · subst e2
        have : (t.id == i) = false := by rw [beq_eq_false_iff_ne]; exact e
        simp [this]
      · simp only [if_neg e2]

theorem mem_upd (L : List RT) (id : Int) (f : RT → RT) (t : RT) (h : t ∈ upd L id f) : t ∈ L ∨ ∃ t' ∈ L, t = f t' := by
  induction L with
  | nil => simp [upd] at h
  | cons x L ih =>
    unfold upd at h
    split at h
    · rcases List.mem_cons.1 h with rfl | h
      · exact Or.inr ⟨x, by simp, rfl⟩
      · exact Or.inl (by simp [h])
    · rcases List.mem_cons.1 h with rfl | h
      · exact Or.inl (by simp)
      · rcases ih h with h | ⟨t', h1, h2⟩
        · exact Or.inl (by simp [h])
        · exact Or.inr ⟨t', by simp [h1], h2⟩

theorem SameT.some_iff {Q G L} (h : SameT Q G L) (id : Int) : (mget Q id).isSome = (getT L id).isSome := by rw [h.hq]; simp

theorem SameT.codeT {Q G L} (h : SameT Q G L) (id quota : Int) : tenantCode Q id quota = refTenantCode L id quota := by
  unfold tenantCode refTenantCode; rw [h.some_iff]
theorem SameT.codeS {Q G L} (h : SameT Q G L) (id root : Int) : askedCode Q id root = refSetCode L id root := by
  unfold askedCode refSetCode; rw [h.some_iff]

theorem SameT.tenant {Q G L} (h : SameT Q G L) (id quota : Int) (hb : quota ≤ 9223372036854775807) : SameT (tenantMap Q id quota) G (refTenant L id quota) := by
  by_cases hc : tenantCode Q id quota = 0
  · have hc' := hc
    rw [h.codeT] at hc'
    have hno : getT L id = none := by
      unfold refTenantCode at hc'
      split at hc'
      · split at hc'
        · omega
        · rename_i h2; simpa using h2
      · omega
    have hin : 1 ≤ id ∧ id ≤ 8 ∧ 0 ≤ quota := by
      unfold tenantCode at hc
      split at hc
      · assumption
      · omega
    unfold tenantMap refTenant
    rw [if_pos hc, if_pos hc']
    refine ⟨fun i => ?_, fun i r h1 h2 => ?_, h.inG, fun i v hv => ?_, fun t ht => ?_⟩
    · rw [mget_mput, getT_append]
      by_cases e : i = id
      · subst e; simp [hno, newT]
      · have : ¬ (newT id quota).id = i := fun h => e h.symm
        rw [if_neg e, if_neg this, Option.or_none, h.hq]
    · rw [h.hm i r h1 h2, getT_append]
      by_cases e : (newT id quota).id = i
      · have e' : id = i := e
        subst e'
        have hr : r.toNat < 7 := by omega
        have hz : (newT id quota).roots.getD r.toNat false = false := by
          have : r.toNat = 1 ∨ r.toNat = 2 ∨ r.toNat = 3 ∨ r.toNat = 4 ∨ r.toNat = 5 ∨ r.toNat = 6 := by omega
          rcases this with e | e | e | e | e | e <;> rw [e] <;> rfl
        rw [hno, if_pos e]
        simp only [Option.none_or, Option.map_some, Option.map_none, Option.getD_some, Option.getD_none, hz]
      · rw [if_neg e, Option.or_none]
    · rw [mget_mput] at hv
      split at hv
      · cases hv; omega
      · exact h.bound i v hv
    · rcases List.mem_append.1 ht with ht | ht
      · exact h.seven t ht
      · simp at ht; subst ht; rfl
  · have hc' := hc
    rw [h.codeT] at hc'
    unfold tenantMap refTenant
    rw [if_neg hc, if_neg hc']
    exact h

theorem SameT.set {Q G L} (h : SameT Q G L) (id root : Int) (b : Bool) : SameT Q (grantMap Q G id root b) (refSet L id root b) := by
  by_cases hc : askedCode Q id root = 0
  · have hc' := hc
    rw [h.codeS] at hc'
    have hin : (1 ≤ id ∧ id ≤ 8 ∧ 1 ≤ root ∧ root ≤ 6) ∧ (getT L id).isSome = true := by
      unfold refSetCode at hc'
      split at hc'
      · split at hc'
        · exact ⟨by assumption, by assumption⟩
        · omega
      · omega
    obtain ⟨t, ht⟩ := Option.isSome_iff_exists.1 hin.2
    unfold grantMap refSet setT
    rw [if_pos hc, if_pos hc', modify_upd _ _ _ hin.2]
    refine ⟨fun i => ?_, fun i r h1 h2 => ?_, fun i r hg => ?_, h.bound, fun t ht => ?_⟩
    · rw [h.hq, getT_upd L id (fun t => { t with roots := t.roots.set root.toNat b }) (fun _ => rfl)]
      split
      · rename_i e; subst e; rw [ht]; rfl
      · rfl
    · rw [mget_mput, getT_upd L id (fun t => { t with roots := t.roots.set root.toNat b }) (fun _ => rfl)]
      by_cases e : i = id
      · subst e
        have h7 := h.seven t (List.mem_of_find?_eq_some ht)
        rw [if_pos rfl, ht]
        simp only [Option.map_some, Option.getD_some]
        by_cases e2 : r = root
        · subst e2
          rw [if_pos rfl]
          simp only [Option.getD_some, List.getD_eq_getElem?_getD]
          rw [List.getElem?_set_self (by omega)]; rfl
        · rw [if_neg (by simp [e2]), h.hm i r h1 h2, ht]
          simp only [Option.map_some, Option.getD_some, List.getD_eq_getElem?_getD]
          rw [List.getElem?_set_ne (by omega)]
      · rw [if_neg (by simp [e]), if_neg e, h.hm i r h1 h2]
    · rw [mget_mput] at hg
      split at hg
      · rename_i e; simp only [Prod.mk.injEq] at e; obtain ⟨rfl, rfl⟩ := e; exact hin.1
      · exact h.inG i r hg
    · rcases mem_upd _ _ _ _ ht with ht | ⟨t', h1, rfl⟩
      · exact h.seven t ht
      · simp only [List.length_set]; exact h.seven t' h1
  · have hc' := hc
    rw [h.codeS] at hc'
    unfold grantMap refSet
    rw [if_neg hc, if_neg hc']
    exact h

theorem SameT.step {Q G L} (h : SameT Q G L) (a : Act) (hb : a.quota ≤ 9223372036854775807) : SameT (stepQ a Q) (stepG a Q G) (stepL a L) := by
  unfold stepQ stepG stepL
  by_cases h0 : a.kind = 0
  · rw [if_pos h0, if_pos h0, if_neg (by omega), if_neg (by omega)]; exact h.tenant _ _ hb
  · rw [if_neg h0, if_neg h0]
    by_cases h1 : a.kind = 1
    · rw [if_pos h1, if_pos h1]; exact h.set _ _ _
    · rw [if_neg h1, if_neg h1]
      by_cases h2 : a.kind = 2
      · rw [if_pos h2, if_pos h2]; exact h.set _ _ _
      · rw [if_neg h2, if_neg h2]; exact h

theorem SameT.may {Q G L} (h : SameT Q G L) (id r : Int) : mayB G id r = refMay L id r := by
  unfold refMay mayB
  by_cases hr : 1 ≤ r ∧ r ≤ 6
  · have : (r == 0) = false := by rw [beq_eq_false_iff_ne]; omega
    simp only [this, Bool.and_false, Bool.not_false, Bool.true_and, hr.1, hr.2, decide_true, h.hm id r hr.1 hr.2]
  · have h1 : (mget G (id, r)).getD false = false := by
      cases hg : (mget G (id, r)).getD false with
      | false => rfl
      | true => exact absurd ⟨(h.inG _ _ hg).2.2.1, (h.inG _ _ hg).2.2.2⟩ hr
    rw [h1, Bool.and_false]
    by_cases h2 : 1 ≤ r
    · have : ¬ r ≤ 6 := fun h3 => hr ⟨h2, h3⟩
      simp [this]
    · simp [h2]

theorem SameT.fits {Q G L} (h : SameT Q G L) (id used more : Int) : fitsCode Q id used more = refFits L id used more := by
  unfold fitsCode refFits
  rw [h.hq]
  cases getT L id <;> rfl

theorem length_stepL (a : Act) (L : List RT) : (stepL a L).length ≤ L.length + 1 := by
  unfold stepL
  split
  · unfold refTenant; split <;> simp
  · have hs : ∀ b, (refSet L a.id a.root b).length ≤ L.length + 1 := by
      intro b; unfold refSet setT; split <;> simp
    split
    · exact hs _
    · split
      · exact hs _
      · omega

end Go.Proofs.Ytomceindibnpnaa.capsPlays
