/-
  caps' reference: the walks of veneerref17.Table, in terms of a list of tenants.
-/
import Derived.Test.YtomceindibnpnaaCapsRoots
import Derived.Test.YtomceindibnpnaaRecs
import Derived.Maps.AppendAt
namespace Go.Proofs.Ytomceindibnpnaa
open Go.RowKit Go.Maps Go.My

structure RT where
  id : Int
  quota : Int
  roots : List Bool
def RT.cells (t : RT) : List Value := .int .i64 t.id :: .int .i64 t.quota :: t.roots.map Value.bool

structure RefAt (w : World) (R : Nat) (v : Value) (L : List RT) : Prop where
  tab : w.heap[R]? = some (.cells #[v] 47 (0, 0))
  recs : OwnRecs w (R + 1) 128 9 v (L.map RT.cells)
  len : ∀ t ∈ L, t.roots.length = 7

theorem RefAt.slice {w : World} {R : Nat} {v : Value} {L : List RT} (h : RefAt w R v L) : ∃ oa cap, v = .slice oa L.length cap := by
  obtain ⟨oa, cap, e, _⟩ := h.recs.slice
  exact ⟨oa, cap, by rw [e, List.length_map]⟩

def findI (L : List RT) (id : Int) : Int := match L.findIdx? (fun t => t.id == id) with | some i => i | none => -1

theorem findI_none (L : List RT) (id : Int) (h : ∀ t ∈ L, t.id ≠ id) : findI L id = -1 := by
  unfold findI; rw [List.findIdx?_eq_none_iff.2 (by intro t ht; simp [h t ht])]

theorem findI_some (L : List RT) (id : Int) (k : Nat) (t : RT) (hk : L[k]? = some t) (ht : t.id = id) (h : ∀ j t', j < k → L[j]? = some t' → t'.id ≠ id) : findI L id = k := by
  obtain ⟨hlt, hg⟩ := List.getElem?_eq_some_iff.1 hk
  have : L.findIdx? (fun t => t.id == id) = some k := by
    rw [List.findIdx?_eq_some_iff_getElem]
    refine ⟨hlt, by rw [hg]; simp [ht], fun j hj => ?_⟩
    simp [h j _ hj (List.getElem?_eq_getElem (by omega))]
  unfold findI; rw [this]

set_option maxHeartbeats 400000 in
theorem find_any (w : World) (R : Nat) (v : Value) (L : List RT) (h : RefAt w R v L) (id : Int) (hL : L.length ≤ 1000) :
    Calls Try.prog 74 #[.pointer (some ⟨R, 0, none⟩), .int .i64 id] w fun e w' => e = .returned (.int .i64 (findI L id)) ∧ w = w' := by
  obtain ⟨oa, cap, rfl⟩ := h.slice
  have c0 : w.cell? ⟨R, 0, none⟩ = some (.slice oa L.length cap) := cell_of_block h.tab rfl
  have H := Lib.hid h
  clear h
  go_enter Try.func74, Try.ntmps74
  go_wp2_with fail
  go_loop [5] (fun i => ∃ k : Nat, i = .int .i64 k ∧ k ≤ L.length ∧ ∀ j t', j < k → L[j]? = some t' → t'.id ≠ id) (fun i => L.length - (intOf i).toNat)
  case atStart => exact ⟨0, rfl, by omega, by intro j t' h; omega⟩
  case round =>
    obtain ⟨k, rfl, hk, hn⟩ := hrel
    have Hn := Lib.hid hn
    clear hn
    by_cases hlt : k < L.length
    · obtain ⟨g, rfl, -, -, hc, -⟩ := H.out.recs.cell' (k := k) (by simpa using hlt)
      have c1 : w.cell? ⟨g, k * 9, none⟩ = some (.int .i64 L[k].id) := hc 0 _ (by simp [RT.cells])
      clear hc
      obtain ⟨t, ht⟩ : ∃ t, L[k]? = some t := ⟨L[k], List.getElem?_eq_getElem hlt⟩
      have c2 : w.cell? ⟨g, k * 9, none⟩ = some (.int .i64 t.id) := by
        have : L[k] = t := by rw [List.getElem?_eq_getElem hlt] at ht; exact Option.some.inj ht
        rw [← this]; exact c1
      have Ht := Lib.hid ht
      clear c1 ht
      by_cases he : t.id = id
      · have hb : (t.id == id) = true := by simp [he]
        have He := Lib.hid he
        clear he
        go_wp2_with fail
        go_ret
        exact ⟨by rw [findI_some L id k t Ht.out He.out Hn.out]; rfl, rfl⟩
      · have hb : (t.id == id) = false := by simp [he]
        have He := Lib.hid he
        clear he
        go_wp2_with fail
        refine ⟨⟨k + 1, by go_num, by omega, fun j t' hj ht' => ?_⟩, by simp [intOf]; omega⟩
        rcases Nat.lt_succ_iff_lt_or_eq.1 hj with h1 | rfl
        · exact Hn.out j t' h1 ht'
        · rw [Ht.out] at ht'; cases ht'; exact He.out
    · obtain rfl : k = L.length := by omega
      go_wp2_with fail
      go_ret
      exact ⟨by rw [findI_none L id (fun t ht => by obtain ⟨j, hj, rfl⟩ := List.getElem_of_mem ht; exact Hn.out j _ hj (List.getElem?_eq_getElem hj))]; rfl, rfl⟩

/-- The tenant of that number, if there is one. -/
def getT (L : List RT) (id : Int) : Option RT := L.find? (fun t => t.id == id)

theorem findI_cases (L : List RT) (id : Int) : (findI L id = -1 ∧ getT L id = none) ∨ ∃ k t, findI L id = (k : Nat) ∧ L[k]? = some t ∧ t.id = id ∧ getT L id = some t := by
  unfold findI getT
  cases h : L.findIdx? (fun t => t.id == id) with
  | none => exact Or.inl ⟨rfl, by rw [List.findIdx?_eq_none_iff] at h; rw [List.find?_eq_none]; intro x hx; simp [h x hx]⟩
  | some k =>
    rw [List.findIdx?_eq_some_iff_getElem] at h
    obtain ⟨hlt, h1, h2⟩ := h
    refine Or.inr ⟨k, L[k], rfl, List.getElem?_eq_getElem hlt, by simpa using h1, ?_⟩
    rw [List.find?_eq_some_iff_getElem]
    exact ⟨h1, k, hlt, rfl, fun j hj => by simpa using h2 j hj⟩

theorem quota_ref (w : World) (R : Nat) (v : Value) (L : List RT) (h : RefAt w R v L) (id : Int) (hL : L.length ≤ 1000) :
    Calls Try.prog 56 #[.pointer (some ⟨R, 0, none⟩), .int .i64 id] w fun e w' => e = .returned (.tuple #[.int .i64 (((getT L id).map (·.quota)).getD 0), .bool (getT L id).isSome]) ∧ w = w' := by
  have H := Lib.hid h
  obtain ⟨oa, cap, rfl⟩ := h.slice
  have c0 : w.cell? ⟨R, 0, none⟩ = some (.slice oa L.length cap) := cell_of_block h.tab rfl
  clear h
  rcases findI_cases L id with ⟨hf, hg⟩ | ⟨k, t, hf, hk, _, hg⟩
  · have Hf := Lib.hid hf
    have Hg := Lib.hid hg
    clear hf hg
    go_enter Try.func56, Try.ntmps56
    go_wp2_with (go_at_call 74; refine (find_any _ _ _ _ H.out _ hL).mono ?_; rw [Hf.out]; rintro e w' ⟨rfl, rfl⟩)
    go_ret2
    exact ⟨by simp [Hg.out], rfl⟩
  · obtain ⟨hlt, hkk⟩ := List.getElem?_eq_some_iff.1 hk
    obtain ⟨g, rfl, -, -, hc, -⟩ := H.out.recs.cell' (k := k) (by simpa using hlt)
    have c1 : w.cell? ⟨g, k * 9 + 1, none⟩ = some (.int .i64 t.quota) := hc 1 _ (by simp [RT.cells, hkk])
    have Hf := Lib.hid hf
    have Hg := Lib.hid hg
    clear hc hf hg hk hkk
    go_enter Try.func56, Try.ntmps56
    go_wp2_with (go_at_call 74; refine (find_any _ _ _ _ H.out _ hL).mono ?_; rw [Hf.out]; rintro e w' ⟨rfl, rfl⟩)
    go_ret2
    exact ⟨by simp [Hg.out], rfl⟩

def refMay (L : List RT) (id root : Int) : Bool := decide (1 ≤ root) && decide (root ≤ 6) && (((getT L id).map (fun t => t.roots.getD root.toNat false)).getD false)

theorem may_ref (w : World) (R : Nat) (v : Value) (L : List RT) (h : RefAt w R v L) (id root : Int) (hL : L.length ≤ 1000) :
    Calls Try.prog 57 #[.pointer (some ⟨R, 0, none⟩), .int .i64 id, .int .i64 root] w fun e w' => e = .returned (.bool (refMay L id root)) ∧ Chg (fun _ => False) w w' := by
  have H := Lib.hid h
  obtain ⟨oa, cap, rfl⟩ := h.slice
  have c0 : w.cell? ⟨R, 0, none⟩ = some (.slice oa L.length cap) := cell_of_block h.tab rfl
  clear h
  rcases findI_cases L id with ⟨hf, hg⟩ | ⟨k, t, hf, hk, _, hg⟩
  · have Hf := Lib.hid hf
    have Hg := Lib.hid hg
    clear hf hg
    go_enter Try.func57, Try.ntmps57
    go_wp2_with (go_at_call 74; refine (find_any _ _ _ _ H.out _ hL).mono ?_; rw [Hf.out]; rintro e w' ⟨rfl, rfl⟩)
    go_ret
    exact ⟨by simp [refMay, Hg.out], Chg.refl _ _⟩
  · obtain ⟨hlt, hkk⟩ := List.getElem?_eq_some_iff.1 hk
    obtain ⟨g, rfl, -, -, hc, -⟩ := H.out.recs.cell' (k := k) (by simpa using hlt)
    have h7 := H.out.len t (hkk ▸ List.getElem_mem hlt)
    have Hf := Lib.hid hf
    have Hg := Lib.hid hg
    clear hf hg
    by_cases hr : 1 ≤ root ∧ root ≤ 6
    · obtain ⟨hr1, hr2⟩ := hr
      have c1 : w.cell? ⟨g, k * 9 + 2 + root.toNat, none⟩ = some (.bool (t.roots.getD root.toNat false)) := by
        rw [Nat.add_assoc]
        refine hc (2 + root.toNat) _ ?_
        have e1 : 2 + root.toNat = root.toNat + 1 + 1 := by omega
        have h8 : root.toNat < t.roots.length := by omega
        simp [RT.cells, hkk, e1, h8]
      clear hc hk hkk h7
      go_enter Try.func57, Try.ntmps57
      go_wp2_with (go_at_call 74; refine (find_any _ _ _ _ H.out _ hL).mono ?_; rw [Hf.out]; rintro e w' ⟨rfl, rfl⟩)
      go_ret
      exact ⟨by simp [refMay, Hg.out, hr1, hr2], Chg.refl _ _⟩
    · clear hc hk hkk h7
      have hr' : root < 1 ∨ (1 ≤ root ∧ 6 < root) := by omega
      have Hr := Lib.hid hr
      clear hr
      rcases hr' with hr1 | ⟨hr1, hr2⟩
      all_goals go_enter Try.func57, Try.ntmps57
      all_goals go_wp2_with (go_at_call 74; refine (find_any _ _ _ _ H.out _ hL).mono ?_; rw [Hf.out]; rintro e w' ⟨rfl, rfl⟩)
      all_goals go_ret
      all_goals refine ⟨?_, Chg.refl _ _⟩
      all_goals congr 2
      all_goals simp [refMay, Hg.out]
      all_goals omega

def refFits (L : List RT) (id used more : Int) : Int :=
  match getT L id with
  | none => 9
  | some t => if used < 0 ∨ more < 0 then 2 else if t.quota < used + more then 17 else 0

set_option maxHeartbeats 400000 in
theorem fits_ref (w : World) (R : Nat) (v : Value) (L : List RT) (h : RefAt w R v L) (id used more : Int) (hL : L.length ≤ 1000) (hq : ∀ t, getT L id = some t → 0 ≤ t.quota ∧ t.quota ≤ 9223372036854775807)
    (hu : used ≤ 9223372036854775807) (hm : more ≤ 9223372036854775807) :
    Calls Try.prog 58 #[.pointer (some ⟨R, 0, none⟩), .int .i64 id, .int .i64 used, .int .i64 more] w fun e w' => e = .returned (.int .i64 (refFits L id used more)) ∧ w = w' := by
  have H := Lib.hid h
  clear h
  cases ht : getT L id with
  | none =>
    have Ht := Lib.hid ht
    clear ht hq
    go_enter Try.func58, Try.ntmps58
    go_wp2_with (go_at_call 56; refine (quota_ref _ _ _ _ H.out _ hL).mono ?_; rw [Ht.out]; rintro e w' ⟨rfl, rfl⟩)
    go_ret
    exact ⟨by simp [refFits, Ht.out], rfl⟩
  | some t =>
    obtain ⟨q0, q1⟩ := hq t ht
    obtain ⟨q, hq'⟩ : ∃ q, t.quota = q := ⟨_, rfl⟩
    rw [hq'] at q0 q1
    have Ht := Lib.hid ht
    have Hq := Lib.hid hq'
    clear ht hq hq'
    have hside : used < 0 ∨ (0 ≤ used ∧ more < 0) ∨ (0 ≤ used ∧ 0 ≤ more) := by omega
    rcases hside with h1 | ⟨h1, h2⟩ | ⟨h1, h2⟩
    all_goals go_enter Try.func58, Try.ntmps58
    all_goals go_wp2_with (go_at_call 56; refine (quota_ref _ _ _ _ H.out _ hL).mono ?_; rw [Ht.out]; simp only [Option.map_some, Option.getD_some, Option.isSome_some, Hq.out]; rintro e w' ⟨rfl, rfl⟩)
    all_goals go_ret
    all_goals refine ⟨?_, rfl⟩
    all_goals simp only [refFits, Ht.out, Hq.out]
    all_goals first | (rw [if_pos (by omega)]; rfl) | (rw [if_neg (by omega), if_pos (by omega)]; rfl) | (rw [if_neg (by omega), if_neg (by omega)]; rfl)

theorem info_ten : (Try.prog.info? 128).map (fun i => (i.zero, i.size, i.bytes)) = some (some (.agg #[.int .i64 0, .int .i64 0, .bool false, .bool false, .bool false, .bool false, .bool false, .bool false, .bool false]), 9, 24) := by kernel_rfl

def newT (id quota : Int) : RT := ⟨id, quota, [false, false, false, false, false, false, false]⟩
def refTenantCode (L : List RT) (id quota : Int) : Int := if 1 ≤ id ∧ id ≤ 8 ∧ 0 ≤ quota then (if (getT L id).isSome then 8 else 0) else 2
def refTenant (L : List RT) (id quota : Int) : List RT := if refTenantCode L id quota = 0 then L ++ [newT id quota] else L

def refBlocks (R : Nat) (v : Value) (k : Nat) : Prop := k = R ∨ v.ownBlock = some k

set_option maxHeartbeats 400000 in
theorem tenant_ref (w : World) (R : Nat) (v : Value) (L : List RT) (h : RefAt w R v L) (id quota : Int) (hL : L.length ≤ 1000) :
    Calls Try.prog 54 #[.pointer (some ⟨R, 0, none⟩), .int .i64 id, .int .i64 quota] w fun e w' => e = .returned (.int .i64 (refTenantCode L id quota)) ∧ ∃ v', RefAt w' R v' (refTenant L id quota) ∧ Chg (refBlocks R v) w w' ∧ (∀ k, v'.ownBlock = some k → v.ownBlock = some k ∨ w.heap.size ≤ k) := by
  have H := Lib.hid h
  obtain ⟨i0, hI0⟩ := info_parts info_ten
  have HI0 := Lib.hid hI0
  obtain ⟨oa, cap, rfl⟩ := h.slice
  have c0 : w.cell? ⟨R, 0, none⟩ = some (.slice oa L.length cap) := cell_of_block h.tab rfl
  have f0 : w.frozen? ⟨R, 0, none⟩ = false := free_of_block h.tab
  have hRs : R < w.heap.size := lt_of_block h.tab
  have hown : w.ownsRow (R + 1) 128 9 (.slice oa L.length cap) L.length (L.map RT.cells).flatten := by have := h.recs.row; rw [List.length_map] at this; exact this
  have Hown := Lib.hid hown
  clear h hI0 hown
  by_cases hin : 1 ≤ id ∧ id ≤ 8 ∧ 0 ≤ quota
  · have hin' := hin
    obtain ⟨h1, h2, h3⟩ := hin'
    have Hin := Lib.hid hin
    clear hin
    rcases findI_cases L id with ⟨hf, hg⟩ | ⟨k, t, hf, hk, _, hg⟩
    · have Hf := Lib.hid hf
      have Hg := Lib.hid hg
      clear hf hg
      go_enter Try.func54, Try.ntmps54
      go_wp2_with (first
        | (go_at_call 74; refine (find_any _ _ _ _ H.out _ hL).mono ?_; rw [Hf.out]; rintro e w' ⟨rfl, rfl⟩)
        | (at_builtin; refine wpList_append_own_at _ rfl _ _ 45 rfl (R + 1) 128 i0 (.agg #[.int .i64 0, .int .i64 0, .bool false, .bool false, .bool false, .bool false, .bool false, .bool false, .bool false]) 9 24 Try.underlying45 HI0.out.1 HI0.out.2.1 HI0.out.2.2.1 HI0.out.2.2.2 rfl (by decide) _ _ _ rfl (Hown.out.alloc _) ⟨w.heap.size, 0, none⟩ 1 1 (newT id quota).cells rfl rfl ?c1 ?c2 ?c3 ?c4 ?c5 ?_))
      case c1 => exact cells_new _ _ _
      case c2 => simp [newT, RT.cells, Value.oneCell']
      case c3 => unfold maxLen; omega
      case c4 => omega
      case c5 => simp; omega
      intro v' w2 hown2 hg2 _ hloc0
      obtain ⟨oa', cap', rfl⟩ := own_slice hown2
      have hc2 : Chg (fun k => (Value.slice oa L.length cap).ownBlock = some k) w w2 := ((Chg.refl _ _).alloc _).trans (Chg.of_grown hg2) (fun i _ hk => hk.symm)
      have hne : ¬ (Value.slice oa L.length cap).ownBlock = some R := fun e => by have := (Hown.out.lt R e).1; omega
      have d0 := hc2.cell c0 hne
      have d1 : w2.frozen? ⟨R, 0, none⟩ = false := by rw [World.frozen?_of_block (w := w) (hc2.block R hRs hne)]; exact f0
      have hb2 := hc2.at H.out.tab hne
      have hloc : ∀ k, (Value.slice oa' (L.length + 1) cap').ownBlock = some k → (Value.slice oa L.length cap).ownBlock = some k ∨ w.heap.size ≤ k := by
        intro k hk
        rcases hloc0 with e | e
        · exact Or.inl (e ▸ hk)
        · rw [e] at hk; cases hk; exact Or.inr (by simp)
      have Hc2 := Lib.hid hc2
      have Hb2 := Lib.hid hb2
      have Hown2 := Lib.hid hown2
      have Hloc := Lib.hid hloc
      clear hc2 hb2 hown2 hg2 hne hloc hloc0
      go_wp2_with fail
      go_ret
      have hset : Chg (· = R) w2 (w2.setCell ⟨R, 0, none⟩ (.slice oa' (L.length + 1) cap')) := Chg.setCell (S := (· = R)) (Chg.refl _ _) (fun _ => rfl) _
      have hcode : refTenantCode L id quota = 0 := by simp [refTenantCode, Hin.out, Hg.out]
      have hnR : ¬ (Value.slice oa' (L.length + 1) cap').ownBlock = some R := fun e => by have := (Hown2.out.lt R e).1; omega
      refine ⟨by rw [hcode]; rfl, .slice oa' (L.length + 1) cap', ⟨block_setCell Hb2.out, ?_, ?_⟩, ?_, Hloc.out⟩
      · rw [refTenant, if_pos hcode, List.map_append]
        refine OwnRecs.kept (S := (· = R)) ?_ hset (fun k hk e => hnR (e ▸ hk))
        exact OwnRecs.append (by simpa using Hown2.out) H.out.recs.each (by simp [newT, RT.cells])
      · rw [refTenant, if_pos hcode]
        intro t ht
        rcases List.mem_append.1 ht with ht | ht
        · exact H.out.len t ht
        · simp at ht; subst ht; rfl
      · exact (Hc2.out.mono (fun i _ hk => Or.inr hk)).trans hset (fun i _ hk => Or.inl hk)
    · have Hf := Lib.hid hf
      have Hg := Lib.hid hg
      clear hf hg hk
      go_enter Try.func54, Try.ntmps54
      go_wp2_with (go_at_call 74; refine (find_any _ _ _ _ H.out _ hL).mono ?_; rw [Hf.out]; rintro e w' ⟨rfl, rfl⟩)
      go_ret
      have hcode : refTenantCode L id quota = 8 := by simp [refTenantCode, Hin.out, Hg.out]
      exact ⟨by rw [hcode]; rfl, _, by rw [refTenant, if_neg (by rw [hcode]; decide)]; exact H.out, Chg.refl _ _, fun k hk => Or.inl hk⟩
  · have hs : id < 1 ∨ (1 ≤ id ∧ 8 < id) ∨ (1 ≤ id ∧ id ≤ 8 ∧ quota < 0) := by omega
    have hcode : refTenantCode L id quota = 2 := by unfold refTenantCode; rw [if_neg hin]
    have Hcode := Lib.hid hcode
    clear hin hcode
    rcases hs with h1 | ⟨h1, h2⟩ | ⟨h1, h2, h3⟩
    all_goals go_enter Try.func54, Try.ntmps54
    all_goals go_wp2_with fail
    all_goals go_ret
    all_goals exact ⟨by rw [Hcode.out]; rfl, _, by rw [refTenant, if_neg (by rw [Hcode.out]; decide)]; exact H.out, Chg.refl _ _, fun k hk => Or.inl hk⟩

def refSetCode (L : List RT) (id root : Int) : Int := if 1 ≤ id ∧ id ≤ 8 ∧ 1 ≤ root ∧ root ≤ 6 then (if (getT L id).isSome then 0 else 9) else 2
/-- The first tenant of that number gets it. -/
def setT (L : List RT) (id root : Int) (b : Bool) : List RT := L.modify (findI L id).toNat (fun t => { t with roots := t.roots.set root.toNat b })
def refSet (L : List RT) (id root : Int) (b : Bool) : List RT := if refSetCode L id root = 0 then setT L id root b else L

set_option maxHeartbeats 400000 in
theorem set_ref (w : World) (R : Nat) (v : Value) (L : List RT) (h : RefAt w R v L) (id root : Int) (b : Bool) (hL : L.length ≤ 1000) :
    Calls Try.prog 55 #[.pointer (some ⟨R, 0, none⟩), .int .i64 id, .int .i64 root, .bool b] w fun e w' => e = .returned (.int .i64 (refSetCode L id root)) ∧ RefAt w' R v (refSet L id root b) ∧ Chg (refBlocks R v) w w' := by
  have H := Lib.hid h
  obtain ⟨oa, cap, rfl⟩ := h.slice
  have c0 : w.cell? ⟨R, 0, none⟩ = some (.slice oa L.length cap) := cell_of_block h.tab rfl
  clear h
  by_cases hin : 1 ≤ id ∧ id ≤ 8 ∧ 1 ≤ root ∧ root ≤ 6
  · have hin' := hin
    obtain ⟨h1, h2, h3, h4⟩ := hin'
    have Hin := Lib.hid hin
    clear hin
    rcases findI_cases L id with ⟨hf, hg⟩ | ⟨k, t, hf, hk, hti, hg⟩
    · have hcode : refSetCode L id root = 9 := by simp [refSetCode, Hin.out, hg]
      have Hf := Lib.hid hf
      have Hcode := Lib.hid hcode
      clear hf hg hcode
      go_enter Try.func55, Try.ntmps55
      go_wp2_with (go_at_call 74; refine (find_any _ _ _ _ H.out _ hL).mono ?_; rw [Hf.out]; rintro e w' ⟨rfl, rfl⟩)
      go_ret
      exact ⟨by rw [Hcode.out]; rfl, by rw [refSet, if_neg (by rw [Hcode.out]; decide)]; exact H.out, Chg.refl _ _⟩
    · have hcode : refSetCode L id root = 0 := by simp [refSetCode, Hin.out, hg]
      obtain ⟨hlt, hkk⟩ := List.getElem?_eq_some_iff.1 hk
      have h7 := H.out.len t (hkk ▸ List.getElem_mem hlt)
      obtain ⟨g, rfl, hgb, -, hc, hfz⟩ := H.out.recs.cell' (k := k) (by simpa using hlt)
      have c1 : w.cell? ⟨g, k * 9 + 2 + root.toNat, none⟩ = some (.bool (t.roots.getD root.toNat false)) := by
        rw [Nat.add_assoc]
        refine hc (2 + root.toNat) _ ?_
        have e1 : 2 + root.toNat = root.toNat + 1 + 1 := by omega
        have h8 : root.toNat < t.roots.length := by omega
        simp [RT.cells, hkk, e1, h8]
      have f1 : w.frozen? ⟨g, k * 9 + 2 + root.toNat, none⟩ = false := hfz _
      have Hf := Lib.hid hf
      have Hcode := Lib.hid hcode
      have Hkk := Lib.hid hkk
      clear hc hf hg hk hkk hcode hfz hti h7
      go_enter Try.func55, Try.ntmps55
      go_wp2_with (go_at_call 74; refine (find_any _ _ _ _ H.out _ hL).mono ?_; rw [Hf.out]; rintro e w' ⟨rfl, rfl⟩)
      go_ret
      have hset : Chg (· = g) w (w.setCell ⟨g, k * 9 + 2 + root.toNat, none⟩ (.bool b)) := Chg.setCell (S := (· = g)) (Chg.refl _ _) (fun _ => rfl) _
      refine ⟨by rw [Hcode.out]; rfl, ⟨hset.at H.out.tab (by omega), ?_, ?_⟩, hset.mono (fun i _ e => Or.inr (by rw [e]; rfl))⟩
      · have hr := H.out.recs
        rw [show L.length = (L.map RT.cells).length by simp] at hr
        have := hr.set (k := k) (j := 2 + root.toNat) (by omega) (.bool b)
        rw [← Nat.add_assoc] at this
        rw [refSet, if_pos Hcode.out, setT, Hf.out, Int.toNat_natCast]
        have e2 : (L.map RT.cells).modify k (fun r => r.set (2 + root.toNat) (.bool b)) = (L.modify k (fun t => { t with roots := t.roots.set root.toNat b })).map RT.cells := by
          apply List.ext_getElem?
          intro i
          simp only [List.getElem?_modify, List.getElem?_map]
          split
          · cases L[i]? with
            | none => rfl
            | some t => simp only [Option.map_some, RT.cells]; rw [show 2 + root.toNat = root.toNat + 1 + 1 by omega]; simp [RT.cells, List.map_set]
          · cases L[i]? <;> rfl
        rw [e2] at this
        simpa using this
      · rw [refSet, if_pos Hcode.out, setT, Hf.out, Int.toNat_natCast]
        intro t' ht'
        obtain ⟨i, hi, rfl⟩ := List.getElem_of_mem ht'
        rw [List.getElem_modify]
        split
        · simp only [List.length_set]; exact H.out.len _ (List.getElem_mem _)
        · exact H.out.len _ (List.getElem_mem _)
  · have hs : id < 1 ∨ (1 ≤ id ∧ 8 < id) ∨ (1 ≤ id ∧ id ≤ 8 ∧ root < 1) ∨ (1 ≤ id ∧ id ≤ 8 ∧ 1 ≤ root ∧ 6 < root) := by omega
    have hcode : refSetCode L id root = 2 := by unfold refSetCode; rw [if_neg hin]
    have Hcode := Lib.hid hcode
    clear hin hcode
    rcases hs with h1 | ⟨h1, h2⟩ | ⟨h1, h2, h3⟩ | ⟨h1, h2, h3, h4⟩
    all_goals go_enter Try.func55, Try.ntmps55
    all_goals go_wp2_with fail
    all_goals go_ret
    all_goals exact ⟨by rw [Hcode.out]; rfl, by rw [refSet, if_neg (by rw [Hcode.out]; decide)]; exact H.out, Chg.refl _ _⟩

end Go.Proofs.Ytomceindibnpnaa
