/-
  THE WALKS OF caps: what each method of caps.Table does to a table that New made, in terms of two association lists.
-/
import Derived.Test.YtomceindibnpnaaProg
import Derived.Test.YtomceindibnpnaaMaps
import Derived.WalkLawsBesides
import Derived.BigQuiet
import Derived.Deep.QuietTactic
import Derived.Lib.Hide
namespace Go.Proofs.Ytomceindibnpnaa
open Go.RowKit Go.Maps Go.My

theorem laidOut : laidOutB Try.prog = true := by kernel_rfl
theorem row_grant : (104 : Nat) < Try.prog.types.size := of_decide_eq_true (by kernel_rfl)
theorem wide_grant : (match Try.prog.underlying 104 with | some (.array _ _) | some (.struct _) => true | _ => false) = true := by kernel_rfl
set_option maxRecDepth 100000 in
theorem law_grant : Keyed Try.prog 104 := Keyed.of_law (deep_law_laid laidOut (m := 2) (by omega) row_grant (by kernel_rfl) wide_grant)
theorem keyType_grant : Try.prog.keyType 104 = true := by kernel_rfl
theorem cells_grant : Try.prog.cellsOf 104 = 2 := by kernel_rfl
theorem cells_int : Try.prog.cellsOf 3 = 1 := by kernel_rfl
theorem reads_grant (i r : Int) (hi : (Lit.int .i64 i).wf = true) (hr : (Lit.int .i64 r).wf = true) : ∃ l, keyOf Try.prog 104 (.agg #[.int .i64 i, .int .i64 r]) = some l :=
  keyOf_struct2 Try.underlying104 keyType_grant cells_grant (by decide) (by decide) rfl rfl rfl rfl Try.underlying3 cells_int (by have := row_grant; omega) i r hi hr

def intKey : KeyEnc Try.prog 3 Int where
  enc := encI
  ok k := (Lit.int .i64 k).wf = true
  keyed := int_keyed Try.underlying3
  reads k hk := ⟨_, keyOf_int_mk Try.underlying3 hk⟩
  inj k k' h := by simpa [encI] using h

def encGrant (k : Int × Int) : Value := .agg #[.int .i64 k.1, .int .i64 k.2]
def grantKey : KeyEnc Try.prog 104 (Int × Int) where
  enc := encGrant
  ok k := (Lit.int .i64 k.1).wf = true ∧ (Lit.int .i64 k.2).wf = true
  keyed := law_grant
  reads k hk := reads_grant k.1 k.2 hk.1 hk.2
  inj k k' h := by simp [encGrant] at h; exact Prod.ext h.1 h.2

theorem zero_int (w : World) : (zeroValue 3).run Try.prog w = .ok (.int .i64 0) w := by kernel_rfl
theorem zero_bool (w : World) : (zeroValue 4).run Try.prog w = .ok (.bool false) w := by kernel_rfl

/-- A table that New made: its four blocks, and what its maps hold. -/
structure TabAt (w : World) (T B q g : Nat) (Q : List (Int × Int)) (G : List ((Int × Int) × Bool)) : Prop where
  tab : w.heap[T]? = some (.cells #[.pointer (some ⟨B, 0, none⟩)] 51 (0, 0))
  book : w.heap[B]? = some (.cells #[.map (some q), .map (some g)] 102 (0, 0))
  quotas : MapIs intKey encI w q Q
  grants : MapIs grantKey Value.bool w g G
  qg : q ≠ g

theorem TabAt.kept {w w' : World} {T B q g : Nat} {Q G} (h : TabAt w T B q g Q G) {S : Nat → Prop} (hc : Chg S w w') (h1 : ¬ S T) (h2 : ¬ S B) (h3 : ¬ S q) (h4 : ¬ S g) : TabAt w' T B q g Q G :=
  ⟨hc.at h.tab h1, hc.at h.book h2, h.quotas.kept hc h3, h.grants.kept hc h4, h.qg⟩

set_option maxHeartbeats 400000 in
theorem new_any (w : World) : Calls Try.prog 15 #[] w fun e w' => e = .returned (.pointer (some ⟨w.heap.size + 3, 0, none⟩)) ∧
    TabAt w' (w.heap.size + 3) (w.heap.size + 2) w.heap.size (w.heap.size + 1) [] [] ∧ Chg (fun _ => False) w w' ∧ w'.heap.size = w.heap.size + 4 := by
  have hmm := @run_makeMap Try.prog
  go_enter Try.func15, Try.ntmps15
  go_wp2
  go_ret
  refine ⟨rfl, ⟨?_, ?_, .made _ _ (clock := 0) ?_, .made _ _ (clock := 0) ?_, by omega⟩, ((((Chg.refl _ _).alloc _).alloc _).alloc _).alloc _, by simp⟩
  all_goals (simp only [heap_alloc_get, World.size_alloc, if_true]; repeat (first | rw [if_pos (by omega)] | rw [if_neg (by omega)]))


theorem none_no (w : World) (T B q g : Nat) (Q G) (h : TabAt w T B q g Q G) : Calls Try.prog 49 #[.pointer (some ⟨T, 0, none⟩)] w fun e w' => e = .returned (.bool false) ∧ w = w' := by
  have c0 : w.cell? ⟨T, 0, none⟩ = some (.pointer (some ⟨B, 0, none⟩)) := cell_of_block h.tab rfl
  clear h
  go_enter Try.func49, Try.ntmps49
  go_wp2
  go_ret
  exact ⟨rfl, rfl⟩

def askedCode (Q : List (Int × Int)) (id root : Int) : Int :=
  if 1 ≤ id ∧ id ≤ 8 ∧ 1 ≤ root ∧ root ≤ 6 then (if (mget Q id).isSome then 0 else 9) else 2

set_option maxHeartbeats 400000 in
theorem asked_any (w : World) (T B q g : Nat) (Q G) (h : TabAt w T B q g Q G) (id root : Int) (hid : (Lit.int .i64 id).wf = true) :
    Calls Try.prog 50 #[.pointer (some ⟨T, 0, none⟩), .int .i64 id, .int .i64 root] w fun e w' => e = .returned (.int .i64 (askedCode Q id root)) ∧ w = w' := by
  have c0 : w.cell? ⟨T, 0, none⟩ = some (.pointer (some ⟨B, 0, none⟩)) := cell_of_block h.tab rfl
  have c1 : w.cell? ⟨B, 0, none⟩ = some (.map (some q)) := cell_of_block h.book rfl
  have H := Lib.hid h
  clear h
  go_enter Try.func50, Try.ntmps50
  go_wp2_with (first
    | (go_at_call 49; refine (none_no _ _ _ _ _ _ _ H.out).mono ?_; rintro e w' ⟨rfl, rfl⟩)
    | (at_lookup; refine wpList_look H.out.quotas rfl _ _ _ _ rfl _ Try.underlying99 (zero_int _) rfl id rfl hid (lookRes_int _) ?_))
  all_goals (go_ret; refine ⟨?_, rfl⟩)
  all_goals first | (simp [askedCode, *]; done) | (simp [askedCode]; omega)


def tenantCode (Q : List (Int × Int)) (id quota : Int) : Int :=
  if 1 ≤ id ∧ id ≤ 8 ∧ 0 ≤ quota then (if (mget Q id).isSome then 8 else 0) else 2
def tenantMap (Q : List (Int × Int)) (id quota : Int) : List (Int × Int) := if tenantCode Q id quota = 0 then mput Q id quota else Q

theorem TabAt.quotas_put {w w1 : World} {T B q g : Nat} {Q Q' G} (h : TabAt w T B q g Q G) (h1 : MapIs intKey encI w1 q Q') (hc : Chg (· = q) w w1) : TabAt w1 T B q g Q' G := by
  have ne : ∀ {b : Nat} {cs t fr}, w.heap[b]? = some (.cells cs t fr) → ¬ b = q := by
    intro b cs t fr hb e
    obtain ⟨es, clock, hq, _⟩ := h.quotas
    rw [e, hq] at hb; cases hb
  exact ⟨hc.at h.tab (ne h.tab), hc.at h.book (ne h.book), h1, h.grants.kept hc (fun e => h.qg e.symm), h.qg⟩

theorem TabAt.grants_put {w w1 : World} {T B q g : Nat} {Q G G'} (h : TabAt w T B q g Q G) (h1 : MapIs grantKey Value.bool w1 g G') (hc : Chg (· = g) w w1) : TabAt w1 T B q g Q G' := by
  have ne : ∀ {b : Nat} {cs t fr}, w.heap[b]? = some (.cells cs t fr) → ¬ b = g := by
    intro b cs t fr hb e
    obtain ⟨es, clock, hq, _⟩ := h.grants
    rw [e, hq] at hb; cases hb
  exact ⟨hc.at h.tab (ne h.tab), hc.at h.book (ne h.book), h.quotas.kept hc h.qg, h1, h.qg⟩

set_option maxHeartbeats 400000 in
theorem tenant_any (w : World) (T B q g : Nat) (Q G) (h : TabAt w T B q g Q G) (id quota : Int) (hid : (Lit.int .i64 id).wf = true) :
    Calls Try.prog 16 #[.pointer (some ⟨T, 0, none⟩), .int .i64 id, .int .i64 quota] w fun e w' => e = .returned (.int .i64 (tenantCode Q id quota)) ∧ TabAt w' T B q g (tenantMap Q id quota) G ∧ Chg (· = q) w w' := by
  have c0 : w.cell? ⟨T, 0, none⟩ = some (.pointer (some ⟨B, 0, none⟩)) := cell_of_block h.tab rfl
  have c1 : w.cell? ⟨B, 0, none⟩ = some (.map (some q)) := cell_of_block h.book rfl
  have H := Lib.hid h
  clear h
  go_enter Try.func16, Try.ntmps16
  go_wp2_with (first
    | (go_at_call 49; refine (none_no _ _ _ _ _ _ _ H.out).mono ?_; rintro e w' ⟨rfl, rfl⟩)
    | (at_lookup; refine wpList_look H.out.quotas rfl _ _ _ _ rfl _ Try.underlying99 (zero_int _) rfl id rfl hid (lookRes_int _) ?_)
    | (at_mapUpdate; refine wpList_put H.out.quotas rfl _ _ _ _ rfl _ Try.underlying99 rfl id rfl hid quota rfl ?_; intro w1 m1 ch1))
  all_goals go_ret
  all_goals first
    | exact ⟨by congr 2; simp [tenantCode, *], by simpa [tenantMap, tenantCode, *] using H.out.quotas_put m1 ch1, ch1⟩
    | exact ⟨by congr 2; simp [tenantCode, *], by simpa [tenantMap, tenantCode, *] using H.out, Chg.refl _ _⟩
    | exact ⟨by congr 2; simp [tenantCode]; omega, by rw [tenantMap, if_neg (by simp [tenantCode]; omega)]; exact H.out, Chg.refl _ _⟩

def grantMap (Q : List (Int × Int)) (G : List ((Int × Int) × Bool)) (id root : Int) (b : Bool) : List ((Int × Int) × Bool) := if askedCode Q id root = 0 then mput G (id, root) b else G

set_option maxHeartbeats 400000 in
theorem grant_any (w : World) (T B q g : Nat) (Q G) (h : TabAt w T B q g Q G) (id root : Int) (hid : (Lit.int .i64 id).wf = true) (hr : (Lit.int .i64 root).wf = true) :
    Calls Try.prog 19 #[.pointer (some ⟨T, 0, none⟩), .int .i64 id, .int .i64 root] w fun e w' => e = .returned (.int .i64 (askedCode Q id root)) ∧ TabAt w' T B q g Q (grantMap Q G id root true) ∧ Chg (· = g) w w' := by
  have c0 : w.cell? ⟨T, 0, none⟩ = some (.pointer (some ⟨B, 0, none⟩)) := cell_of_block h.tab rfl
  have c1 : w.cell? ⟨B, 1, none⟩ = some (.map (some g)) := cell_of_block h.book rfl
  have H := Lib.hid h
  clear h
  go_enter Try.func19, Try.ntmps19
  go_wp2_with (first
    | (go_at_call 50; refine (asked_any _ _ _ _ _ _ _ H.out _ _ hid).mono ?_; rintro e w' ⟨rfl, rfl⟩)
    | (at_mapUpdate; refine wpList_put H.out.grants rfl _ _ _ _ rfl _ Try.underlying100 rfl (id, root) rfl ⟨hid, hr⟩ true rfl ?_; intro w1 m1 ch1))
  all_goals go_ret
  all_goals first
    | exact ⟨rfl, by rw [grantMap, if_pos (by simpa using ‹(askedCode Q id root == 0) = true›)]; exact H.out.grants_put m1 ch1, ch1⟩
    | exact ⟨rfl, by rw [grantMap, if_neg (by simpa using ‹(askedCode Q id root == 0) = false›)]; exact H.out, Chg.refl _ _⟩

set_option maxHeartbeats 400000 in
theorem revoke_any (w : World) (T B q g : Nat) (Q G) (h : TabAt w T B q g Q G) (id root : Int) (hid : (Lit.int .i64 id).wf = true) (hr : (Lit.int .i64 root).wf = true) :
    Calls Try.prog 20 #[.pointer (some ⟨T, 0, none⟩), .int .i64 id, .int .i64 root] w fun e w' => e = .returned (.int .i64 (askedCode Q id root)) ∧ TabAt w' T B q g Q (grantMap Q G id root false) ∧ Chg (· = g) w w' := by
  have c0 : w.cell? ⟨T, 0, none⟩ = some (.pointer (some ⟨B, 0, none⟩)) := cell_of_block h.tab rfl
  have c1 : w.cell? ⟨B, 1, none⟩ = some (.map (some g)) := cell_of_block h.book rfl
  have H := Lib.hid h
  clear h
  go_enter Try.func20, Try.ntmps20
  go_wp2_with (first
    | (go_at_call 50; refine (asked_any _ _ _ _ _ _ _ H.out _ _ hid).mono ?_; rintro e w' ⟨rfl, rfl⟩)
    | (at_mapUpdate; refine wpList_put H.out.grants rfl _ _ _ _ rfl _ Try.underlying100 rfl (id, root) rfl ⟨hid, hr⟩ false rfl ?_; intro w1 m1 ch1))
  all_goals go_ret
  all_goals first
    | exact ⟨rfl, by rw [grantMap, if_pos (by simpa using ‹(askedCode Q id root == 0) = true›)]; exact H.out.grants_put m1 ch1, ch1⟩
    | exact ⟨rfl, by rw [grantMap, if_neg (by simpa using ‹(askedCode Q id root == 0) = false›)]; exact H.out, Chg.refl _ _⟩


theorem stood_grant : Try.prog.stoodInHeld 104 = false := by kernel_rfl
theorem guard_grant : Try.prog.eqGuardType Try.prog.depth 104 = false := by kernel_rfl

def mayB (G : List ((Int × Int) × Bool)) (id root : Int) : Bool := !(id == 0 && root == 0) && (mget G (id, root)).getD false

set_option maxHeartbeats 400000 in
theorem book_may (w : World) (T B q g : Nat) (Q G) (h : TabAt w T B q g Q G) (id root : Int) (hid : (Lit.int .i64 id).wf = true) (hr : (Lit.int .i64 root).wf = true) :
    Calls Try.prog 51 #[.pointer (some ⟨B, 0, none⟩), .agg #[.int .i64 id, .int .i64 root]] w fun e w' => e = .returned (.bool (mayB G id root)) ∧ Chg (fun _ => False) w w' := by
  have c1 : w.cell? ⟨B, 1, none⟩ = some (.map (some g)) := cell_of_block h.book rfl
  have hs := stood_grant
  have hg := guard_grant
  have hz : (id = 0 ∧ root = 0) ∨ (id = 0 ∧ (root == 0) = false) ∨ (id == 0) = false := by
    by_cases h1 : id = 0
    · by_cases h2 : root = 0
      · exact Or.inl ⟨h1, h2⟩
      · exact Or.inr (Or.inl ⟨h1, by simpa using h2⟩)
    · exact Or.inr (Or.inr (by simpa using h1))
  have H := Lib.hid h
  clear h
  go_enter Try.func51, Try.ntmps51
  go_wp2_with fail
  have c2 : (w.alloc (.cells #[.int .i64 id, .int .i64 root] 104)).cell? ⟨B, 1, none⟩ = some (.map (some g)) := by
    rw [World.cell?_alloc_lt _ _ _ (lt_of_block H.out.book)]; exact c1
  have hlk : ∀ n, (Instr.lookup 100 (.map (some g)) (.agg #[.int .i64 id, .int .i64 root]) false).run Try.prog ((w.alloc (.cells #[.int .i64 id, .int .i64 root] 104)).drewN n) = .ok (.bool ((mget G (id, root)).getD false)) ((w.alloc (.cells #[.int .i64 id, .int .i64 root] 104)).drewN n) := by
    intro n
    have hg : MapIs grantKey Value.bool ((w.alloc (.cells #[.int .i64 id, .int .i64 root] 104)).drewN n) g G := H.out.grants.kept (((Chg.refl (fun _ => False) w).alloc _).drewN n) (fun h => h)
    have := hg.look Try.underlying100 (zero_bool _) false (id, root) ⟨hid, hr⟩
    rw [lookRes_bool1] at this
    exact this
  rcases hz with ⟨rfl, rfl⟩ | ⟨rfl, h2⟩ | h1
  · go_quiet (fail)
    go_wp2
    go_ret
    all_goals exact ⟨by simp [mayB], (Chg.refl _ _).alloc _ |>.drewN _⟩
  · go_quiet (fail)
    go_wp2
    go_ret
    all_goals exact ⟨by simp [mayB, h2], (Chg.refl _ _).alloc _ |>.drewN _⟩
  · go_quiet (fail)
    go_wp2
    go_ret
    all_goals exact ⟨by simp [mayB, h1], (Chg.refl _ _).alloc _ |>.drewN _⟩

set_option maxHeartbeats 400000 in
theorem may_any (w : World) (T B q g : Nat) (Q G) (h : TabAt w T B q g Q G) (id root : Int) (hid : (Lit.int .i64 id).wf = true) (hr : (Lit.int .i64 root).wf = true) :
    Calls Try.prog 21 #[.pointer (some ⟨T, 0, none⟩), .int .i64 id, .int .i64 root] w fun e w' => e = .returned (.bool (mayB G id root)) ∧ Chg (fun _ => False) w w' := by
  have c0 : w.cell? ⟨T, 0, none⟩ = some (.pointer (some ⟨B, 0, none⟩)) := cell_of_block h.tab rfl
  have H := Lib.hid h
  clear h
  go_enter Try.func21, Try.ntmps21
  go_wp2_with (first
    | (go_at_call 49; refine (none_no _ _ _ _ _ _ _ H.out).mono ?_; rintro e w' ⟨rfl, rfl⟩)
    | (go_at_call 51; refine (book_may _ _ _ _ _ _ _ H.out _ _ hid hr).mono ?_; rintro e w' ⟨rfl, hc⟩))
  go_ret
  exact ⟨rfl, hc⟩

theorem quota_any (w : World) (T B q g : Nat) (Q G) (h : TabAt w T B q g Q G) (id : Int) (hid : (Lit.int .i64 id).wf = true) :
    Calls Try.prog 22 #[.pointer (some ⟨T, 0, none⟩), .int .i64 id] w fun e w' => e = .returned (.tuple #[.int .i64 ((mget Q id).getD 0), .bool (mget Q id).isSome]) ∧ w = w' := by
  have c0 : w.cell? ⟨T, 0, none⟩ = some (.pointer (some ⟨B, 0, none⟩)) := cell_of_block h.tab rfl
  have c1 : w.cell? ⟨B, 0, none⟩ = some (.map (some q)) := cell_of_block h.book rfl
  have H := Lib.hid h
  clear h
  go_enter Try.func22, Try.ntmps22
  go_wp2_with (first
    | (go_at_call 49; refine (none_no _ _ _ _ _ _ _ H.out).mono ?_; rintro e w' ⟨rfl, rfl⟩)
    | (at_lookup; refine wpList_look H.out.quotas rfl _ _ _ _ rfl _ Try.underlying99 (zero_int _) rfl id rfl hid (lookRes_int _) ?_))
  go_ret2
  exact ⟨rfl, rfl⟩

def fitsCode (Q : List (Int × Int)) (id used more : Int) : Int :=
  match mget Q id with
  | none => 9
  | some v => if used < 0 ∨ more < 0 then 2 else if v < used + more then 17 else 0

set_option maxHeartbeats 400000 in
theorem fits_any (w : World) (T B q g : Nat) (Q G) (h : TabAt w T B q g Q G) (id used more : Int) (hid : (Lit.int .i64 id).wf = true) (hq : ∀ v, mget Q id = some v → 0 ≤ v ∧ v ≤ 9223372036854775807) :
    Calls Try.prog 18 #[.pointer (some ⟨T, 0, none⟩), .int .i64 id, .int .i64 used, .int .i64 more] w fun e w' => e = .returned (.int .i64 (fitsCode Q id used more)) ∧ w = w' := by
  have c0 : w.cell? ⟨T, 0, none⟩ = some (.pointer (some ⟨B, 0, none⟩)) := cell_of_block h.tab rfl
  have c1 : w.cell? ⟨B, 0, none⟩ = some (.map (some q)) := cell_of_block h.book rfl
  have H := Lib.hid h
  clear h
  cases hm : mget Q id with
  | none =>
    have hlr : lookRes true (.int .i64 0) encI (mget Q id) = .tuple #[.int .i64 0, .bool false] := by rw [hm]; rfl
    have Hlr := Lib.hid hlr
    have Hm := Lib.hid hm
    clear hlr hm hq
    go_enter Try.func18, Try.ntmps18
    go_wp2_with (first
      | (go_at_call 49; refine (none_no _ _ _ _ _ _ _ H.out).mono ?_; rintro e w' ⟨rfl, rfl⟩)
      | (at_lookup; refine wpList_look H.out.quotas rfl _ _ _ _ rfl _ Try.underlying99 (zero_int _) rfl id rfl hid Hlr.out ?_))
    go_ret
    exact ⟨by simp [fitsCode, Hm.out], rfl⟩
  | some v =>
    obtain ⟨v0, v1⟩ := hq v hm
    have hlr : lookRes true (.int .i64 0) encI (mget Q id) = .tuple #[.int .i64 v, .bool true] := by rw [hm]; rfl
    have Hlr := Lib.hid hlr
    have Hm := Lib.hid hm
    clear hlr hm hq
    go_enter Try.func18, Try.ntmps18
    go_wp2_with (first
      | (go_at_call 49; refine (none_no _ _ _ _ _ _ _ H.out).mono ?_; rintro e w' ⟨rfl, rfl⟩)
      | (at_lookup; refine wpList_look H.out.quotas rfl _ _ _ _ rfl _ Try.underlying99 (zero_int _) rfl id rfl hid Hlr.out ?_))
    all_goals go_ret
    all_goals (refine ⟨?_, rfl⟩; simp only [fitsCode, Hm.out])
    all_goals first | (rw [if_pos (by omega)]; rfl) | (rw [if_neg (by omega), if_pos (by omega)]; rfl) | (rw [if_neg (by omega), if_neg (by omega)]; rfl)

set_option maxHeartbeats 400000 in
theorem works_any (w : World) : Calls Try.prog 17 #[] w fun e w' => e = .returned (.bool true) ∧ Chg (fun _ => False) w w' := by
  go_enter Try.func17, Try.ntmps17
  go_wp2_with fail
  refine (new_any _).mono ?_
  rintro e w1 ⟨rfl, h1, hc1, hs1⟩
  have H1 := Lib.hid h1
  have Hs := Lib.hid hs1
  clear h1 hs1
  go_wp2_with fail
  refine (tenant_any _ _ _ _ _ _ _ H1.out _ _ (by decide)).mono ?_
  rintro e w2 ⟨rfl, h2, hc2⟩
  have hc2' := Chg.new hc1 hc2 (fun i hi => by first | omega | exact hi.elim)
  have H2 := Lib.hid h2
  have e1 : tenantCode [] 1 100 = 0 := by decide
  clear h2 hc2
  go_wp2_with fail
  refine (grant_any _ _ _ _ _ _ _ H2.out _ _ (by decide) (by decide)).mono ?_
  rintro e w3 ⟨rfl, h3, hc3⟩
  have hc3' := Chg.new hc2' hc3 (fun i hi => by first | omega | exact hi.elim)
  have H3 := Lib.hid h3
  have e2 : askedCode (tenantMap [] 1 100) 1 2 = 0 := by decide
  clear h3 hc3
  go_wp2_with fail
  refine (may_any _ _ _ _ _ _ _ H3.out _ _ (by decide) (by decide)).mono ?_
  rintro e w4 ⟨rfl, hc4⟩
  have H4 := Lib.hid (H3.out.kept hc4 (fun h => h) (fun h => h) (fun h => h) (fun h => h))
  have hc4' := Chg.new hc3' hc4 (fun i hi => by first | omega | exact hi.elim)
  have e3 : mayB (grantMap (tenantMap [] 1 100) [] 1 2 true) 1 2 = true := by decide
  clear hc4
  go_wp2_with fail
  refine (may_any _ _ _ _ _ _ _ H4.out _ _ (by decide) (by decide)).mono ?_
  rintro e w5 ⟨rfl, hc5⟩
  have H5 := Lib.hid (H4.out.kept hc5 (fun h => h) (fun h => h) (fun h => h) (fun h => h))
  have hc5' := Chg.new hc4' hc5 (fun i hi => by first | omega | exact hi.elim)
  have e4 : mayB (grantMap (tenantMap [] 1 100) [] 1 2 true) 1 3 = false := by decide
  clear hc5
  have qb : ∀ v, mget (tenantMap [] 1 100) 1 = some v → 0 ≤ v ∧ v ≤ 9223372036854775807 := by
    intro v hv
    have : mget (tenantMap [] 1 100) 1 = some 100 := by decide
    rw [this] at hv; cases hv; omega
  have Hqb := Lib.hid qb
  clear qb
  go_wp2_with fail
  refine (fits_any _ _ _ _ _ _ _ H5.out _ _ _ (by decide) Hqb.out).mono ?_
  rintro e w6 ⟨rfl, rfl⟩
  have e5 : fitsCode (tenantMap [] 1 100) 1 90 10 = 0 := by decide
  go_wp2_with fail
  refine (fits_any _ _ _ _ _ _ _ H5.out _ _ _ (by decide) Hqb.out).mono ?_
  rintro e w6 ⟨rfl, rfl⟩
  have e6 : fitsCode (tenantMap [] 1 100) 1 90 11 = 17 := by decide
  go_wp2_with fail
  go_ret
  exact ⟨by simp, hc5'⟩

end Go.Proofs.Ytomceindibnpnaa
