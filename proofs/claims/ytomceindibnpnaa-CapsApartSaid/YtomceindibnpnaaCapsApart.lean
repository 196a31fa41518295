/-
  CapsApart, whole: for every list of calls and every number the law returns true and changes nothing that was there. No condition.
-/
import Derived.Test.YtomceindibnpnaaCapsActs
import Derived.Test.YtomceindibnpnaaCapsRoots
import Derived.Test.YtomceindibnpnaaRows
import Derived.LaidEqlPtr
namespace Go.Proofs.Ytomceindibnpnaa.capsApart
open Go.ChangeShapes Go.WideShapes Go.ChangeAt Go.RowKit Go.My Go.BigFrame

def stepQ (a : Act) (Q : List (Int × Int)) : List (Int × Int) := if a.kind = 0 then tenantMap Q a.id a.quota else Q
def stepG (a : Act) (Q : List (Int × Int)) (G : List ((Int × Int) × Bool)) : List ((Int × Int) × Bool) := if a.kind = 1 then grantMap Q G a.id a.root true else if a.kind = 2 then grantMap Q G a.id a.root false else G

/-- What tenant x is told by two tables is the same. -/
def Alike (x : Int) (Q : List (Int × Int)) (G : List ((Int × Int) × Bool)) (Q' : List (Int × Int)) (G' : List ((Int × Int) × Bool)) : Prop :=
  mget Q x = mget Q' x ∧ ∀ r, mget G (x, r) = mget G' (x, r)

theorem tenantMap_at (Q : List (Int × Int)) (id quota x : Int) : mget (tenantMap Q id quota) x = if x = id ∧ 1 ≤ id ∧ id ≤ 8 ∧ 0 ≤ quota ∧ mget Q id = none then some quota else mget Q x := by
  unfold tenantMap tenantCode
  by_cases h : 1 ≤ id ∧ id ≤ 8 ∧ 0 ≤ quota
  · rw [if_pos h]
    cases hm : mget Q id with
    | none =>
      simp only [Option.isSome_none, Bool.false_eq_true, if_false, if_true, mget_mput]
      by_cases e : x = id
      · simp [e, h]
      · simp [e]
    | some v => simp
  · rw [if_neg h, if_neg (by omega), if_neg (fun h' => h ⟨h'.2.1, h'.2.2.1, h'.2.2.2.1⟩)]

theorem grantMap_at (Q : List (Int × Int)) (G : List ((Int × Int) × Bool)) (id root : Int) (b : Bool) (x r : Int) : mget (grantMap Q G id root b) (x, r) = if x = id ∧ r = root ∧ askedCode Q id root = 0 then some b else mget G (x, r) := by
  unfold grantMap
  by_cases h : askedCode Q id root = 0
  · rw [if_pos h, mget_mput]
    by_cases e : (x, r) = (id, root)
    · rw [if_pos e]; simp only [Prod.mk.injEq] at e; rw [if_pos ⟨e.1, e.2, h⟩]
    · rw [if_neg e, if_neg]; intro h'; exact e (by rw [h'.1, h'.2.1])
  · rw [if_neg h, if_neg (fun h' => h h'.2.2)]

theorem asked_congr {Q Q' : List (Int × Int)} {id : Int} (root : Int) (h : mget Q id = mget Q' id) : askedCode Q id root = askedCode Q' id root := by
  unfold askedCode; rw [h]

theorem Alike.other {x : Int} {Q G Q' G'} (h : Alike x Q G Q' G') (a : Act) (hne : a.id ≠ x) : Alike x (stepQ a Q) (stepG a Q G) Q' G' := by
  refine ⟨?_, fun r => ?_⟩
  · unfold stepQ; split
    · rw [tenantMap_at, if_neg (fun h' => hne h'.1.symm)]; exact h.1
    · exact h.1
  · unfold stepG; split
    · rw [grantMap_at, if_neg (fun h' => hne h'.1.symm)]; exact h.2 r
    · split
      · rw [grantMap_at, if_neg (fun h' => hne h'.1.symm)]; exact h.2 r
      · exact h.2 r

theorem Alike.both {x : Int} {Q G Q' G'} (h : Alike x Q G Q' G') (a : Act) (he : a.id = x) : Alike x (stepQ a Q) (stepG a Q G) (stepQ a Q') (stepG a Q' G') := by
  subst he
  refine ⟨?_, fun r => ?_⟩
  · unfold stepQ; split
    · rw [tenantMap_at, tenantMap_at, h.1]
    · exact h.1
  · unfold stepG; split
    · rw [grantMap_at, grantMap_at, asked_congr a.root h.1, h.2 r]
    · split
      · rw [grantMap_at, grantMap_at, asked_congr a.root h.1, h.2 r]
      · exact h.2 r

theorem Alike.roots {x : Int} {Q G Q' G'} (h : Alike x Q G Q' G') (n : Nat) : rootsTo G x n = rootsTo G' x n := by
  induction n with
  | zero => rfl
  | succ n ih =>
    have : mayB G x ((n : Int) + 1) = mayB G' x ((n : Int) + 1) := by unfold mayB; rw [h.2]
    unfold rootsTo; rw [ih, this]

structure Two (W w : World) (Q : List (Int × Int)) (G : List ((Int × Int) × Bool)) (Q' : List (Int × Int)) (G' : List ((Int × Int) × Bool)) : Prop where
  one : TabAt w (W.heap.size + 3) (W.heap.size + 2) W.heap.size (W.heap.size + 1) Q G
  two : TabAt w (W.heap.size + 4 + 3) (W.heap.size + 4 + 2) (W.heap.size + 4) (W.heap.size + 4 + 1) Q' G'
  old : Chg (fun _ => False) W w
  size : W.heap.size + 8 ≤ w.heap.size

theorem info_tab : (Try.prog.info? 51).map (fun i => i.size) = some 1 := by kernel_rfl

theorem eql_other {W w : World} {Q G Q' G'} (h : Two W w Q G Q' G') : (binOp .eql 22 (.pointer (some ⟨W.heap.size + 3, 0, none⟩)) (.pointer (some ⟨W.heap.size + 4 + 3, 0, none⟩))).run Try.prog w = .ok (.bool false) w := by
  obtain ⟨j, hj, hs⟩ := Option.map_eq_some_iff.1 info_tab
  exact run_eql_ptr_other w Try.underlying22 hj (by omega) (by simp) h.one.tab h.two.tab

theorem eql_same (a : Addr) (w : World) : (binOp .eql 22 (.pointer (some a)) (.pointer (some a))).run Try.prog w = .ok (.bool true) w := by
  obtain ⟨j, hj, hs⟩ := Option.map_eq_some_iff.1 info_tab
  exact run_eql_ptr_same w a Try.underlying22 hj

theorem idx_bounds (id : Int) : 1 ≤ wrap64 (1 + (wrap64 (id.tmod 8 + 8)).tmod 8) ∧ wrap64 (1 + (wrap64 (id.tmod 8 + 8)).tmod 8) ≤ 8 := by
  have h1 := Int.tmod_lt_of_pos id (show (0 : Int) < 8 by omega)
  have h2 : -8 < id.tmod 8 := by have := Int.lt_tmod_of_pos id (show (0 : Int) < 8 by omega); omega
  have h3 : wrap64 (id.tmod 8 + 8) = id.tmod 8 + 8 := by unfold wrap64; omega
  rw [h3]
  have h4 := Int.tmod_lt_of_pos (id.tmod 8 + 8) (show (0 : Int) < 8 by omega)
  have h5 := Int.tmod_nonneg 8 (show (0 : Int) ≤ id.tmod 8 + 8 by omega)
  have h6 : wrap64 (1 + (id.tmod 8 + 8).tmod 8) = 1 + (id.tmod 8 + 8).tmod 8 := by unfold wrap64; omega
  rw [h6]; omega

theorem Two.fresh {W w w' : World} {Q G Q' G'} (h : Two W w Q G Q' G') (hc : Chg (fun _ => False) w w') : Two W w' Q G Q' G' :=
  ⟨h.one.kept hc (fun h => h) (fun h => h) (fun h => h) (fun h => h), h.two.kept hc (fun h => h) (fun h => h) (fun h => h) (fun h => h), h.old.trans' hc, Nat.le_trans h.size hc.size⟩

theorem Two.step1 {W w w' : World} {Q G Q' G' Q1 G1} (h : Two W w Q G Q' G') {S : Nat → Prop} (hc : Chg S w w') (hs : ∀ k, S k → W.heap.size ≤ k ∧ k < W.heap.size + 4) (ht : TabAt w' (W.heap.size + 3) (W.heap.size + 2) W.heap.size (W.heap.size + 1) Q1 G1) : Two W w' Q1 G1 Q' G' :=
  ⟨ht, h.two.kept hc (fun h => by have := hs _ h; omega) (fun h => by have := hs _ h; omega) (fun h => by have := hs _ h; omega) (fun h => by have := hs _ h; omega), h.old.trans hc (fun i hi hk => by have := hs i hk; omega), Nat.le_trans h.size hc.size⟩

theorem Two.step2 {W w w' : World} {Q G Q' G' Q1 G1} (h : Two W w Q G Q' G') {S : Nat → Prop} (hc : Chg S w w') (hs : ∀ k, S k → W.heap.size + 4 ≤ k ∧ k < W.heap.size + 8) (ht : TabAt w' (W.heap.size + 4 + 3) (W.heap.size + 4 + 2) (W.heap.size + 4) (W.heap.size + 4 + 1) Q1 G1) : Two W w' Q G Q1 G1 :=
  ⟨h.one.kept hc (fun h => by have := hs _ h; omega) (fun h => by have := hs _ h; omega) (fun h => by have := hs _ h; omega) (fun h => by have := hs _ h; omega), ht, h.old.trans hc (fun i hi hk => by have := hs i hk; omega), Nat.le_trans h.size hc.size⟩

set_option maxRecDepth 100000 in
set_option maxHeartbeats 1000000 in
theorem walk (l : List Act) (oa : Option Addr) (cap : Nat) (id : Int) (hid : inR id) (W : World) (hR : RowsAt W 6 oa (l.map Act.row)) (hok : ∀ a ∈ l, a.ok) (hl : l.length ≤ cap) (_hcap : cap ≤ 9223372036854775807) :
    Calls Try.prog 5 #[.slice oa l.length cap, .int .i64 id] W fun e w' => e = .returned (.bool true) ∧ Chg (fun _ => False) W w' := by
  obtain ⟨hid1, hid2⟩ := hid
  go_enter Try.func5, Try.ntmps5
  have hx := idx_bounds id
  have Hx := Lib.hid hx
  clear hx
  go_wp2_with fail
  refine (new_any _).mono ?_
  rintro e w1 ⟨rfl, h1, hc1, hs1⟩
  have H1 := Lib.hid h1
  have Hs1 := Lib.hid hs1
  clear h1 hs1
  go_wp2_with fail
  refine (new_any _).mono ?_
  rw [Hs1.out]
  rintro e w2 ⟨rfl, h2, hc2, hs2⟩
  have hI0 : Two W w2 [] [] [] [] := ⟨H1.out.kept hc2 (fun h => h) (fun h => h) (fun h => h) (fun h => h), h2, hc1.trans' hc2, by have := Hs1.out; omega⟩
  have HI0 := Lib.hid hI0
  clear h2 hs2 hI0 hc1 hc2
  go_wp2_with fail
  generalize hX : wrap64 (1 + (wrap64 (id.tmod 8 + 8)).tmod 8) = X
  rw [hX] at Hx
  obtain ⟨hX1, hX2⟩ := Hx.out
  clear hX Hx hid1 hid2
  go_loopw [7] (fun i w => ∃ (k : Nat) (Q : List (Int × Int)) (G : List ((Int × Int) × Bool)) (Q' : List (Int × Int)) (G' : List ((Int × Int) × Bool)), i = .int .i64 k ∧ k ≤ l.length ∧ Two W w Q G Q' G' ∧ Alike X Q G Q' G') (fun i _ => l.length - (intOf i).toNat)
  case atStart => exact ⟨0, [], [], [], [], rfl, Nat.zero_le _, HI0.out, rfl, fun _ => rfl⟩
  case round =>
    obtain ⟨k, Q, G, Q', G', rfl, hk, hI, hal⟩ := hrel
    have HI := Lib.hid hI
    have Hal := Lib.hid hal
    clear hI hal
    by_cases hlt : k < l.length ∧ k < 80
    · obtain ⟨hlt, h80⟩ := hlt
      have hd80 : decide ((k : Int) < 80) = true := by simp; omega
      obtain ⟨b, off, rfl⟩ := hR.spot (by intro e; cases l with | nil => simp at hlt | cons => simp at e)
      obtain ⟨a, ha⟩ : ∃ a, l[k]? = some a := ⟨l[k], List.getElem?_eq_getElem hlt⟩
      have hok' := hok a (List.mem_of_getElem? ha)
      have hcell := fun j v hj => (hR.kept HI.out.old (fun _ _ h => h)).cell b off rfl k a.row j v (by simp [ha]) hj
      have c0 : wr.cell? ⟨b, off + k * 6, none⟩ = some (.int .i64 a.kind) := hcell 0 _ rfl
      have c1 : wr.cell? ⟨b, off + k * 6 + 1, none⟩ = some (.int .i64 a.id) := hcell 1 _ rfl
      have c2 : wr.cell? ⟨b, off + k * 6 + 2, none⟩ = some (.int .i64 a.root) := hcell 2 _ rfl
      have c3 : wr.cell? ⟨b, off + k * 6 + 3, none⟩ = some (.int .i64 a.quota) := hcell 3 _ rfl
      have c4 : wr.cell? ⟨b, off + k * 6 + 4, none⟩ = some (.int .i64 a.used) := hcell 4 _ rfl
      have c5 : wr.cell? ⟨b, off + k * 6 + 5, none⟩ = some (.int .i64 a.more) := hcell 5 _ rfl
      clear hcell ha hR
      go_wp2_with fail
      obtain ⟨w0, hw0⟩ : ∃ w0, (wr.alloc (.cells #[.int .i64 a.kind, .int .i64 a.id, .int .i64 a.root, .int .i64 a.quota, .int .i64 a.used, .int .i64 a.more] 34)).alloc (.cells #[.pointer (some ⟨W.heap.size + 3, 0, none⟩), .pointer (some ⟨W.heap.size + 4 + 3, 0, none⟩)] 22) = w0 := ⟨_, rfl⟩
      rw [hw0]
      have b1 : w0.heap[wr.heap.size]? = some (.cells #[.int .i64 a.kind, .int .i64 a.id, .int .i64 a.root, .int .i64 a.quota, .int .i64 a.used, .int .i64 a.more] 34 (0, 0)) := by
        subst hw0; simp only [heap_alloc_get, World.size_alloc]; rw [if_neg (by omega), if_pos trivial]
      have b2 : w0.heap[wr.heap.size + 1]? = some (.cells #[.pointer (some ⟨W.heap.size + 3, 0, none⟩), .pointer (some ⟨W.heap.size + 4 + 3, 0, none⟩)] 22 (0, 0)) := by
        subst hw0; simp only [heap_alloc_get, World.size_alloc]; rw [if_pos trivial]
      have hI0 : Two W w0 Q G Q' G' := by subst hw0; exact HI.out.fresh (((Chg.refl _ _).alloc _).alloc _)
      have HI2 := Lib.hid hI0
      have B1 := Lib.hid b1
      have B2 := Lib.hid b2
      have hws : W.heap.size + 8 ≤ wr.heap.size := HI.out.size
      clear hI0 b1 b2 hw0 c0 c1 c2 c3 c4 c5
      have hkind : (a.kind = 0 ∧ (a.kind == 0) = true) ∨ (a.kind = 1 ∧ (a.kind == 0) = false ∧ (a.kind == 1) = true) ∨ (a.kind = 2 ∧ (a.kind == 0) = false ∧ (a.kind == 1) = false ∧ (a.kind == 2) = true) ∨ ((a.kind ≠ 0 ∧ a.kind ≠ 1 ∧ a.kind ≠ 2) ∧ (a.kind == 0) = false ∧ (a.kind == 1) = false ∧ (a.kind == 2) = false) := by
        simp only [beq_iff_eq, beq_eq_false_iff_ne]; omega
      go_loopw [46] (fun j w => ∃ (m : Nat), j = .int .i64 m ∧ m ≤ 2 ∧ Chg (fun k => W.heap.size ≤ k ∧ k < W.heap.size + 8) w0 w ∧ Two W w (if m = 0 then Q else stepQ a Q) (if m = 0 then G else stepG a Q G) (if m = 2 ∧ a.id = X then stepQ a Q' else Q') (if m = 2 ∧ a.id = X then stepG a Q' G' else G')) (fun j _ => 2 - (intOf j).toNat)
      case atStart => exact ⟨0, rfl, by omega, Chg.refl _ _, by simpa using HI2.out⟩
      case round =>
        obtain ⟨m, rfl, hm, hc, hI3⟩ := hrel
        have Hc := Lib.hid hc
        have HI3 := Lib.hid hI3
        clear hc hI3
        match m, hm with
        | 0, _ =>
          have heq := eql_other HI3.out
          simp only [if_true] at HI3
          rw [if_neg (by omega), if_neg (by omega)] at HI3
          have a0 := Hc.out.cell (cell_of_block B1.out (i := 0) rfl) (by simp only; omega)
          have a1 := Hc.out.cell (cell_of_block B1.out (i := 1) rfl) (by simp only; omega)
          have a2 := Hc.out.cell (cell_of_block B1.out (i := 2) rfl) (by simp only; omega)
          have a3 := Hc.out.cell (cell_of_block B1.out (i := 3) rfl) (by simp only; omega)
          have p0 := Hc.out.cell (cell_of_block B2.out (i := 0) rfl) (by simp only; omega)
          have p1 := Hc.out.cell (cell_of_block B2.out (i := 1) rfl) (by simp only; omega)
          rcases hkind with ⟨hk, k0⟩ | ⟨hk, k0, k1⟩ | ⟨hk, k0, k1, k2⟩ | ⟨hk, k0, k1, k2⟩
          · have Hk := Lib.hid hk
            clear hk
            go_wp2_with fail
            refine (tenant_any _ _ _ _ _ _ _ HI3.out.one _ _ (inR_wf hok'.id)).mono ?_
            rintro e w2 ⟨rfl, ht2, hc2⟩
            have ht3 : TabAt w2 (W.heap.size + 3) (W.heap.size + 2) W.heap.size (W.heap.size + 1) (stepQ a Q) (stepG a Q G) := by simpa [stepQ, stepG, Hk.out] using ht2
            have HT := Lib.hid ht3
            have Hc2 := Lib.hid hc2
            clear ht2 ht3 hc2
            go_wp2_with fail
            exact ⟨⟨1, rfl, by omega, Hc.out.trans Hc2.out (fun i _ hk => by omega), by simpa using HI3.out.step1 Hc2.out (fun k hk => by omega) HT.out⟩, by simp [intOf]⟩
          · have Hk := Lib.hid hk
            clear hk
            go_wp2_with fail
            refine (grant_any _ _ _ _ _ _ _ HI3.out.one _ _ (inR_wf hok'.id) (inR_wf hok'.root)).mono ?_
            rintro e w2 ⟨rfl, ht2, hc2⟩
            have ht3 : TabAt w2 (W.heap.size + 3) (W.heap.size + 2) W.heap.size (W.heap.size + 1) (stepQ a Q) (stepG a Q G) := by simpa [stepQ, stepG, Hk.out] using ht2
            have HT := Lib.hid ht3
            have Hc2 := Lib.hid hc2
            clear ht2 ht3 hc2
            go_wp2_with fail
            exact ⟨⟨1, rfl, by omega, Hc.out.trans Hc2.out (fun i _ hk => by omega), by simpa using HI3.out.step1 Hc2.out (fun k hk => by omega) HT.out⟩, by simp [intOf]⟩
          · have Hk := Lib.hid hk
            clear hk
            go_wp2_with fail
            refine (revoke_any _ _ _ _ _ _ _ HI3.out.one _ _ (inR_wf hok'.id) (inR_wf hok'.root)).mono ?_
            rintro e w2 ⟨rfl, ht2, hc2⟩
            have ht3 : TabAt w2 (W.heap.size + 3) (W.heap.size + 2) W.heap.size (W.heap.size + 1) (stepQ a Q) (stepG a Q G) := by simpa [stepQ, stepG, Hk.out] using ht2
            have HT := Lib.hid ht3
            have Hc2 := Lib.hid hc2
            clear ht2 ht3 hc2
            go_wp2_with fail
            exact ⟨⟨1, rfl, by omega, Hc.out.trans Hc2.out (fun i _ hk => by omega), by simpa using HI3.out.step1 Hc2.out (fun k hk => by omega) HT.out⟩, by simp [intOf]⟩
          · have hs : stepQ a Q = Q ∧ stepG a Q G = G := by simp [stepQ, stepG, hk.1, hk.2.1, hk.2.2]
            have Hs := Lib.hid hs
            clear hs hk
            go_wp2_with fail
            exact ⟨⟨1, rfl, by omega, Hc.out, by simpa [Hs.out.1, Hs.out.2] using HI3.out⟩, by simp [intOf]⟩
        | 1, _ =>
          have heq := eql_same ⟨W.heap.size + 4 + 3, 0, none⟩ wr
          simp only [Nat.one_ne_zero, if_false, Nat.reduceEqDiff, false_and] at HI3
          have a0 := Hc.out.cell (cell_of_block B1.out (i := 0) rfl) (by simp only; omega)
          have a1 := Hc.out.cell (cell_of_block B1.out (i := 1) rfl) (by simp only; omega)
          have a2 := Hc.out.cell (cell_of_block B1.out (i := 2) rfl) (by simp only; omega)
          have a3 := Hc.out.cell (cell_of_block B1.out (i := 3) rfl) (by simp only; omega)
          have p0 := Hc.out.cell (cell_of_block B2.out (i := 0) rfl) (by simp only; omega)
          have p1 := Hc.out.cell (cell_of_block B2.out (i := 1) rfl) (by simp only; omega)
          by_cases hax : a.id = X
          · have hxx : (a.id != X) = false := by simp [hax]
            have Hax := Lib.hid hax
            clear hax
            rcases hkind with ⟨hk, k0⟩ | ⟨hk, k0, k1⟩ | ⟨hk, k0, k1, k2⟩ | ⟨hk, k0, k1, k2⟩
            · have Hk := Lib.hid hk
              clear hk
              go_wp2_with fail
              refine (tenant_any _ _ _ _ _ _ _ HI3.out.two _ _ (inR_wf hok'.id)).mono ?_
              rintro e w2 ⟨rfl, ht2, hc2⟩
              have ht3 : TabAt w2 (W.heap.size + 4 + 3) (W.heap.size + 4 + 2) (W.heap.size + 4) (W.heap.size + 4 + 1) (stepQ a Q') (stepG a Q' G') := by simpa [stepQ, stepG, Hk.out] using ht2
              have HT := Lib.hid ht3
              have Hc2 := Lib.hid hc2
              clear ht2 ht3 hc2
              go_wp2_with fail
              exact ⟨⟨2, rfl, by omega, Hc.out.trans Hc2.out (fun i _ hk => by omega), by simpa [Hax.out] using HI3.out.step2 Hc2.out (fun k hk => by omega) HT.out⟩, by simp [intOf]⟩
            · have Hk := Lib.hid hk
              clear hk
              go_wp2_with fail
              refine (grant_any _ _ _ _ _ _ _ HI3.out.two _ _ (inR_wf hok'.id) (inR_wf hok'.root)).mono ?_
              rintro e w2 ⟨rfl, ht2, hc2⟩
              have ht3 : TabAt w2 (W.heap.size + 4 + 3) (W.heap.size + 4 + 2) (W.heap.size + 4) (W.heap.size + 4 + 1) (stepQ a Q') (stepG a Q' G') := by simpa [stepQ, stepG, Hk.out] using ht2
              have HT := Lib.hid ht3
              have Hc2 := Lib.hid hc2
              clear ht2 ht3 hc2
              go_wp2_with fail
              exact ⟨⟨2, rfl, by omega, Hc.out.trans Hc2.out (fun i _ hk => by omega), by simpa [Hax.out] using HI3.out.step2 Hc2.out (fun k hk => by omega) HT.out⟩, by simp [intOf]⟩
            · have Hk := Lib.hid hk
              clear hk
              go_wp2_with fail
              refine (revoke_any _ _ _ _ _ _ _ HI3.out.two _ _ (inR_wf hok'.id) (inR_wf hok'.root)).mono ?_
              rintro e w2 ⟨rfl, ht2, hc2⟩
              have ht3 : TabAt w2 (W.heap.size + 4 + 3) (W.heap.size + 4 + 2) (W.heap.size + 4) (W.heap.size + 4 + 1) (stepQ a Q') (stepG a Q' G') := by simpa [stepQ, stepG, Hk.out] using ht2
              have HT := Lib.hid ht3
              have Hc2 := Lib.hid hc2
              clear ht2 ht3 hc2
              go_wp2_with fail
              exact ⟨⟨2, rfl, by omega, Hc.out.trans Hc2.out (fun i _ hk => by omega), by simpa [Hax.out] using HI3.out.step2 Hc2.out (fun k hk => by omega) HT.out⟩, by simp [intOf]⟩
            · have hs : stepQ a Q' = Q' ∧ stepG a Q' G' = G' := by simp [stepQ, stepG, hk.1, hk.2.1, hk.2.2]
              have Hs := Lib.hid hs
              clear hs hk
              go_wp2_with fail
              exact ⟨⟨2, rfl, by omega, Hc.out, by simpa [Hax.out, Hs.out.1, Hs.out.2] using HI3.out⟩, by simp [intOf]⟩
          · have hxx : (a.id != X) = true := by simp [hax]
            have Hax := Lib.hid hax
            clear hax
            go_wp2_with fail
            exact ⟨⟨2, rfl, by omega, Hc.out, by simpa [Hax.out] using HI3.out⟩, by simp [intOf]⟩
        | 2, _ =>
          by_cases hax : a.id = X
          · have hI4 : Two W wr (stepQ a Q) (stepG a Q G) (stepQ a Q') (stepG a Q' G') := by simpa [hax] using HI3.out
            have H4 := Lib.hid hI4
            have Hal2 := Lib.hid (Hal.out.both a hax)
            clear hI4 hax
            go_wp2_with fail
            exact ⟨⟨k + 1, _, _, _, _, by go_num, by omega, H4.out, Hal2.out⟩, by simp [intOf]; omega⟩
          · have hI4 : Two W wr (stepQ a Q) (stepG a Q G) Q' G' := by simpa [hax] using HI3.out
            have H4 := Lib.hid hI4
            have Hal2 := Lib.hid (Hal.out.other a hax)
            clear hI4 hax
            go_wp2_with fail
            exact ⟨⟨k + 1, _, _, _, _, by go_num, by omega, H4.out, Hal2.out⟩, by simp [intOf]; omega⟩
    · have h2 : (l.length ≤ k) ∨ (k < l.length ∧ decide ((k : Int) < 80) = false) := by
        rcases Nat.lt_or_ge k l.length with h | h
        · exact Or.inr ⟨h, by (simp; omega)⟩
        · exact Or.inl h
      clear hlt
      have wx : (Lit.int .i64 X).wf = true := WalkArith.wf_i64 (by omega)
      rcases h2 with h2 | ⟨h2, h3⟩
      all_goals go_wp2_with fail
      all_goals refine (quota_any _ _ _ _ _ _ _ HI.out.one _ wx).mono ?_
      all_goals rintro e w2 ⟨rfl, rfl⟩
      all_goals go_wp2_with fail
      all_goals refine (quota_any _ _ _ _ _ _ _ HI.out.two _ wx).mono ?_
      all_goals rintro e w2 ⟨rfl, rfl⟩
      all_goals rw [← Hal.out.1]
      all_goals generalize (mget Q X).getD 0 = qv
      all_goals generalize (mget Q X).isSome = bv
      all_goals cases bv
      all_goals go_wp2_with fail
      all_goals refine (roots_any _ _ _ _ _ _ _ HI.out.one _ wx).mono ?_
      all_goals rintro e w2 ⟨v1, rfl, ho1, hc1⟩
      all_goals have Ho1 := Lib.hid ho1
      all_goals have Hc1 := Lib.hid hc1
      all_goals clear ho1 hc1
      all_goals go_wp2_with fail
      all_goals refine (roots_any _ _ _ _ _ _ _ (HI.out.fresh Hc1.out).two _ wx).mono ?_
      all_goals rintro e w3 ⟨v2, rfl, ho2, hc2⟩
      all_goals have Ho2 := Lib.hid ho2
      all_goals have Hc2 := Lib.hid hc2
      all_goals clear ho2 hc2
      all_goals go_wp2_with fail
      all_goals refine (same_numbers _ _ _ _ _ ((SlAt.of_own Ho1.out).kept Hc2.out) (SlAt.of_own Ho2.out) (by have := rootsTo_le G X 6; omega)).mono ?_
      all_goals rw [← Hal.out.roots 6]
      all_goals rintro e w4 ⟨rfl, hc4⟩
      all_goals have Hc4 := Lib.hid hc4
      all_goals clear hc4
      all_goals go_wp2_with fail
      all_goals refine (works_any _).mono ?_
      all_goals rintro e w5 ⟨rfl, hc5⟩
      all_goals have Hc5 := Lib.hid hc5
      all_goals clear hc5
      all_goals go_wp2_with fail
      all_goals go_ret
      all_goals exact ⟨by simp, (((HI.out.old.trans' Hc1.out).trans' Hc2.out).trans' Hc4.out).trans' Hc5.out⟩

theorem own : ownKnob Try.prog.godebug = none := by kernel_rfl

set_option maxRecDepth 100000 in
theorem lifted (os : Os) (started : os.Started) (H : Type) (enc : TypeId × Value → H) :
    ReturnsInHanded {} Try.checked os 5 .any (Rows.capsApartSpec.pre6 enc Try.prog Try.f5 [] false) (Rows.capsApartSpec.post enc Try.prog Try.f5 false true false false) := by
  refine law_handed (C := Try.checked) (tb := 4) own started (by kernel_rfl) Try.func5
    (ChangeSpec.witness6 (enc := enc) (C := Try.checked) false ⟨#[], #[.slice none 0 0, .int .i64 0], []⟩ 8 (by kernel_rfl) (by kernel_rfl) (by kernel_rfl) (by kernel_rfl))
    laidOut (by rw [show Try.checked.prog = Try.prog from rfl, Try.params5]; intro t ht; simp at ht; rcases ht with rfl | rfl <;> exact ⟨by kernel_rfl, of_decide_eq_true (by kernel_rfl)⟩) rfl rfl Try.underlying4 ?_ ?_
  · intro ds hds
    rw [Try.params5] at hds
    match ds, hds with
    | [_, _], _ => rfl
  · intro W base args ds before hval0 hA0 _ _
    have hval : ∀ (j : Nat) t v, Try.f5.params[j]? = some t → args[j]? = some v → Value.okWide Try.prog W .any base t v := hval0
    have hA : DataW.TrodAll enc Try.prog W 0 (fun _ => true) true Try.f5.params.toList args.toList ds before := hA0
    rw [Try.params5] at hA hval
    obtain ⟨v0, vs0, d0, ds0, p0, q0, hargs, rfl, rfl, h0, r0⟩ := trodAll_cons hA
    obtain ⟨v1, vs1, d1, ds1, p1, q1, rfl, rfl, rfl, h1, r1⟩ := trodAll_cons r0
    obtain ⟨rfl, rfl, rfl⟩ := trodAll_nil r1
    obtain rfl : args = #[v0, v1] := by cases args; simp_all
    obtain ⟨oa, l, cap, rfl, h2, h3, h4, h5⟩ := open_acts (hval 0 29 v0 rfl rfl) h0
    obtain ⟨a1, rfl, rfl, rfl, w1⟩ := open_int Try.underlying3 (hval 1 3 v1 rfl rfl) h1
    exact walk l oa cap a1 (wf_inR w1) W h4 h5 h2 (by unfold maxLen at h3; omega)

theorem over : Rows.capsApartRow.holds Try.pinned (OpenSpec.ofChange Rows.capsApartSpec) :=
  OpenClaim.holds_of_wide 5 Try.f5 rfl rfl rfl rfl rfl rfl rfl ⟨rfl, rfl, rfl, rfl, rfl⟩ rfl rfl rfl rfl rfl (by kernel_rfl) Try.func5 (by kernel_rfl)
    (of_decide_eq_true (by kernel_rfl)) (by unfold Func.isWrapper; first | (rw [if_pos (by decide +kernel)]; kernel_rfl) | (rw [if_neg (by decide +kernel)]; exact ⟨rfl, rfl⟩))
    (fun os started H enc _ => lifted os started H enc)

theorem proved : Rows.CapsApartSaid := over
#print axioms proved

end Go.Proofs.Ytomceindibnpnaa.capsApart
