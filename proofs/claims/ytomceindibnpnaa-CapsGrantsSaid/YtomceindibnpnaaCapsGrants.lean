/-
  CapsGrants, whole: for every list of calls the law returns true and changes nothing that was there. No condition.
-/
import Derived.Test.YtomceindibnpnaaCapsActs
import Derived.Test.YtomceindibnpnaaRows
namespace Go.Proofs.Ytomceindibnpnaa.capsGrants
open Go.BigFrame
open Go.ChangeShapes Go.WideShapes Go.ChangeAt Go.RowKit Go.My

/-- A row of n cells of one block. -/
structure CellsFn (w : World) (b n : Nat) (f : Nat → Value) : Prop where
  cell : ∀ k, k < n → w.cell? ⟨b, k, none⟩ = some (f k)
  free : ∀ k, w.frozen? ⟨b, k, none⟩ = false

structure PInv (Q : List (Int × Int)) (G : List ((Int × Int) × Bool)) (may : Nat → Nat → Bool) (there : Nat → Bool) : Prop where
  eqT : ∀ i : Nat, 1 ≤ i → i ≤ 8 → there i = (mget Q (i : Int)).isSome
  eqM : ∀ i r : Nat, i ≤ 8 → r ≤ 6 → may i r = (mget G ((i : Int), (r : Int))).getD false
  inG : ∀ i r : Int, (mget G (i, r)).getD false = true → 1 ≤ i ∧ i ≤ 8 ∧ 1 ≤ r ∧ r ≤ 6 ∧ (mget Q i).isSome = true

structure MInv (W w : World) (n : Nat) (Q : List (Int × Int)) (G : List ((Int × Int) × Bool)) (may : Nat → Nat → Bool) (there : Nat → Bool) : Prop where
  tab : TabAt w (n + 3) (n + 2) n (n + 1) Q G
  mays : CellsFn w (n + 4) 63 (fun k => .bool (may (k / 7) (k % 7)))
  theres : CellsFn w (n + 5) 9 (fun k => .bool (there k))
  old : Chg (fun _ => False) W w
  base : n = W.heap.size
  size : n + 5 < w.heap.size
def Inv (W w : World) (n : Nat) (Q : List (Int × Int)) (G : List ((Int × Int) × Bool)) (may : Nat → Nat → Bool) (there : Nat → Bool) : Prop := MInv W w n Q G may there ∧ PInv Q G may there

theorem code_zero (Q : List (Int × Int)) (id root : Int) : askedCode Q id root = 0 ↔ (1 ≤ id ∧ id ≤ 8 ∧ 1 ≤ root ∧ root ≤ 6) ∧ (mget Q id).isSome = true := by
  unfold askedCode
  by_cases h : 1 ≤ id ∧ id ≤ 8 ∧ 1 ≤ root ∧ root ≤ 6
  · rw [if_pos h]; by_cases h' : (mget Q id).isSome = true <;> simp [h, h']
  · rw [if_neg h]; simp [h]

theorem isSome_tenant (Q : List (Int × Int)) (id quota i : Int) : (mget (tenantMap Q id quota) i).isSome = ((mget Q i).isSome || decide (i = id ∧ 1 ≤ id ∧ id ≤ 8 ∧ 0 ≤ quota)) := by
  unfold tenantMap tenantCode
  by_cases h : 1 ≤ id ∧ id ≤ 8 ∧ 0 ≤ quota
  · rw [if_pos h]
    by_cases h' : (mget Q id).isSome = true
    · rw [if_pos h', if_neg (by omega)]
      by_cases e : i = id
      · subst e; simp [h']
      · simp [e]
    · rw [if_neg h', if_pos rfl, mget_mput]
      by_cases e : i = id
      · simp [e, h]
      · simp [e]
  · rw [if_neg h, if_neg (by omega)]
    have : ¬ (i = id ∧ 1 ≤ id ∧ id ≤ 8 ∧ 0 ≤ quota) := fun h' => h h'.2
    simp [this]

theorem PInv.tenant {Q G may there} (h : PInv Q G may there) (id quota : Int) (hin : 1 ≤ id) (hin' : id ≤ 8) (hq : 0 ≤ quota) : PInv (tenantMap Q id quota) G may (fun i => if i = id.toNat then true else there i) where
  eqT i h1 h2 := by
    rw [isSome_tenant, ← h.eqT i h1 h2]
    by_cases e : i = id.toNat
    · simp [e, hin, hin', hq]; omega
    · have : ¬ ((i : Int) = id) := by omega
      simp [e, this]
  eqM := h.eqM
  inG i r hg := by
    have := h.inG i r hg
    refine ⟨this.1, this.2.1, this.2.2.1, this.2.2.2.1, ?_⟩
    rw [isSome_tenant, this.2.2.2.2]; rfl

theorem PInv.tenant_no {Q G may there} (h : PInv Q G may there) (id quota : Int) (hn : ¬ (1 ≤ id ∧ id ≤ 8 ∧ 0 ≤ quota)) : PInv (tenantMap Q id quota) G may there := by
  have : tenantMap Q id quota = Q := by unfold tenantMap tenantCode; rw [if_neg hn, if_neg (by omega)]
  rw [this]; exact h

theorem PInv.put {Q G may there} (h : PInv Q G may there) (id root : Int) (b : Bool) (h1 : 1 ≤ id) (h2 : id ≤ 8) (h3 : 1 ≤ root) (h4 : root ≤ 6) (hs : (mget Q id).isSome = true) :
    PInv Q (mput G (id, root) b) (fun i r => if i = id.toNat ∧ r = root.toNat then b else may i r) there where
  eqT := h.eqT
  eqM i r hi hr := by
    rw [mget_mput, h.eqM i r hi hr]
    by_cases e : i = id.toNat ∧ r = root.toNat
    · have : ((i : Int), (r : Int)) = (id, root) := by rw [Prod.mk.injEq]; omega
      rw [if_pos e, if_pos this]; rfl
    · have : ¬ ((i : Int), (r : Int)) = (id, root) := by rw [Prod.mk.injEq]; omega
      rw [if_neg e, if_neg this]
  inG i r hg := by
    rw [mget_mput] at hg
    by_cases e : (i, r) = (id, root)
    · rw [Prod.mk.injEq] at e; obtain ⟨rfl, rfl⟩ := e; exact ⟨h1, h2, h3, h4, hs⟩
    · rw [if_neg e] at hg; exact h.inG i r hg

theorem PInv.grant_no {Q G may there} (h : PInv Q G may there) (id root : Int) (b : Bool) (hn : askedCode Q id root ≠ 0) : PInv Q (grantMap Q G id root b) may there := by
  have : grantMap Q G id root b = G := by unfold grantMap; rw [if_neg hn]
  rw [this]; exact h

theorem PInv.grant {Q G may there} (h : PInv Q G may there) (id root : Int) (b : Bool) (hn : askedCode Q id root = 0) : PInv Q (grantMap Q G id root b) (fun i r => if i = id.toNat ∧ r = root.toNat then b else may i r) there := by
  have : grantMap Q G id root b = mput G (id, root) b := by unfold grantMap; rw [if_pos hn]
  rw [this]
  obtain ⟨⟨h1, h2, h3, h4⟩, h5⟩ := (code_zero Q id root).1 hn
  exact h.put id root b h1 h2 h3 h4 h5

/-- A root that is taken away: whether the tenant is there or not. -/
theorem PInv.revoke {Q G may there} (h : PInv Q G may there) (id root : Int) (h1 : 1 ≤ id) (h2 : id ≤ 8) (h3 : 1 ≤ root) (h4 : root ≤ 6) : PInv Q (grantMap Q G id root false) (fun i r => if i = id.toNat ∧ r = root.toNat then false else may i r) there := by
  by_cases hn : askedCode Q id root = 0
  · exact h.grant id root false hn
  · refine ⟨(h.grant_no id root false hn).eqT, fun i r hi hr => ?_, (h.grant_no id root false hn).inG⟩
    rw [← (h.grant_no id root false hn).eqM i r hi hr]
    by_cases e : i = id.toNat ∧ r = root.toNat
    · rw [if_pos e]
      cases hm : may i r with
      | false => rfl
      | true =>
        rw [h.eqM i r hi hr] at hm
        have := h.inG _ _ hm
        have e' : (i : Int) = id := by omega
        rw [e'] at this
        exact absurd ((code_zero Q id root).2 ⟨⟨h1, h2, h3, h4⟩, this.2.2.2.2⟩) hn
    · rw [if_neg e]

theorem cellsFn_new (w : World) (n : Nat) (v : Value) (t : TypeId) : CellsFn (w.alloc (.cells (Array.replicate n v) t)) w.heap.size n (fun _ => v) where
  cell k hk := cell_of_block (block_alloc_new _ _) (by simp [hk])
  free k := free_of_block (block_alloc_new _ _)

theorem CellsFn.kept {w w' : World} {b n : Nat} {f : Nat → Value} (h : CellsFn w b n f) {S : Nat → Prop} (hc : Chg S w w') (hn : ¬ S b) (hn0 : b < w.heap.size) : CellsFn w' b n f where
  cell k hk := hc.cell (h.cell k hk) hn
  free k := by rw [World.frozen?_of_block (w := w) (hc.block b hn0 hn)]; exact h.free k

theorem inv0 (W w1 : World) (h : TabAt w1 (W.heap.size + 3) (W.heap.size + 2) W.heap.size (W.heap.size + 1) [] []) (hc : Chg (fun _ => False) W w1) (hs : w1.heap.size = W.heap.size + 4) :
    Inv W ((w1.alloc (.cells (Array.replicate 63 (.bool false)) 31)).alloc (.cells (Array.replicate 9 (.bool false)) 32)) W.heap.size [] [] (fun _ _ => false) (fun _ => false) := by
  have c1 : Chg (fun _ => False) w1 ((w1.alloc (.cells (Array.replicate 63 (.bool false)) 31)).alloc (.cells (Array.replicate 9 (.bool false)) 32)) := ((Chg.refl _ _).alloc _).alloc _
  refine ⟨⟨h.kept c1 id id id id, ?_, ?_, hc.trans' c1, rfl, by simp; omega⟩, ⟨by intro i _ _; simp [mget_nil], by intro i r _ _; simp [mget_nil], by intro i r h; simp [mget_nil] at h⟩⟩
  · rw [show W.heap.size + 4 = w1.heap.size from hs.symm]
    exact (cellsFn_new w1 63 _ _).kept (S := fun _ => False) ((Chg.refl _ _).alloc _) id (by simp)
  · have := cellsFn_new (w1.alloc (.cells (Array.replicate 63 (.bool false)) 31)) 9 (.bool false) 32
    rw [World.size_alloc, hs] at this
    exact this

theorem MInv.step {W w w' : World} {n Q G may there Q' G'} (h : MInv W w n Q G may there) {S : Nat → Prop} (hc : Chg S w w') (ht : TabAt w' (n + 3) (n + 2) n (n + 1) Q' G') (hs : ∀ k, S k → n ≤ k ∧ k < n + 4) : MInv W w' n Q' G' may there where
  tab := ht
  mays := h.mays.kept hc (fun h => by have := hs _ h; omega) (by have := h.size; omega)
  theres := h.theres.kept hc (fun h => by have := hs _ h; omega) (by have := h.size; omega)
  old := h.old.trans hc (fun i hi hk => by have := hs i hk; have := h.base; omega)
  base := h.base
  size := Nat.lt_of_lt_of_le h.size hc.size

theorem Inv.box {W w : World} {n Q G may there} (h : Inv W w n Q G may there) (o : Obj) : Inv W (w.alloc o) n Q G may there :=
  ⟨h.1.step (S := fun _ => False) ((Chg.refl _ _).alloc o) (h.1.tab.kept (S := fun _ => False) ((Chg.refl _ _).alloc o) id id id id) (fun _ h => h.elim), h.2⟩

theorem CellsFn.set {w : World} {b n : Nat} {f : Nat → Value} (h : CellsFn w b n f) {i : Nat} (hi : i < n) (v : Value) : CellsFn (w.setCell ⟨b, i, none⟩ v) b n (fun k => if k = i then v else f k) where
  cell k hk := by
    by_cases e : k = i
    · subst e; rw [if_pos rfl]; exact World.cell?_setCell_same _ _ _ (h.cell k hk)
    · rw [if_neg e, World.cell?_setCell_other _ _ _ _ (by intro h; cases h; exact e rfl)]; exact h.cell k hk
  free k := by rw [World.frozen?_setCell]; exact h.free k

theorem MInv.set_there {W w : World} {n Q G may there} (h : MInv W w n Q G may there) {i : Nat} (hi : i < 9) (b : Bool) : MInv W (w.setCell ⟨n + 5, i, none⟩ (.bool b)) n Q G may (fun k => if k = i then b else there k) := by
  have c : Chg (· = n + 5) w (w.setCell ⟨n + 5, i, none⟩ (.bool b)) := Chg.setCell (S := (· = n + 5)) (Chg.refl _ w) (fun _ => rfl) _
  refine ⟨h.tab.kept c (by omega) (by omega) (by omega) (by omega), h.mays.kept c (by omega) (by have := h.size; omega), ?_, h.old.trans c (fun i hi hk => by have := h.base; omega), h.base, by simpa using h.size⟩
  have := h.theres.set hi (.bool b)
  refine ⟨fun k hk => ?_, this.free⟩
  rw [this.cell k hk]; simp only [Value.ite_bool]

theorem MInv.set_may {W w : World} {n Q G may there} (h : MInv W w n Q G may there) {i r : Nat} (hi : i < 9) (hr : r < 7) (b : Bool) : MInv W (w.setCell ⟨n + 4, i * 7 + r, none⟩ (.bool b)) n Q G (fun i' r' => if i' = i ∧ r' = r then b else may i' r') there := by
  have c : Chg (· = n + 4) w (w.setCell ⟨n + 4, i * 7 + r, none⟩ (.bool b)) := Chg.setCell (S := (· = n + 4)) (Chg.refl _ w) (fun _ => rfl) _
  refine ⟨h.tab.kept c (by omega) (by omega) (by omega) (by omega), ?_, h.theres.kept c (by omega) (by have := h.size; omega), h.old.trans c (fun i hi hk => by have := h.base; omega), h.base, by have := h.size; simp; omega⟩
  have := h.mays.set (i := i * 7 + r) (by omega) (.bool b)
  refine ⟨fun k hk => ?_, this.free⟩
  rw [this.cell k hk]; simp only [Value.ite_bool]
  by_cases e : k = i * 7 + r
  · rw [if_pos e, if_pos (by omega)]
  · rw [if_neg e, if_neg (by omega)]

theorem MInv.drew {W w : World} {n Q G may there} (h : MInv W w n Q G may there) : MInv W w.drew n Q G may there :=
  ⟨h.tab.kept (S := fun _ => False) (Chg.refl _ _).drew id id id id, h.mays.kept (S := fun _ => False) (Chg.refl _ _).drew id (by have := h.size; omega), h.theres.kept (S := fun _ => False) (Chg.refl _ _).drew id (by have := h.size; omega), h.old.drew, h.base, h.size⟩

theorem Inv.fresh {W w : World} {n Q G may there} (h : Inv W w n Q G may there) (x : FreshW w) : Inv W x.val n Q G may there :=
  ⟨h.1.step (S := fun _ => False) x.chg (h.1.tab.kept (S := fun _ => False) x.chg id id id id) (fun _ h => h.elim), h.2⟩

theorem Inv.boxed {W w : World} {n Q G may there} (_h : Inv W w n Q G may there) (a : Act) : CellsFn (w.alloc (.cells #[.int .i64 a.kind, .int .i64 a.id, .int .i64 a.root, .int .i64 a.quota, .int .i64 a.used, .int .i64 a.more] 34)) w.heap.size 6 (fun k => a.row.getD k undef) ∧
    w.heap.size < (w.alloc (.cells #[.int .i64 a.kind, .int .i64 a.id, .int .i64 a.root, .int .i64 a.quota, .int .i64 a.used, .int .i64 a.more] 34)).heap.size :=
  ⟨⟨fun k hk => cell_of_block (block_alloc_new _ _) (by match k, hk with | 0, _ => rfl | 1, _ => rfl | 2, _ => rfl | 3, _ => rfl | 4, _ => rfl | 5, _ => rfl), fun _ => free_of_block (block_alloc_new _ _)⟩, by simp⟩

set_option maxRecDepth 100000 in
set_option maxHeartbeats 1000000 in
theorem walk (l : List Act) (oa : Option Addr) (cap : Nat) (W : World) (hR : RowsAt W 6 oa (l.map Act.row)) (hok : ∀ a ∈ l, a.ok) (hl : l.length ≤ cap) (hcap : cap ≤ 9223372036854775807) :
    Calls Try.prog 4 #[.slice oa l.length cap] W fun e w' => e = .returned (.bool true) ∧ Chg (fun _ => False) W w' := by
  go_enter Try.func4, Try.ntmps4
  go_wp2_with fail
  refine (new_any _).mono ?_
  rintro e w1 ⟨rfl, h1, hc1, hs1⟩
  have H1 := Lib.hid h1
  have Hs1 := Lib.hid hs1
  clear h1 hs1
  go_wp2_with fail
  rw [Hs1.out]
  go_loopw [6] (fun i w => ∃ (k : Nat) (Q : List (Int × Int)) (G : List ((Int × Int) × Bool)) (may : Nat → Nat → Bool) (there : Nat → Bool), i = .int .i64 k ∧ k ≤ l.length ∧ Inv W w W.heap.size Q G may there) (fun i _ => l.length - (intOf i).toNat)
  case atStart =>
    refine ⟨0, [], [], fun _ _ => false, fun _ => false, rfl, Nat.zero_le _, inv0 W w1 H1.out hc1 Hs1.out⟩
  case round =>
    obtain ⟨k, Q, G, may, there, rfl, hk, hI⟩ := hrel
    by_cases hlt : k < l.length ∧ k < 80
    · obtain ⟨hlt, h80⟩ := hlt
      have hd80 : decide ((k : Int) < 80) = true := by simp; omega
      obtain ⟨b, off, rfl⟩ := hR.spot (by intro e; cases l with | nil => simp at hlt | cons => simp at e)
      obtain ⟨a, ha⟩ : ∃ a, l[k]? = some a := ⟨l[k], List.getElem?_eq_getElem hlt⟩
      have hok' := hok a (List.mem_of_getElem? ha)
      have hcell := fun j v hj => (hR.kept hI.1.old (fun _ _ => id)).cell b off rfl k a.row j v (by simp [ha]) hj
      have c0 : wr.cell? ⟨b, off + k * 6, none⟩ = some (.int .i64 a.kind) := hcell 0 _ rfl
      have c1 : wr.cell? ⟨b, off + k * 6 + 1, none⟩ = some (.int .i64 a.id) := hcell 1 _ rfl
      have c2 : wr.cell? ⟨b, off + k * 6 + 2, none⟩ = some (.int .i64 a.root) := hcell 2 _ rfl
      have c3 : wr.cell? ⟨b, off + k * 6 + 3, none⟩ = some (.int .i64 a.quota) := hcell 3 _ rfl
      have c4 : wr.cell? ⟨b, off + k * 6 + 4, none⟩ = some (.int .i64 a.used) := hcell 4 _ rfl
      have c5 : wr.cell? ⟨b, off + k * 6 + 5, none⟩ = some (.int .i64 a.more) := hcell 5 _ rfl
      clear hcell
      have HI := Lib.hid hI
      have Ha := Lib.hid ha
      clear hI ha hR
      have hkind : (a.kind == 0) = true ∨ ((a.kind == 0) = false ∧ (a.kind == 1) = true) ∨ ((a.kind == 0) = false ∧ (a.kind == 1) = false ∧ (a.kind == 2) = true) ∨ ((a.kind == 0) = false ∧ (a.kind == 1) = false ∧ (a.kind == 2) = false) := by
        simp only [beq_iff_eq, beq_eq_false_iff_ne]; omega
      have hside : ((a.id < 1) ∨ (1 ≤ a.id ∧ 8 < a.id) ∨ (1 ≤ a.id ∧ a.id ≤ 8 ∧ a.root < 1) ∨ (1 ≤ a.id ∧ a.id ≤ 8 ∧ 1 ≤ a.root ∧ 6 < a.root)) ∨ (1 ≤ a.id ∧ a.id ≤ 8 ∧ 1 ≤ a.root ∧ a.root ≤ 6) := by omega
      rcases hside with hside | ⟨hs1, hs2, hs3, hs4⟩
      · rcases hside with hs1 | ⟨hs1, hs2⟩ | ⟨hs1, hs2, hs3⟩ | ⟨hs1, hs2, hs3, hs4⟩
        all_goals try (have hd6 : decide (a.root ≤ 6) = false := by (simp; omega))
        all_goals go_wp2_with fail
        all_goals go_loopw [48] (fun j w => ∃ (m : Nat) (Q : List (Int × Int)) (G : List ((Int × Int) × Bool)) (may : Nat → Nat → Bool) (there : Nat → Bool), j = .int .i64 m ∧ m ≤ 2 ∧ Inv W w W.heap.size Q G may there ∧ CellsFn w wr.heap.size 6 (fun k => a.row.getD k undef) ∧ wr.heap.size < w.heap.size) (fun j _ => 2 - (intOf j).toNat)
        all_goals try (first | exact ⟨0, Q, G, may, there, rfl, by omega, HI.out.box _, HI.out.boxed a⟩ | fail)
        all_goals obtain ⟨m, Q1, G1, may1, there1, rfl, hm, hI1, hA1, hAs⟩ := hrel
        all_goals have a0 := hA1.cell 0 (by omega)
        all_goals have a1 := hA1.cell 1 (by omega)
        all_goals have a2 := hA1.cell 2 (by omega)
        all_goals have a3 := hA1.cell 3 (by omega)
        all_goals simp only [Act.row, List.getD_cons_zero, List.getD_cons_succ] at a0 a1 a2 a3
        all_goals have HI1 := Lib.hid hI1
        all_goals have HA1 := Lib.hid hA1
        all_goals clear hI1 hA1
        all_goals have ec : askedCode Q1 a.id a.root = 2 := by unfold askedCode; rw [if_neg (by omega)]
        all_goals by_cases hm2 : m < 2
        all_goals first
          | (have hm2' : m < 2 := hm2; clear hm2')
          | (go_wp2_with fail; exact ⟨⟨k + 1, Q1, G1, may1, there1, by go_num, by omega, HI1.out⟩, by simp [intOf]; omega⟩)
        all_goals rcases hkind with h0 | ⟨h0, h1⟩ | ⟨h0, h1, h2⟩ | ⟨h0, h1, h2⟩
        all_goals go_wp2_with fail
        all_goals have Hec := Lib.hid ec
        all_goals clear ec
        all_goals first
          | (go_at_call 16
             refine (tenant_any _ _ _ _ _ _ _ HI1.out.1.tab _ _ (inR_wf hok'.id)).mono ?_
             rintro e w2 ⟨rfl, ht2, hc2⟩
             have hz := HI.out.1.size
             have d1 := hc2.cell a1 (by simp only; omega)
             have d2 := hc2.cell a2 (by simp only; omega)
             have d3 := hc2.cell a3 (by simp only; omega)
             have HM2 := Lib.hid (HI1.out.1.step hc2 ht2 (fun k hk => by omega))
             have HA2 := Lib.hid (HA1.out.kept hc2 (by omega) hAs)
             have Hs2 := Lib.hid (Nat.lt_of_lt_of_le hAs hc2.size)
             have hb : ¬ (1 ≤ a.id ∧ a.id ≤ 8) := by omega
             have HP := Lib.hid (HI1.out.2.tenant_no a.id a.quota (by omega))
             clear ht2 hc2 hz hb
             go_wp2_with fail
             all_goals go_roundw
             all_goals try (simp [intOf]; omega)
             exact ⟨m + 1, _, G1, may1, there1, by go_num, by omega, ⟨HM2.out, HP.out⟩, HA2.out, Hs2.out⟩)
          | (go_at_call 16
             refine (tenant_any _ _ _ _ _ _ _ HI1.out.1.tab _ _ (inR_wf hok'.id)).mono ?_
             rintro e w2 ⟨rfl, ht2, hc2⟩
             have hz := HI.out.1.size
             have d1 := hc2.cell a1 (by simp only; omega)
             have d2 := hc2.cell a2 (by simp only; omega)
             have d3 := hc2.cell a3 (by simp only; omega)
             have HM2 := Lib.hid (HI1.out.1.step hc2 ht2 (fun k hk => by omega))
             have HA2 := Lib.hid (HA1.out.kept hc2 (by omega) hAs)
             have Hs2 := Lib.hid (Nat.lt_of_lt_of_le hAs hc2.size)
             have t1 : w2.cell? ⟨W.heap.size + 4 + 1, a.id.toNat, none⟩ = some (.bool (there1 a.id.toNat)) := HM2.out.theres.cell a.id.toNat (by omega)
             have t2 : w2.frozen? ⟨W.heap.size + 4 + 1, a.id.toNat, none⟩ = false := HM2.out.theres.free _
             clear ht2 hc2 hz
             go_wp2_with fail
             all_goals go_roundw
             all_goals try (simp [intOf]; omega)
             · exact ⟨m + 1, _, G1, may1, _, by go_num, by omega, ⟨HM2.out.set_there (i := a.id.toNat) (by omega) true, HI1.out.2.tenant _ _ (by omega) (by omega) ‹_›⟩, HA2.out.kept (S := (· = W.heap.size + 5)) (Chg.setCell (S := (· = W.heap.size + 5)) (Chg.refl _ w2) (fun _ => rfl) _) (by have := HI.out.1.size; omega) Hs2.out, by have := Hs2.out; simpa using this⟩
             · exact ⟨m + 1, _, G1, may1, there1, by go_num, by omega, ⟨HM2.out, HI1.out.2.tenant_no _ _ (by omega)⟩, HA2.out, Hs2.out⟩)
          | (go_at_call 19
             refine (grant_any _ _ _ _ _ _ _ HI1.out.1.tab _ _ (inR_wf hok'.id) (inR_wf hok'.root)).mono ?_
             rintro e w2 ⟨rfl, ht2, hc2⟩
             have hz := HI.out.1.size
             have d1 := hc2.cell a1 (by simp only; omega)
             have d2 := hc2.cell a2 (by simp only; omega)
             have d3 := hc2.cell a3 (by simp only; omega)
             have HM2 := Lib.hid (HI1.out.1.step hc2 ht2 (fun k hk => by omega))
             have HA2 := Lib.hid (HA1.out.kept hc2 (by omega) hAs)
             have Hs2 := Lib.hid (Nat.lt_of_lt_of_le hAs hc2.size)
             have HP := Lib.hid (HI1.out.2.grant_no a.id a.root true (by rw [Hec.out]; decide))
             rw [Hec.out]
             clear ht2 hc2 hz
             go_wp2_with fail
             all_goals go_roundw
             all_goals try (simp [intOf]; omega)
             exact ⟨m + 1, _, _, may1, there1, by go_num, by omega, ⟨HM2.out, HP.out⟩, HA2.out, Hs2.out⟩)
          | (go_at_call 20
             refine (revoke_any _ _ _ _ _ _ _ HI1.out.1.tab _ _ (inR_wf hok'.id) (inR_wf hok'.root)).mono ?_
             rintro e w2 ⟨rfl, ht2, hc2⟩
             have hz := HI.out.1.size
             have d1 := hc2.cell a1 (by simp only; omega)
             have d2 := hc2.cell a2 (by simp only; omega)
             have d3 := hc2.cell a3 (by simp only; omega)
             have HM2 := Lib.hid (HI1.out.1.step hc2 ht2 (fun k hk => by omega))
             have HA2 := Lib.hid (HA1.out.kept hc2 (by omega) hAs)
             have Hs2 := Lib.hid (Nat.lt_of_lt_of_le hAs hc2.size)
             have HP := Lib.hid (HI1.out.2.grant_no a.id a.root false (by rw [Hec.out]; decide))
             clear ht2 hc2 hz
             go_wp2_with fail
             all_goals go_roundw
             all_goals try (simp [intOf]; omega)
             exact ⟨m + 1, _, _, may1, there1, by go_num, by omega, ⟨HM2.out, HP.out⟩, HA2.out, Hs2.out⟩)
          | (all_goals go_roundw
             all_goals try (simp [intOf]; omega)
             exact ⟨m + 1, _, _, may1, there1, by go_num, by omega, HI1.out, HA1.out, hAs⟩)
      · skip
        all_goals go_wp2_with fail
        all_goals go_loopw [48] (fun j w => ∃ (m : Nat) (Q : List (Int × Int)) (G : List ((Int × Int) × Bool)) (may : Nat → Nat → Bool) (there : Nat → Bool), j = .int .i64 m ∧ m ≤ 2 ∧ Inv W w W.heap.size Q G may there ∧ CellsFn w wr.heap.size 6 (fun k => a.row.getD k undef) ∧ wr.heap.size < w.heap.size) (fun j _ => 2 - (intOf j).toNat)
        all_goals try (first | exact ⟨0, Q, G, may, there, rfl, by omega, HI.out.box _, HI.out.boxed a⟩ | fail)
        all_goals obtain ⟨m, Q1, G1, may1, there1, rfl, hm, hI1, hA1, hAs⟩ := hrel
        all_goals have a0 := hA1.cell 0 (by omega)
        all_goals have a1 := hA1.cell 1 (by omega)
        all_goals have a2 := hA1.cell 2 (by omega)
        all_goals have a3 := hA1.cell 3 (by omega)
        all_goals simp only [Act.row, List.getD_cons_zero, List.getD_cons_succ] at a0 a1 a2 a3
        all_goals have HI1 := Lib.hid hI1
        all_goals have HA1 := Lib.hid hA1
        all_goals clear hI1 hA1
        all_goals by_cases hm2 : m < 2
        all_goals first
          | (have hm2' : m < 2 := hm2; clear hm2')
          | (go_wp2_with fail; exact ⟨⟨k + 1, Q1, G1, may1, there1, by go_num, by omega, HI1.out⟩, by simp [intOf]; omega⟩)
        all_goals rcases hkind with h0 | ⟨h0, h1⟩ | ⟨h0, h1, h2⟩ | ⟨h0, h1, h2⟩
        · go_wp2_with fail
          refine (tenant_any _ _ _ _ _ _ _ HI1.out.1.tab _ _ (inR_wf hok'.id)).mono ?_
          rintro e w2 ⟨rfl, ht2, hc2⟩
          have hz := HI.out.1.size
          have d1 := hc2.cell a1 (by simp only; omega)
          have d3 := hc2.cell a3 (by simp only; omega)
          have HM2 := Lib.hid (HI1.out.1.step hc2 ht2 (fun k hk => by omega))
          have HA2 := Lib.hid (HA1.out.kept hc2 (by omega) hAs)
          have Hs2 := Lib.hid (Nat.lt_of_lt_of_le hAs hc2.size)
          have t1 : w2.cell? ⟨W.heap.size + 4 + 1, a.id.toNat, none⟩ = some (.bool (there1 a.id.toNat)) := HM2.out.theres.cell a.id.toNat (by omega)
          have t2 : w2.frozen? ⟨W.heap.size + 4 + 1, a.id.toNat, none⟩ = false := HM2.out.theres.free _
          clear ht2 hc2 hz
          go_wp2_with fail
          all_goals go_roundw
          all_goals try (simp [intOf]; omega)
          · exact ⟨m + 1, _, G1, may1, _, by go_num, by omega, ⟨HM2.out.set_there (i := a.id.toNat) (by omega) true, HI1.out.2.tenant _ _ hs1 hs2 ‹_›⟩, HA2.out.kept (S := (· = W.heap.size + 5)) (Chg.setCell (S := (· = W.heap.size + 5)) (Chg.refl _ w2) (fun _ => rfl) _) (by have := HI.out.1.size; omega) Hs2.out, by have := Hs2.out; simpa using this⟩
          · exact ⟨m + 1, _, G1, may1, there1, by go_num, by omega, ⟨HM2.out, HI1.out.2.tenant_no _ _ (by omega)⟩, HA2.out, Hs2.out⟩
        · have hcz := code_zero Q1 a.id a.root
          have ht := HI1.out.2.eqT a.id.toNat (by omega) (by omega)
          rw [Int.toNat_of_nonneg (by omega)] at ht
          have hcode : (askedCode Q1 a.id a.root = 0 ∧ there1 a.id.toNat = true) ∨ ((askedCode Q1 a.id a.root == 0) = false ∧ there1 a.id.toNat = false) := by
            rw [ht]
            by_cases hs : (mget Q1 a.id).isSome = true
            · exact Or.inl ⟨hcz.2 ⟨⟨hs1, hs2, hs3, hs4⟩, hs⟩, hs⟩
            · exact Or.inr ⟨by rw [beq_eq_false_iff_ne]; intro e; exact hs (hcz.1 e).2, by simpa using hs⟩
          clear hcz ht
          go_wp2_with fail
          refine (grant_any _ _ _ _ _ _ _ HI1.out.1.tab _ _ (inR_wf hok'.id) (inR_wf hok'.root)).mono ?_
          rintro e w2 ⟨rfl, ht2, hc2⟩
          have hz := HI.out.1.size
          have d1 := hc2.cell a1 (by simp only; omega)
          have d2 := hc2.cell a2 (by simp only; omega)
          have HM2 := Lib.hid (HI1.out.1.step hc2 ht2 (fun k hk => by omega))
          have HA2 := Lib.hid (HA1.out.kept hc2 (by omega) hAs)
          have Hs2 := Lib.hid (Nat.lt_of_lt_of_le hAs hc2.size)
          rcases hcode with ⟨e1, e2⟩ | ⟨e1, e2⟩
          · have HP := Lib.hid (HI1.out.2.grant a.id a.root true e1)
            have t1 : w2.cell? ⟨W.heap.size + 4 + 1, a.id.toNat, none⟩ = some (.bool true) := by have := HM2.out.theres.cell a.id.toNat (by omega); rw [e2] at this; exact this
            have t3 := HM2.out.mays.cell (a.id.toNat * 7 + a.root.toNat) (by omega)
            have t4 := HM2.out.mays.free (a.id.toNat * 7 + a.root.toNat)
            clear ht2 hc2 hz e2
            rw [e1]
            go_wp2_with fail
            go_region
            all_goals go_wp2_with fail
            all_goals go_roundw
            all_goals try (simp [intOf]; omega)
            · exact ⟨m + 1, _, _, _, there1, by go_num, by omega, ⟨(HM2.out.set_may (i := a.id.toNat) (r := a.root.toNat) (by omega) (by omega) true).drew, HP.out⟩, (HA2.out.kept (S := (· = W.heap.size + 4)) (Chg.setCell (S := (· = W.heap.size + 4)) (Chg.refl _ w2) (fun _ => rfl) _).drew (by have := HI.out.1.size; omega) Hs2.out), by have := Hs2.out; simpa using this⟩
          · have HP := Lib.hid (HI1.out.2.grant_no a.id a.root true (by rw [beq_eq_false_iff_ne] at e1; exact e1))
            have t1 : w2.cell? ⟨W.heap.size + 4 + 1, a.id.toNat, none⟩ = some (.bool false) := by have := HM2.out.theres.cell a.id.toNat (by omega); rw [e2] at this; exact this
            clear ht2 hc2 hz e2
            go_wp2_with fail
            all_goals go_roundw
            all_goals try (simp [intOf]; omega)
            · exact ⟨m + 1, _, _, _, there1, by go_num, by omega, ⟨HM2.out, HP.out⟩, HA2.out, Hs2.out⟩
        · go_wp2_with fail
          refine (revoke_any _ _ _ _ _ _ _ HI1.out.1.tab _ _ (inR_wf hok'.id) (inR_wf hok'.root)).mono ?_
          rintro e w2 ⟨rfl, ht2, hc2⟩
          have hz := HI.out.1.size
          have d1 := hc2.cell a1 (by simp only; omega)
          have d2 := hc2.cell a2 (by simp only; omega)
          have HM2 := Lib.hid (HI1.out.1.step hc2 ht2 (fun k hk => by omega))
          have HA2 := Lib.hid (HA1.out.kept hc2 (by omega) hAs)
          have Hs2 := Lib.hid (Nat.lt_of_lt_of_le hAs hc2.size)
          have HP := Lib.hid (HI1.out.2.revoke a.id a.root hs1 hs2 hs3 hs4)
          have t3 := HM2.out.mays.cell (a.id.toNat * 7 + a.root.toNat) (by omega)
          have t4 := HM2.out.mays.free (a.id.toNat * 7 + a.root.toNat)
          clear ht2 hc2 hz
          go_wp2_with fail
          go_region
          all_goals go_wp2_with fail
          all_goals go_roundw
          all_goals try (simp [intOf]; omega)
          · exact ⟨m + 1, _, _, _, there1, by go_num, by omega, ⟨(HM2.out.set_may (i := a.id.toNat) (r := a.root.toNat) (by omega) (by omega) false).drew, HP.out⟩, (HA2.out.kept (S := (· = W.heap.size + 4)) (Chg.setCell (S := (· = W.heap.size + 4)) (Chg.refl _ w2) (fun _ => rfl) _).drew (by have := HI.out.1.size; omega) Hs2.out), by have := Hs2.out; simpa using this⟩
        · go_wp2_with fail
          all_goals go_roundw
          all_goals try (simp [intOf]; omega)
          · exact ⟨m + 1, _, _, _, there1, by go_num, by omega, HI1.out, HA1.out, hAs⟩
    · have h2 : (l.length ≤ k) ∨ (k < l.length ∧ decide ((k : Int) < 80) = false) := by
        rcases Nat.lt_or_ge k l.length with h | h
        · exact Or.inr ⟨h, by (simp; omega)⟩
        · exact Or.inl h
      have HI := Lib.hid hI
      clear hI hlt
      rcases h2 with h2 | ⟨h2, h3⟩
      all_goals go_wp2_with fail
      all_goals go_loopw [115, 10, 11] (fun i _ _ w => ∃ m : Nat, i = .int .i64 m ∧ m ≤ 9 ∧ Inv W w W.heap.size Q G may there) (fun i _ _ _ => 9 - (intOf i).toNat)
      all_goals try exact ⟨0, rfl, by omega, HI.out⟩
      all_goals obtain ⟨m, rfl, hm, hI1⟩ := hrel
      all_goals have HI1 := Lib.hid hI1
      all_goals clear hI1
      all_goals by_cases hm9 : m < 9
      all_goals first
        | (have hm9' : ¬ m < 9 := hm9
           go_wp2_with (go_at_call 17; refine (works_any _).mono ?_; rintro e w3 ⟨rfl, hc3⟩)
           go_ret
           exact ⟨rfl, HI1.out.1.old.trans' hc3⟩)
        | (have hm9' : m < 9 := hm9
           clear hm9')
      all_goals go_wp2_with fail
      all_goals go_loopw [118, 11] (fun r _ w => ∃ p : Nat, r = .int .i64 p ∧ p ≤ 7 ∧ Inv W w W.heap.size Q G may there) (fun r _ _ => 7 - (intOf r).toNat)
      all_goals try exact ⟨0, rfl, by omega, HI1.out⟩
      all_goals
        obtain ⟨p, rfl, hp, hI2⟩ := hrel
        by_cases hp7 : p < 7
        · go_wp2_with fail
          have hm1 : ∀ n : FreshW wr, n.val.cell? ⟨W.heap.size + 4, m * 7 + p, none⟩ = some (.bool (may m p)) := by
            intro n
            have := (hI2.1.mays.kept n.chg id (by have := hI2.1.size; omega)).cell (m * 7 + p) (by omega)
            rw [show (m * 7 + p) / 7 = m by omega, show (m * 7 + p) % 7 = p by omega] at this
            exact this
          have hmay : mayB G m p = may m p := by
            rw [hI2.2.eqM m p (by omega) (by omega)]
            unfold mayB
            cases hg : (mget G ((m : Int), (p : Int))).getD false with
            | false => simp
            | true =>
              have h1 := (hI2.2.inG m p hg).1
              have h2 : ((m : Int) == 0) = false := by rw [beq_eq_false_iff_ne]; omega
              simp [h2]
          have HI2 := Lib.hid hI2
          obtain ⟨bb, hbb⟩ : ∃ bb, may m p = bb := ⟨_, rfl⟩
          rw [hbb] at hmay
          simp only [hbb] at hm1
          have Hmay := Lib.hid hmay
          clear hI2 hmay hbb
          have i1 : (0 : Int) ≤ m := by omega
          have i2 : (m : Int) < 9 := by omega
          have i3 : (0 : Int) ≤ p := by omega
          have i4 : (p : Int) < 7 := by omega
          refine wp_region_fresh (by kernel_rfl) (by kernel_rfl) ?_
          repeat (go_big_quiet_step ((go_at_call 21; rename_i n; refine fresh_call ((may_any _ _ _ _ _ _ _ (HI2.out.1.tab.kept n.chg id id id id) _ _ (inR_wf ⟨by omega, by omega⟩) (inR_wf ⟨by omega, by omega⟩))))))
          refine wpQuiet_nil ?_
          rintro _ ⟨n, rfl⟩
          rw [Hmay.out]
          cases bb
          all_goals go_wp2_with fail
          all_goals exact ⟨⟨p + 1, by go_num, by omega, HI2.out.fresh n⟩, by simp [intOf]; omega⟩
        · go_wp2_with fail
          exact ⟨⟨m + 1, by go_num, by omega, hI2⟩, by simp [intOf]; omega⟩

theorem own : ownKnob Try.prog.godebug = none := by kernel_rfl

set_option maxRecDepth 100000 in
theorem lifted (os : Os) (started : os.Started) (H : Type) (enc : TypeId × Value → H) :
    ReturnsInHanded {} Try.checked os 4 .any (Rows.capsGrantsSpec.pre6 enc Try.prog Try.f4 [] false) (Rows.capsGrantsSpec.post enc Try.prog Try.f4 false true false false) := by
  refine law_handed (C := Try.checked) (tb := 4) own started (by kernel_rfl) Try.func4
    (ChangeSpec.witness6 (enc := enc) (C := Try.checked) false ⟨#[], #[.slice none 0 0], []⟩ 8 (by kernel_rfl) (by kernel_rfl) (by kernel_rfl) (by kernel_rfl))
    laidOut (by rw [show Try.checked.prog = Try.prog from rfl, Try.params4]; intro t ht; simp at ht; subst ht; exact ⟨by kernel_rfl, of_decide_eq_true (by kernel_rfl)⟩) rfl rfl Try.underlying4 ?_ ?_
  · intro ds hds
    rw [Try.params4] at hds
    match ds, hds with
    | [_], _ => rfl
  · intro W base args ds before hval0 hA0 _ _
    have hval : ∀ (j : Nat) t v, Try.f4.params[j]? = some t → args[j]? = some v → Value.okWide Try.prog W .any base t v := hval0
    have hA : DataW.TrodAll enc Try.prog W 0 (fun _ => true) true Try.f4.params.toList args.toList ds before := hA0
    rw [Try.params4] at hA hval
    obtain ⟨v0, vs0, d0, ds0, p0, q0, hargs, rfl, rfl, h0, r0⟩ := trodAll_cons hA
    obtain ⟨rfl, rfl, rfl⟩ := trodAll_nil r0
    obtain rfl : args = #[v0] := by cases args; simp_all
    obtain ⟨oa, l, cap, rfl, h1, h2, h3, h4⟩ := open_acts (hval 0 29 v0 rfl rfl) h0
    exact walk l oa cap W h3 h4 h1 (by unfold maxLen at h2; omega)

theorem over : Rows.capsGrantsRow.holds Try.pinned (OpenSpec.ofChange Rows.capsGrantsSpec) :=
  OpenClaim.holds_of_wide 4 Try.f4 rfl rfl rfl rfl rfl rfl rfl ⟨rfl, rfl, rfl, rfl, rfl⟩ rfl rfl rfl rfl rfl (by kernel_rfl) Try.func4 (by kernel_rfl)
    (of_decide_eq_true (by kernel_rfl)) (by unfold Func.isWrapper; first | (rw [if_pos (by decide +kernel)]; kernel_rfl) | (rw [if_neg (by decide +kernel)]; exact ⟨rfl, rfl⟩))
    (fun os started H enc _ => lifted os started H enc)

theorem proved : Rows.CapsGrantsSaid := over
#print axioms proved

end Go.Proofs.Ytomceindibnpnaa.capsGrants
