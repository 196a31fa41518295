/-
  coord: the states of a coordinator and of its entries; the small calls.
-/
import Derived.Test.YtogjjkbgagedpaaProg
import Derived.Test.YtogjjkbgagedpaaMaps
import Derived.Test.YtogjjkbgagedpaaRecs
import Derived.Test.YtogjjkbgagedpaaNest
import Derived.WalkLawsBesides
import Derived.BigQuiet
import Derived.Lib.LazyBuf
import Derived.Deep.QuietTactic
import Derived.Lib.Hide
import Derived.Laws.OwnMore
import Derived.WalkSpells
namespace Go.Proofs.Ytogjjkbgagedpaa.coords
open Go.RowKit Go.Maps Go.My Go.ChangeMaps
set_option maxRecDepth 100000

def inR (a : Int) : Prop := -9223372036854775808 ≤ a ∧ a ≤ 9223372036854775807
theorem inR_wf {a : Int} (h : inR a) : (Lit.int .i64 a).wf = true := WalkArith.wf_i64 h

def iKey : KeyEnc Try.prog 3 Int where
  enc := encI
  ok k := (Lit.int .i64 k).wf = true
  keyed := int_keyed Try.underlying3
  reads k hk := ⟨_, keyOf_int_mk Try.underlying3 hk⟩
  inj k k' h := by simpa [encI] using h

/-- A plan without packs. -/
def planC (r : Int) : List Value := [.int .i64 r, .slice none 0 0]
def ptrV (x : Nat) : Value := .pointer (some ⟨x, 0, none⟩)
def msgC (kind from' to txn : Int) (yes : Bool) : List Value := [.int .i64 kind, .int .i64 from', .int .i64 to, .int .i64 txn, .bool yes, .slice none 0 0]

structure EV where
  state : Int
  age : Int
  ps : List Int
  ans : List (Int × Bool)

structure EntIs (w : World) (x : Nat) (F : Nat → Prop) (E : EV) (pv : Value) (qa : Nat) : Prop where
  head : w.heap[x]? = some (.cells #[.int .i64 E.state, .int .i64 E.age, pv, .map (some qa)] 86 (0, 0))
  plans : OwnRecs w 0 33 2 pv (E.ps.map planC)
  ans : MapIs iKey Value.bool w qa E.ans
  fr : F x
  fq : F qa
  fp : ∀ g, pv.ownBlock = some g → F g
  lt : ∀ k, F k → k < w.heap.size
  ok : ∀ r ∈ E.ps, 1 ≤ r ∧ r ≤ 6
  len : E.ps.length ≤ 6

structure CoIs (w : World) (c : Nat) (F : Nat → Prop) (lim : Int) (m : List (Int × Nat)) (q : Nat) : Prop where
  head : w.heap[c]? = some (.cells #[.int .i64 lim, .map (some q)] 73 (0, 0))
  mp : MapIs iKey ptrV w q m
  fc : F c
  fq : F q
  lt : ∀ k, F k → k < w.heap.size

variable {w w' : World} {c q x qa : Nat} {F F' : Nat → Prop} {lim : Int} {m : List (Int × Nat)} {E : EV} {pv : Value}

theorem EntIs.kept (h : EntIs w x F E pv qa) {S : Nat → Prop} (hc : Chg S w w') (hs : ∀ k, F k → ¬ S k) : EntIs w' x F E pv qa :=
  ⟨hc.at h.head (hs _ h.fr), h.plans.kept hc (fun g hg => hs g (h.fp g hg)), h.ans.kept hc (hs _ h.fq), h.fr, h.fq, h.fp, fun k hk => Nat.lt_of_lt_of_le (h.lt k hk) hc.size, h.ok, h.len⟩
theorem CoIs.kept (h : CoIs w c F lim m q) {S : Nat → Prop} (hc : Chg S w w') (hs : ∀ k, F k → ¬ S k) : CoIs w' c F lim m q :=
  ⟨hc.at h.head (hs _ h.fc), h.mp.kept hc (hs _ h.fq), h.fc, h.fq, fun k hk => Nat.lt_of_lt_of_le (h.lt k hk) hc.size⟩
theorem EntIs.fresh (h : EntIs w x F E pv qa) (hc : Chg (fun _ => False) w w') : EntIs w' x F E pv qa := h.kept hc (fun _ _ h => h)
theorem CoIs.fresh (h : CoIs w c F lim m q) (hc : Chg (fun _ => False) w w') : CoIs w' c F lim m q := h.kept hc (fun _ _ h => h)

def born (w w' : World) : Nat → Prop := fun j => w.heap.size ≤ j ∧ j < w'.heap.size

theorem new_none (w : World) (n : Int) (h1 : n < 1 ∨ 1000 < n) : Calls Try.prog 10 #[.int .i64 n] w fun e w' => e = .returned (.pointer none) ∧ w = w' := by
  by_cases h : n < 1
  · go_enter Try.func10, Try.ntmps10
    go_wp2_with fail
    go_ret
    exact ⟨rfl, rfl⟩
  · have h2 : 1000 < n := by omega
    go_enter Try.func10, Try.ntmps10
    go_wp2_with fail
    go_ret
    exact ⟨rfl, rfl⟩

theorem new_any (w : World) (n : Int) (h1 : 1 ≤ n) (h2 : n ≤ 1000) : Calls Try.prog 10 #[.int .i64 n] w fun e w' => ∃ c, e = .returned (ptrV c) ∧ (∃ q, CoIs w' c (born w w') n [] q) ∧ Chg (fun _ => False) w w' := by
  have hmm := @run_makeMap Try.prog
  have n1 : ¬ n < 1 := by omega
  have n2 : ¬ 1000 < n := by omega
  go_enter Try.func10, Try.ntmps10
  go_wp2_with fail
  go_ret
  have hc : Chg (fun _ => False) w ((w.alloc (.map #[] 0)).alloc (.cells #[.int .i64 n, .map (some w.heap.size)] 73)) := ((Chg.refl _ _).alloc _).alloc _
  refine ⟨_, rfl, ⟨w.heap.size, ?_, MapIs.made (clock := 0) _ _ ?_, ⟨by omega, ?_⟩, ⟨Nat.le_refl _, ?_⟩, fun k hk => hk.2⟩, hc⟩
  · simp only [heap_alloc_get, World.size_alloc]
    rw [if_pos trivial]
  · simp only [heap_alloc_get, World.size_alloc]
    rw [if_neg (by omega), if_pos trivial]
  · simp only [World.size_alloc]; omega
  · simp only [World.size_alloc]; omega

theorem none_no (w : World) (h : CoIs w c F lim m q) : Calls Try.prog 34 #[ptrV c] w fun e w' => e = .returned (.bool false) ∧ w = w' := by
  have c1 : w.cell? ⟨c, 1, none⟩ = some (.map (some q)) := cell_of_block h.head rfl
  clear h
  have hq := fun w r => run_eql_map_nil (P := Try.prog) w 71 _ _ r Try.underlying71
  unfold ptrV
  go_enter Try.func34, Try.ntmps34
  go_wp2_with fail
  go_ret
  exact ⟨rfl, rfl⟩

/-- A coordinator that New did not make. -/
def NoCo (w : World) (p : Option Addr) : Prop := p = none ∨ ∃ T, p = some ⟨T, 0, none⟩ ∧ w.cell? ⟨T, 1, none⟩ = some (.map none)

theorem none_yes (w : World) (p : Option Addr) (h : NoCo w p) : Calls Try.prog 34 #[.pointer p] w fun e w' => e = .returned (.bool true) ∧ w = w' := by
  have hq := fun w r => run_eql_map_nil (P := Try.prog) w 71 _ _ r Try.underlying71
  rcases h with rfl | ⟨T, rfl, c1⟩
  · go_enter Try.func34, Try.ntmps34
    go_wp2_with fail
    go_ret
    exact ⟨rfl, rfl⟩
  · go_enter Try.func34, Try.ntmps34
    go_wp2_with fail
    go_ret
    exact ⟨rfl, rfl⟩

theorem check_nil (w : World) : Calls Try.prog 55 #[.slice none 0 0] w fun e w' => e = .returned (.int .i64 0) ∧ w = w' := by
  go_enter Try.func55, Try.ntmps55
  go_wp2_with fail
  go_loopw [9] (fun j wr => j = .int .i64 0 ∧ w = wr) (fun _ _ => 0)
  · exact ⟨rfl, rfl⟩
  obtain ⟨rfl, rfl⟩ := hrel
  go_wp2_with fail
  go_ret
  exact ⟨rfl, rfl⟩

theorem clone_nil (w : World) : Calls Try.prog 74 #[.slice none 0 0] w fun e w' => e = .returned (.slice none 0 0) ∧ w = w' := by
  have hq := fun w => run_eql_slice_nil (P := Try.prog) w 22 _ none 0 0 Try.underlying22
  go_enter Try.func74, Try.ntmps74
  go_wp2_with fail
  go_ret
  exact ⟨rfl, rfl⟩

theorem twin_nil (w : World) : Calls Try.prog 56 #[.slice none 0 0] w fun e w' => e = .returned (.slice none 0 0) ∧ w = w' := by
  go_enter Try.func56, Try.ntmps56
  go_wp2_with (go_at_call 74; refine (clone_nil _).mono ?_; rintro e w1 ⟨rfl, rfl⟩)
  go_loopw [9] (fun j wr => j = .int .i64 0 ∧ w = wr) (fun _ _ => 0)
  · exact ⟨rfl, rfl⟩
  obtain ⟨rfl, rfl⟩ := hrel
  go_wp2_with fail
  go_ret
  exact ⟨rfl, rfl⟩

theorem each_any (w : World) (r : Int) : Calls Try.prog 33 #[.int .i64 r] w fun e w' => e = .returned (.bool true) ∧ w = w' := by
  go_enter Try.func33, Try.ntmps33
  go_wp2_with fail
  go_ret
  exact ⟨rfl, rfl⟩

theorem root_any (w : World) (r : Int) : Calls Try.prog 76 #[.int .i64 r] w fun e w' => e = .returned (.bool (decide (1 ≤ r ∧ r ≤ 6))) ∧ w = w' := by
  by_cases h1 : 1 ≤ r
  · by_cases h2 : r ≤ 6
    · go_enter Try.func76, Try.ntmps76
      go_wp2_with fail
      go_ret
      exact ⟨by first | (simp; done) | (simp; omega), rfl⟩
    · go_enter Try.func76, Try.ntmps76
      go_wp2_with fail
      go_ret
      exact ⟨by first | (simp; done) | (simp; omega), rfl⟩
  · go_enter Try.func76, Try.ntmps76
    go_wp2_with fail
    go_ret
    exact ⟨by first | (simp; done) | (simp; omega), rfl⟩

/-- A vote of a root may go. -/
theorem goes_vote (w : World) (r : Int) (h : 1 ≤ r ∧ r ≤ 6) : Calls Try.prog 57 #[.agg #[.int .i64 r, .int .i64 0], .int .i64 2] w fun e w' => e = .returned (.bool true) ∧ Chg (fun _ => False) w w' := by
  go_enter Try.func57, Try.ntmps57
  go_wp2_with (go_at_call 76; refine (root_any _ _).mono ?_; rw [decide_eq_true h]; rintro e w1 ⟨rfl, rfl⟩)
  go_ret
  exact ⟨rfl, (Chg.refl _ _).alloc _⟩

theorem wire_vote (w : World) (r txn : Int) (h : 1 ≤ r ∧ r ≤ 6) (ht : 1 ≤ txn ∧ txn ≤ 1099511627776) : Calls Try.prog 35 #[.agg (msgC 2 r 0 txn true).toArray] w fun e w' => e = .returned (.int .i64 0) ∧ Chg (fun _ => False) w w' := by
  have t1 : ¬ txn < 1 := by omega
  have t2 : ¬ 1099511627776 < txn := by omega
  unfold msgC
  go_enter Try.func35, Try.ntmps35
  go_wp2_with (first
    | (go_at_call 57; refine (goes_vote _ r h).mono ?_; rintro e w1 ⟨rfl, hc1⟩
       have hA := hc1.at (block_alloc_new w _) id
       have q0 := cell_of_block (i := 0) hA rfl
       have q3 := cell_of_block (i := 3) hA rfl
       have q4 := cell_of_block (i := 4) hA rfl
       have q5 := cell_of_block (i := 5) hA rfl
       have HC1 := Lib.hid hc1
       clear hA hc1)
    | (go_at_call 55; refine (check_nil _).mono ?_; rintro e w1 ⟨rfl, rfl⟩))
  go_ret
  exact ⟨rfl, ((Chg.refl _ _).alloc _).trans' HC1.out⟩

end Go.Proofs.Ytogjjkbgagedpaa.coords
