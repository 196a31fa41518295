/-
  coord: Take of an ask and of an acknowledgement, of a committed transaction.
-/
import Derived.Test.YtogjjkbgagedpaaCoordG
namespace Go.Proofs.Ytogjjkbgagedpaa.coords
open Go.RowKit Go.Maps Go.My Go.ChangeMaps
set_option maxRecDepth 100000

variable {w w' : World} {c q x qa : Nat} {F F' Fc : Nat → Prop} {lim : Int} {m : List (Int × Nat)} {E : EV} {pv : Value}

theorem goes_up (w : World) (k r : Int) (hk : k = 5 ∨ k = 6) (h : 1 ≤ r ∧ r ≤ 6) : Calls Try.prog 57 #[.agg #[.int .i64 r, .int .i64 0], .int .i64 k] w fun e w' => e = .returned (.bool true) ∧ Chg (fun _ => False) w w' := by
  rcases hk with rfl | rfl
  all_goals go_enter Try.func57, Try.ntmps57
  all_goals go_wp2_with (go_at_call 76; refine (root_any _ _).mono ?_; rw [decide_eq_true h]; rintro e w1 ⟨rfl, rfl⟩)
  all_goals go_ret
  all_goals exact ⟨rfl, (Chg.refl _ _).alloc _⟩

theorem wire_up (w : World) (k r txn : Int) (hk : k = 5 ∨ k = 6) (h : 1 ≤ r ∧ r ≤ 6) (ht : 1 ≤ txn ∧ txn ≤ 1099511627776) : Calls Try.prog 35 #[.agg (msgC k r 0 txn false).toArray] w fun e w' => e = .returned (.int .i64 0) ∧ Chg (fun _ => False) w w' := by
  have t1 : ¬ txn < 1 := by omega
  have t2 : ¬ 1099511627776 < txn := by omega
  have k1 : ¬ k < 1 := by omega
  have k2 : ¬ 6 < k := by omega
  unfold msgC
  go_enter Try.func35, Try.ntmps35
  go_wp2_with (first
    | (go_at_call 57; refine (goes_up _ k r hk h).mono ?_; rintro e w1 ⟨rfl, hc1⟩
       have hA := hc1.at (block_alloc_new w _) id
       have q0 := cell_of_block (i := 0) hA rfl
       have q3 := cell_of_block (i := 3) hA rfl
       have q4 := cell_of_block (i := 4) hA rfl
       have q5 := cell_of_block (i := 5) hA rfl
       have HC1 := Lib.hid hc1
       clear hA hc1)
    | (go_at_call 55; refine (check_nil _).mono ?_; rintro e w1 ⟨rfl, rfl⟩))
  go_ret
  exact ⟨rfl, ((Chg.refl _ _).alloc _).trans' HC1.out⟩

theorem state_gone (w : World) (hC : CoIs w c Fc lim m q) (txn : Int) (hm : mget m txn = none) (ht : 1 ≤ txn ∧ txn ≤ 1099511627776) :
    Calls Try.prog 15 #[ptrV c, .int .i64 txn] w fun e w' => e = .returned (.int .i64 0) ∧ w = w' := by
  have c1 : w.cell? ⟨c, 1, none⟩ = some (.map (some q)) := cell_of_block hC.head rfl
  have hlk := hC.mp.look Try.underlying71 (zero_ent _) false txn (WalkArith.wf_i64 (by omega))
  rw [hm] at hlk
  have hlk : (Instr.lookup 71 (.map (some q)) (.int .i64 txn) false).run Try.prog w = .ok (.pointer none) w := hlk
  have HNo := Lib.hid (none_no w hC)
  clear hC hm
  unfold ptrV
  go_enter Try.func15, Try.ntmps15
  go_wp2_with (first
    | (go_at_call 34; refine HNo.out.mono ?_; rintro e w1 ⟨rfl, rfl⟩))
  go_ret
  exact ⟨rfl, rfl⟩

/-- A Said with one message. -/
def saidM (g : Nat) : Value := .agg #[.slice (some ⟨g, 0, none⟩) 1 1, .int .i64 0, .int .i64 0, .int .i64 0]
def saidMl (g : Nat) : List Value := [.slice (some ⟨g, 0, none⟩) 1 1, .int .i64 0, .int .i64 0, .int .i64 0]
def saidC (cl : Int) : Value := .agg #[.slice none 0 0, .int .i64 0, .int .i64 cl, .int .i64 0]
def saidCl (cl : Int) : List Value := [.slice none 0 0, .int .i64 0, .int .i64 cl, .int .i64 0]

structure SaidTo (w : World) (b : Nat) (l : List Value) : Prop where
  there : w.there b 0 l.toArray.size
  size : (Try.prog.info? 36).map (·.size) = some l.toArray.size
  one : l.toArray.all (·.oneCell') = true
  chg : Chg (· = b) w (w.setCells b 0 l)
  load : (loadVar 36 ⟨b, 0, none⟩).run Try.prog (w.setCells b 0 l) = .ok (.agg l.toArray) (w.setCells b 0 l)

theorem said_to {w : World} {b : Nat} {l0 : List Value} (h : Arr w b 36 l0) (h4 : l0.length = 4) (l : List Value) (hl : l.length = 4) (h1 : ∀ v ∈ l, v.oneCell' = true) : SaidTo w b l :=
  ⟨by have := h.there; rw [h4] at this; rw [List.size_toArray, hl]; exact this, by rw [List.size_toArray, hl]; exact size_said, all_oneCell_toArray h1, chg_setCells b l 0 w,
    run_loadVar_mid (P := Try.prog) _ b 0 36 l _ (h.all (vs := l) (by rw [hl, h4])).range Try.underlying36 rfl (by rw [hl]; exact size_said)⟩

theorem one_saidM (g : Nat) : ∀ v ∈ saidMl g, v.oneCell' = true := by intro v hv; simp only [saidMl, List.mem_cons, List.not_mem_nil, or_false] at hv; rcases hv with rfl | rfl | rfl | rfl <;> rfl
theorem one_saidC (g : Int) : ∀ v ∈ saidCl g, v.oneCell' = true := by intro v hv; simp only [saidCl, List.mem_cons, List.not_mem_nil, or_false] at hv; rcases hv with rfl | rfl | rfl | rfl <;> rfl

theorem back_any (w : World) (g : Nat) (kind f txn : Int) (h1 : w.cell? ⟨g, 1, none⟩ = some (.int .i64 f)) (h3 : w.cell? ⟨g, 3, none⟩ = some (.int .i64 txn)) :
    Calls Try.prog 37 #[.int .i64 kind, .pointer (some ⟨g, 0, none⟩)] w fun e w' => ∃ gm, e = .returned (saidM gm) ∧ w.heap.size ≤ gm ∧ w'.heap[gm]? = some (.cells (msgC kind 0 f txn false).toArray 24 (0, 0)) ∧ Chg (fun _ => False) w w' := by
  have k1 : (w.alloc (.cells #[.slice none 0 0, .int .i64 0, .int .i64 0, .int .i64 0] 36)).cell? ⟨g, 1, none⟩ = some (.int .i64 f) := ((Chg.refl (fun _ => False) w).alloc _).cell h1 id
  have k3 : (w.alloc (.cells #[.slice none 0 0, .int .i64 0, .int .i64 0, .int .i64 0] 36)).cell? ⟨g, 3, none⟩ = some (.int .i64 txn) := ((Chg.refl (fun _ => False) w).alloc _).cell h3 id
  obtain ⟨w1, hw1⟩ : ∃ w1, (w.alloc (.cells #[.slice none 0 0, .int .i64 0, .int .i64 0, .int .i64 0] 36)).alloc (.cells #[.int .i64 kind, .int .i64 0, .int .i64 f, .int .i64 txn, .bool false, .slice none 0 0] 24) = w1 := ⟨_, rfl⟩
  have hb1 : Arr w1 w.heap.size 36 (saidMl 0 |>.set 0 (.slice none 0 0)) := by
    subst hw1; unfold Arr; simp only [heap_alloc_get, World.size_alloc]; rw [if_neg (by omega), if_pos trivial]; rfl
  have hb2 : w1.heap[w.heap.size + 1]? = some (.cells (msgC kind 0 f txn false).toArray 24 (0, 0)) := by
    subst hw1; simp only [heap_alloc_get, World.size_alloc]; rw [if_pos trivial]; rfl
  have hc1 : Chg (fun _ => False) w w1 := by subst hw1; exact ((Chg.refl _ _).alloc _).alloc _
  have HS := Lib.hid (said_to hb1 rfl (saidMl (w.heap.size + 1)) rfl (one_saidM _))
  have HB2 := Lib.hid hb2
  have HC1 := Lib.hid hc1
  have HW1 := Lib.hid hw1
  clear hb1 hb2 hc1 hw1
  go_enter Try.func37, Try.ntmps37
  go_wp2_with (refine wpList_store_mid rfl 36 _ _ rfl w.heap.size 0 (saidMl (w.heap.size + 1)).toArray rfl rfl (by rw [HW1.out]; exact HS.out.there) HS.out.size HS.out.one ?_; rw [List.toList_toArray, HW1.out])
  (try simp only [Exit.inBlock, Exit.then])
  refine bodyPost_ret (result1 rfl _ rfl HS.out.load) rfl ?_
  exact ⟨_, rfl, Nat.le_succ _, HS.out.chg.at HB2.out (by omega), HC1.out.new HS.out.chg (fun k e => by omega)⟩

end Go.Proofs.Ytogjjkbgagedpaa.coords
