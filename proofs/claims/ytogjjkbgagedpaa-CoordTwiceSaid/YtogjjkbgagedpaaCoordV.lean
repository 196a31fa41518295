/-
  coord's laws: rootdb.Check of any packages: some number, and nothing that was there is changed.
-/
import Derived.Test.YtogjjkbgagedpaaCoordU
namespace Go.Proofs.Ytogjjkbgagedpaa.coords
open Go.RowKit Go.Maps Go.My Go.ChangeMaps
set_option maxRecDepth 100000

variable {w w' : World}

structure PackOk (w : World) (r : List Value) : Prop where
  is : ∃ (ow : Int) (nm vr : ByteArray) (oa : Option Addr) (rows : List (List Value)) (cap : Nat), r = [.int .i64 ow, .string nm, .string vr, .slice oa rows.length cap] ∧ nm.size ≤ maxLen ∧ vr.size ≤ maxLen ∧ RowsAt w 33 oa rows ∧ (∀ x ∈ rows, RefOk x)

theorem PackOk.kept {r : List Value} (h : PackOk w r) (hc : Chg (fun _ => False) w w') : PackOk w' r := by
  obtain ⟨ow, nm, vr, oa, rows, cap, h1, h2, h3, h4, h5⟩ := h.is
  exact ⟨ow, nm, vr, oa, rows, cap, h1, h2, h3, h4.kept hc (fun _ _ h => h), h5⟩

theorem same_name (w : World) (ow : Int) (nm vr : ByteArray) (ly : Value) (g : Nat) (nm' : ByteArray) (hg : w.cell? ⟨g, 1, none⟩ = some (.string nm')) :
    Calls Try.prog 73 #[.agg #[.int .i64 ow, .string nm, .string vr, ly], .pointer (some ⟨g, 0, none⟩)] w fun e w' => SomeBool e ∧ Chg (fun _ => False) w w' := by
  have g1 : (w.alloc (.cells #[.int .i64 ow, .string nm, .string vr, ly] 94)).cell? ⟨g, 1, none⟩ = some (.string nm') := ((Chg.refl (fun _ => False) w).alloc _).cell hg id
  go_enter Try.func73, Try.ntmps73
  go_wp2_with fail
  go_ret
  exact ⟨⟨_, rfl⟩, (Chg.refl _ _).alloc _⟩

theorem pack_cells {b off k : Nat} {ps : List (List Value)} (h : RowsAt w 4 (some ⟨b, off, none⟩) ps) {ow : Int} {nm vr : ByteArray} {ly : Value} (hk : ps[k]? = some [.int .i64 ow, .string nm, .string vr, ly]) :
    w.cell? ⟨b, off + k * 4, none⟩ = some (.int .i64 ow) ∧ w.cell? ⟨b, off + k * 4 + 1, none⟩ = some (.string nm) ∧ w.cell? ⟨b, off + k * 4 + 2, none⟩ = some (.string vr) ∧ w.cell? ⟨b, off + k * 4 + 3, none⟩ = some ly :=
  ⟨h.cell b off rfl k _ 0 _ hk rfl, h.cell b off rfl k _ 1 _ hk rfl, h.cell b off rfl k _ 2 _ hk rfl, h.cell b off rfl k _ 3 _ hk rfl⟩

theorem pindex_any (w : World) (oa : Option Addr) (cap : Nat) (ps : List (List Value)) (n : Nat) (hn : n ≤ ps.length) (h : RowsAt w 4 oa ps) (hr : ∀ r ∈ ps, PackOk w r) (hl : ps.length ≤ maxLen) (g : Nat) (nm' : ByteArray) (hg : w.cell? ⟨g, 1, none⟩ = some (.string nm')) :
    Calls Try.prog 94 #[.slice oa n cap, .func (.func 73) #[] #[.pointer (some ⟨g, 0, none⟩)]] w fun e w' => SomeInt e ∧ Chg (fun _ => False) w w' := by
  have H := Lib.hid h
  have HR := Lib.hid hr
  have HG := Lib.hid hg
  unfold maxLen at hl
  clear h hr hg
  go_enter Try.func94, Try.ntmps94
  go_wp2_with fail
  go_loopw [8] (fun j wr => ∃ k : Nat, j = .int .i64 k ∧ k ≤ n ∧ Chg (fun _ => False) w wr) (fun j _ => n - (intOf j).toNat)
  · exact ⟨0, rfl, Nat.zero_le _, Chg.refl _ _⟩
  obtain ⟨k, rfl, hk, hc⟩ := hrel
  have HC := Lib.hid hc
  clear hc
  by_cases hlt : k < n
  · have hki : (k : Int) < (n : Int) := by omega
    obtain ⟨b, off, rfl⟩ := H.out.spot (by intro e; rw [e] at hn; simp at hn; omega)
    obtain ⟨r, hr⟩ : ∃ r, ps[k]? = some r := ⟨ps[k]'(by omega), List.getElem?_eq_getElem _⟩
    obtain ⟨ow, nm, vr, oal, rows, cl, rfl, -, -, -, -⟩ := (HR.out r (List.mem_of_getElem? hr)).is
    obtain ⟨d0, d1, d2, d3⟩ := pack_cells (H.out.kept HC.out (fun _ _ h => h)) hr
    clear hr
    go_wp2_with (go_at_call 73; refine (same_name _ _ _ _ _ g nm' (HC.out.cell HG.out id)).mono ?_; rintro e w1 ⟨⟨b1, rfl⟩, hc1⟩; have HC1 := Lib.hid hc1; clear hc1)
    all_goals first
      | (go_ret; exact ⟨⟨_, rfl⟩, HC.out.trans' HC1.out⟩)
      | exact ⟨⟨k + 1, by go_num, hlt, HC.out.trans' HC1.out⟩, meas_step hlt⟩
  · have hki : ¬ (k : Int) < (n : Int) := by omega
    go_wp2_with fail
    go_ret
    exact ⟨⟨_, rfl⟩, HC.out⟩

theorem pcontains_any (w : World) (oa : Option Addr) (cap : Nat) (ps : List (List Value)) (n : Nat) (hn : n ≤ ps.length) (h : RowsAt w 4 oa ps) (hr : ∀ r ∈ ps, PackOk w r) (hl : ps.length ≤ maxLen) (g : Nat) (nm' : ByteArray) (hg : w.cell? ⟨g, 1, none⟩ = some (.string nm')) :
    Calls Try.prog 72 #[.slice oa n cap, .func (.func 73) #[] #[.pointer (some ⟨g, 0, none⟩)]] w fun e w' => SomeBool e ∧ Chg (fun _ => False) w w' := by
  have HI := Lib.hid (pindex_any w oa cap ps n hn h hr hl g nm' hg)
  clear hn h hr hl hg
  go_enter Try.func72, Try.ntmps72
  go_wp2_with (go_at_call 94; refine HI.out.mono ?_; rintro e w1 ⟨⟨n1, rfl⟩, hc1⟩; have HC1 := Lib.hid hc1; clear hc1)
  go_ret
  exact ⟨⟨_, rfl⟩, HC1.out⟩

theorem check_any (w : World) (oa : Option Addr) (cap : Nat) (ps : List (List Value)) (h : RowsAt w 4 oa ps) (hr : ∀ r ∈ ps, PackOk w r) (hcap : ps.length ≤ cap) (hcm : cap ≤ maxLen) :
    Calls Try.prog 55 #[.slice oa ps.length cap] w fun e w' => SomeInt e ∧ Chg (fun _ => False) w w' := by
  have hmf : ∀ (fn : Fn) (first cap : Array Value) (w : World), (Instr.makeFunc fn first cap).run Try.prog w = .ok (.func fn first cap) w := fun _ _ _ _ => rfl
  have H := Lib.hid h
  have HR := Lib.hid hr
  have HCm := Lib.hid (Nat.le_trans hcap hcm)
  unfold maxLen at hcm
  clear h hr
  go_enter Try.func55, Try.ntmps55
  go_wp2_with fail
  go_loopw [3, 9] (fun u j wr => ∃ (k : Nat) (s : Int), u = .int .i64 s ∧ j = .int .i64 k ∧ k ≤ ps.length ∧ Chg (fun _ => False) w wr) (fun _ j _ => ps.length - (intOf j).toNat)
  · exact ⟨0, 0, rfl, rfl, Nat.zero_le _, Chg.refl _ _⟩
  obtain ⟨k, sm, rfl, rfl, hk, hc⟩ := hrel
  have HC := Lib.hid hc
  clear hc
  by_cases hlt : k < ps.length
  · have hki : (k : Int) < (ps.length : Int) := by omega
    have hkc : (k : Int) ≤ (cap : Int) := by omega
    obtain ⟨b, off, rfl⟩ := H.out.spot (by intro e; rw [e] at hlt; simp at hlt)
    obtain ⟨r, hr⟩ : ∃ r, ps[k]? = some r := ⟨ps[k]'(by omega), List.getElem?_eq_getElem _⟩
    obtain ⟨ow, nm, vr, oal, rows, cl, rfl, h1, h2, h3, h4⟩ := (HR.out r (List.mem_of_getElem? hr)).is
    obtain ⟨d0, d1, d2, d3⟩ := pack_cells (H.out.kept HC.out (fun _ _ h => h)) hr
    have HMk := Lib.hid (mcheck_any (wr.alloc (.cells #[.int .i64 ow, .string nm, .string vr, .slice oal rows.length cl] 94)) nm vr h1 h2 oal cl rows (h3.kept (HC.out.alloc _) (fun _ _ h => h)) h4)
    have hba := block_alloc_new wr (.cells #[.int .i64 ow, .string nm, .string vr, .slice oal rows.length cl] 94)
    have HBa := Lib.hid hba
    have HCa := Lib.hid (HC.out.alloc (.cells #[.int .i64 ow, .string nm, .string vr, .slice oal rows.length cl] 94))
    clear hr h1 h2 h3 h4 hba
    go_wp2_with (first
      | (go_at_call 71; refine HMk.out.mono ?_; rintro e w1 ⟨⟨n1, rfl⟩, hc1⟩
         have hb1 := hc1.at HBa.out id
         have HB1 := Lib.hid hb1
         have HC1 := Lib.hid (HCa.out.trans' hc1)
         have e1 : w1.cell? ⟨wr.heap.size, 1, none⟩ = some (.string nm) := cell_of_block hb1 rfl
         have HE1 := Lib.hid e1
         clear hb1 hc1 e1)
      | (go_at_call 72; refine (pcontains_any _ _ _ ps k (Nat.le_of_lt hlt) (H.out.kept HC1.out (fun _ _ h => h)) (fun x hx => (HR.out x hx).kept HC1.out) HCm.out wr.heap.size nm HE1.out).mono ?_; rintro e w2 ⟨⟨b2, rfl⟩, hc2⟩
         have e3 : w2.cell? ⟨wr.heap.size, 3, none⟩ = some (.slice oal rows.length cl) := cell_of_block (hc2.at HB1.out id) rfl
         have HC2 := Lib.hid (HC1.out.trans' hc2)
         clear hc2))
    all_goals first
      | (go_ret; exact ⟨⟨_, rfl⟩, HCa.out⟩)
      | (go_ret; exact ⟨⟨_, rfl⟩, HC1.out⟩)
      | (go_ret; exact ⟨⟨_, rfl⟩, HC2.out⟩)
      | exact ⟨⟨k + 1, _, rfl, by go_num, hlt, HC2.out⟩, meas_step hlt⟩
  · have hki : ¬ (k : Int) < (ps.length : Int) := by omega
    go_wp2_with fail
    go_ret
    exact ⟨⟨_, rfl⟩, HC.out⟩

end Go.Proofs.Ytogjjkbgagedpaa.coords
