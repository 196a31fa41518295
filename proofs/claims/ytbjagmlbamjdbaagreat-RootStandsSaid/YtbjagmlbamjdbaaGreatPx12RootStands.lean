/-
  kv: Decode.
-/
import Derived.Test.YtbjagmlbamjdbaaGreatPx2RootStands
import Derived.Test.YtbjagmlbamjdbaaGreatPx6RootStands
import Derived.Test.YtbjagmlbamjdbaaGreatPx11RootStands
import Derived.Deep.RegionHeld3
import Derived.Laws.EntriesVeiled
import Derived.Shelf.SlSortCmp.WholeK
import Derived.Shelf.SlSortCmp.NoneTotal
import Derived.StringKeys

section
set_option linter.unusedSimpArgs false
set_option linter.unusedVariables false
namespace Go.Proofs.YtbjagmlbamjdbaaGreat.kvs
open Go.RowKit Go.My disks bufs wals
set_option maxRecDepth 100000

variable {w w' : World}

theorem rd_take_len (r : Rd) (n : Nat) : (r.take n).2.left.length ≤ r.left.length := by
  unfold Rd.take
  split
  · simp
  · exact Nat.le_refl _
theorem rd_num_len (r : Rd) : r.num.2.left.length ≤ r.left.length := rd_take_len _ _
theorem rd_text_len (r : Rd) : r.text.2.left.length ≤ r.left.length := Nat.le_trans (rd_take_len _ _) (rd_num_len r)
theorem rd_num_lt (r : Rd) : r.num.1 < 18446744073709551616 := rdV_lt r.left

/-- What Decode hands back. -/
def DecOut (w : World) (B : Nat) (v : Value) (er : Int) : Option (List PV) → Prop
  | none => v = .slice none 0 0 ∧ er = 5
  | some l => Puts w B v l ∧ er = 0

theorem dec_puts (M : Nat) (r1 r : Rd) (ls : List PV) (j : Nat) (h : Rd.puts M r1 = (Rd.puts (j + 1) r).map (fun x => (ls ++ x.1, x.2))) :
    (r.put.2.good = true → Rd.puts M r1 = (Rd.puts j r.put.2).map (fun x => ((ls ++ [r.put.1]) ++ x.1, x.2))) ∧ (r.put.2.good = false → Rd.puts M r1 = none) := by
  rw [h, Rd.puts]
  constructor
  · intro hg
    rw [if_pos hg, Option.map_map]
    congr 1
    funext x
    simp
  · intro hg
    rw [if_neg (by rw [hg]; exact Bool.false_ne_true)]
    rfl

/-- Blocks that a round turns. -/
def S3 (w : World) (P : Nat) (k : Nat) : Prop := k = w.heap.size ∨ k = w.heap.size + 1 ∨ k = P

set_option maxHeartbeats 2000000 in
theorem decode_any (w : World) (t : Txt) (hl : t.length ≤ 9223372036854775807) :
    Calls Tryz.prog 60 #[strV t] w fun e w' => ∃ v er, e = .returned (.tuple #[v, .int .i64 er]) ∧ DecOut w' w.heap.size v er (decF t) ∧ Chg (fun _ => False) w w' := by
  have hmf : ∀ (fn : Fn) (first cap : Array Value) (w : World), (Instr.makeFunc fn first cap).run Tryz.prog w = .ok (.func fn first cap) w := fun _ _ _ _ => rfl
  obtain ⟨s, hs⟩ : ∃ s : ByteArray, strV t = .string s := ⟨_, rfl⟩
  have hst := strV_string t s hs
  have HSt := Lib.hid hst
  obtain ⟨w0, hw0⟩ : ∃ w0, ((w.alloc (.cells #[.string s] 9)).alloc (.cells #[.bool true] 4)).alloc (.cells #[takeV w.heap.size (w.heap.size + 1)] 182) = w0 := ⟨_, rfl⟩
  have hc0 : Chg (fun _ => False) w w0 := by rw [← hw0]; exact (((Chg.refl _ _).alloc _).alloc _).alloc _
  have hz0 : w0.heap.size = w.heap.size + 3 := by rw [← hw0]; simp only [World.size_alloc]
  have hr0 : RdAt w0 w.heap.size (w.heap.size + 1) ⟨t, true⟩ := by
    rw [← hw0]
    refine ⟨?_, ?_, by omega⟩
    · simp only [heap_alloc_get, World.size_alloc]; rw [if_neg (by omega), if_neg (by omega), if_pos trivial, hs]
    · simp only [heap_alloc_get, World.size_alloc]; rw [if_neg (by omega), if_pos trivial]
  have hT0 : w0.cell? ⟨w.heap.size + 1 + 1, 0, none⟩ = some (takeV w.heap.size (w.heap.size + 1)) := by
    refine cell_of_block (t := 182) (fr := (0, 0)) (cs := #[takeV w.heap.size (w.heap.size + 1)]) ?_ rfl
    rw [← hw0]
    simp only [heap_alloc_get, World.size_alloc]; rw [if_pos trivial]
  have hnum := num_any w0 hr0 hT0 (by omega) (by omega) hl
  have HW0 := Lib.hid hw0
  have HC0 := Lib.hid hc0
  have HZ0 := Lib.hid hz0
  have HR0 := Lib.hid hr0
  have HT0 := Lib.hid hT0
  obtain ⟨R, hR⟩ : ∃ R, decF t = R := ⟨_, rfl⟩
  have hd : R = if (Rd.num ⟨t, true⟩).2.good = false ∨ 64 < (Rd.num ⟨t, true⟩).1 then none
    else match Rd.puts (Rd.num ⟨t, true⟩).1 (Rd.num ⟨t, true⟩).2 with
      | none => none
      | some (l, _) => if encF l = (t, 0) then some l else none := by rw [← hR]; rfl
  have hr1l := rd_num_len ⟨t, true⟩
  obtain ⟨M, hM⟩ : ∃ M, (Rd.num ⟨t, true⟩).1 = M := ⟨_, rfl⟩
  obtain ⟨r1, hr1⟩ : ∃ r1, (Rd.num ⟨t, true⟩).2 = r1 := ⟨_, rfl⟩
  rw [hM, hr1] at hd hnum
  rw [hr1] at hr1l
  rw [hs, hR]
  have HD := Lib.hid hd
  have HS := Lib.hid hs
  have HNum := Lib.hid hnum
  have HR1l := Lib.hid hr1l
  clear hst hR hs hw0 hc0 hz0 hr0 hT0 hd hnum hM hr1 hr1l
  unfold takeV at HW0 HT0
  go_enter Tryz.func60, Tryz.ntmps60
  cases hg1 : r1.good
  · have HG1 := Lib.hid hg1
    clear hg1
    go_wp2_with (first
      | (go_at_call 109; rw [HW0.out]; refine HNum.out.mono ?_; rintro e w1 ⟨rfl, hr1, hc1⟩
         have c1 : w1.cell? ⟨w.heap.size + 1, 0, none⟩ = some (.bool r1.good) := cell_of_block hr1.good rfl
         rw [HG1.out] at c1
         have HC1 := Lib.hid hc1
         clear hr1 hc1))
    go_ret2
    refine ⟨_, _, rfl, ?_, HC0.out.new HC1.out (fun i hi => by omega)⟩
    rw [HD.out, if_pos (Or.inl HG1.out)]
    exact ⟨rfl, rfl⟩
  · have HG1 := Lib.hid hg1
    clear hg1
    by_cases h64 : 64 < M
    · have h64i : (64 : Int) < (M : Int) := by omega
      go_wp2_with (first
        | (go_at_call 109; rw [HW0.out]; refine HNum.out.mono ?_; rintro e w1 ⟨rfl, hr1, hc1⟩
           have c1 : w1.cell? ⟨w.heap.size + 1, 0, none⟩ = some (.bool r1.good) := cell_of_block hr1.good rfl
           rw [HG1.out] at c1
           have HC1 := Lib.hid hc1
           clear hr1 hc1))
      go_ret2
      refine ⟨_, _, rfl, ?_, HC0.out.new HC1.out (fun i hi => by omega)⟩
      rw [HD.out, if_pos (Or.inr h64)]
      exact ⟨rfl, rfl⟩
    · have h64i : ¬ (64 : Int) < (M : Int) := by omega
      go_wp2_with (first
        | (go_at_call 109; rw [HW0.out]; refine HNum.out.mono ?_; rintro e w1 ⟨rfl, hr1, hc1⟩
           have c1 : w1.cell? ⟨w.heap.size + 1, 0, none⟩ = some (.bool r1.good) := cell_of_block hr1.good rfl
           rw [HG1.out] at c1
           have HR1 := Lib.hid hr1
           have HC1 := Lib.hid hc1
           clear hr1 hc1))
      have HC1w := Lib.hid (show Chg (fun _ => False) w w1 from HC0.out.new HC1.out (fun i hi => by omega))
      have HT1 := Lib.hid (HC1.out.cell HT0.out (show ¬ (w.heap.size + 1 + 1 = w.heap.size ∨ w.heap.size + 1 + 1 = w.heap.size + 1) by omega))
      have HZ1 := Lib.hid (show w.heap.size + 3 ≤ w1.heap.size by have := HC1.out.size; have := HZ0.out; omega)
      clear c1
      go_loopw [9, 27] (fun v j wr => ∃ (k : Nat) (ls : List PV) (r : Rd), j = .int .i64 k ∧ k ≤ M ∧ Puts wr (w.heap.size + 3) v ls ∧ ls.length = k ∧ RdAt wr w.heap.size (w.heap.size + 1) r ∧ r.good = true ∧ r.left.length ≤ t.length ∧ Rd.puts M r1 = (Rd.puts (M - k) r).map (fun x => (ls ++ x.1, x.2)) ∧ Chg (fun _ => False) w wr ∧ wr.cell? ⟨w.heap.size + 1 + 1, 0, none⟩ = some (takeV w.heap.size (w.heap.size + 1)) ∧ w.heap.size + 3 ≤ wr.heap.size) (fun _ j _ => M - (intOf j).toNat)
      · refine ⟨0, [], r1, rfl, Nat.zero_le _, OwnRecs.nil _ _ _ _, rfl, HR1.out, HG1.out, HR1l.out, ?_, HC1w.out, HT1.out, HZ1.out⟩
        rw [Nat.sub_zero]
        cases Rd.puts M r1 <;> simp
      obtain ⟨k, ls, r, rfl, hk, hv, hlk, hra, hrg, hrl, hpu, hc, hT, hz⟩ := hrel
      have HC := Lib.hid hc
      have HZ := Lib.hid hz
      have HV := Lib.hid hv
      have HRa := Lib.hid hra
      have HRg := Lib.hid hrg
      have HRl := Lib.hid hrl
      have HPu := Lib.hid hpu
      have HTw := Lib.hid hT
      have HLk := Lib.hid hlk
      clear hc hz hv hra hrg hrl hpu hlk
      by_cases hlt : k < M
      · have hki : (k : Int) < (M : Int) := by omega
        obtain ⟨ra, hra⟩ : ∃ x, (r.take 1).2 = x := ⟨_, rfl⟩
        obtain ⟨F, hF⟩ : ∃ x, (r.take 1).1 = x := ⟨_, rfl⟩
        have htk1 : Calls Tryz.prog 108 #[.int .u64 1, .pointer (some ⟨w.heap.size + 1, 0, none⟩), .pointer (some ⟨w.heap.size, 0, none⟩)] wr fun e w' => e = .returned (strV F) ∧ RdAt w' w.heap.size (w.heap.size + 1) ra ∧ Chg (fun k => k = w.heap.size ∨ k = w.heap.size + 1) wr w' := by
          rw [← hra, ← hF]
          exact take_any wr HRa.out 1 (by omega) (Nat.le_trans HRl.out hl)
        obtain ⟨sf, hsf⟩ : ∃ s : ByteArray, strV F = .string s := ⟨_, rfl⟩
        rw [hsf] at htk1
        have hfb : (sf.toList == ([1] : List UInt8)) = decide (F = [1]) := by
          rw [strV_string F sf hsf, Lib.toList_data]
          simp only
          by_cases h : F = [1]
          · simp [h]
          · simp [h]
        have HTk1 := Lib.hid htk1
        have HRaE := Lib.hid hra
        have HFE := Lib.hid hF
        clear htk1 hsf hra hF
        unfold takeV at hT
        have hral : ra.left.length ≤ 9223372036854775807 := by have := rd_take_len r 1; rw [HRaE.out] at this; have := HRl.out; omega
        have HRal := Lib.hid hral
        clear hral
        by_cases hgone : F = [1]
        · rw [decide_eq_true hgone] at hfb
          have HGone := Lib.hid hgone
          clear hgone
          go_wp2_with (first
            | (go_at_call 108; refine HTk1.out.mono ?_; rintro e w2 ⟨rfl, hr2, hc2⟩
               have HR2 := Lib.hid hr2
               have HC2 := Lib.hid hc2
               have cT2 := hc2.cell hT (show ¬ (w.heap.size + 1 + 1 = w.heap.size ∨ w.heap.size + 1 + 1 = w.heap.size + 1) by omega)
               clear hr2 hc2))
          obtain ⟨wP, hwP⟩ : ∃ wP, w2.alloc (.cells #[.string ⟨#[]⟩, .string ⟨#[]⟩, .bool true] 103) = wP := ⟨_, rfl⟩
          rw [hwP]
          have hca : Chg (fun _ => False) w2 wP := by rw [← hwP]; exact (Chg.refl _ _).alloc _
          have hbP : wP.heap[w2.heap.size]? = some (.cells #[.string ⟨#[]⟩, .string ⟨#[]⟩, .bool true] 103 (0, 0)) := by rw [← hwP]; exact block_alloc_new _ _
          have cTP : wP.cell? ⟨w.heap.size + 1 + 1, 0, none⟩ = some (.func (.func 108) #[] #[.pointer (some ⟨w.heap.size + 1, 0, none⟩), .pointer (some ⟨w.heap.size, 0, none⟩)]) := hca.cell cT2 id
          obtain ⟨P, hP⟩ : ∃ P, w2.heap.size = P := ⟨_, rfl⟩
          rw [hP] at hbP ⊢
          have hPz : w.heap.size + 3 ≤ P := by rw [← hP]; exact Nat.le_trans HZ.out HC2.out.size
          have HPw := Lib.hid (show wr.heap.size ≤ P by rw [← hP]; exact HC2.out.size)
          have HRP := Lib.hid (HR2.out.kept hca id id)
          have HCP := Lib.hid ((HC2.out.mono (S' := S3 w P) (fun _ _ h => h.imp id Or.inl)).trans' (hca.mono (fun _ _ h => h.elim)))
          have HBP := Lib.hid hbP
          have HPz := Lib.hid hPz
          have n1 : ¬ P = w.heap.size := by omega
          have n2 : ¬ P = w.heap.size + 1 := by omega
          have n3 : ¬ w.heap.size + 1 + 1 = P := by omega
          clear hwP hca hbP hP hPz cT2
          obtain ⟨key, hkeyx⟩ : ∃ x, ra.text.1 = x := ⟨_, rfl⟩
          obtain ⟨rc, hrcx⟩ : ∃ x, ra.text.2 = x := ⟨_, rfl⟩
          have hnumx := num_any _ (HRP.out.kept (Chg.refl (fun _ => False) wP).drew id id) (show wP.drew.cell? ⟨w.heap.size + 1 + 1, 0, none⟩ = some (takeV _ _) from cTP) (by omega) (by omega) HRal.out
          have htkx : ∀ w', RdAt w' w.heap.size (w.heap.size + 1) ra.num.2 → Calls Tryz.prog 108 #[.int .u64 (ra.num.1 : Int), .pointer (some ⟨w.heap.size + 1, 0, none⟩), .pointer (some ⟨w.heap.size, 0, none⟩)] w' fun e w'' => e = .returned (strV key) ∧ RdAt w'' w.heap.size (w.heap.size + 1) rc ∧ Chg (fun k => k = w.heap.size ∨ k = w.heap.size + 1) w' w'' := by
            intro w' h
            rw [← hkeyx, ← hrcx]
            exact take_any w' h ra.num.1 (rd_num_lt ra) (Nat.le_trans (rd_num_len ra) HRal.out)
          have HRlx := Lib.hid (show rc.left.length ≤ 9223372036854775807 by rw [← hrcx]; exact Nat.le_trans (rd_text_len ra) HRal.out)
          obtain ⟨sk, hskx⟩ : ∃ s : ByteArray, strV key = .string s := ⟨_, rfl⟩
          rw [hskx] at htkx
          obtain ⟨Nx, hNx⟩ : ∃ N, ra.num.1 = N := ⟨_, rfl⟩
          rw [hNx] at hnumx htkx
          have HNumx := Lib.hid hnumx
          have HTkx := Lib.hid htkx
          have HSkx := Lib.hid hskx
          have HKeyx := Lib.hid (And.intro hkeyx hrcx)
          clear hNx hnumx htkx hskx hkeyx hrcx
          go_region_held3 (fun w' => w'.cell? ⟨w.heap.size + 1 + 1, 0, none⟩ = some (.func (.func 108) #[] #[.pointer (some ⟨w.heap.size + 1, 0, none⟩), .pointer (some ⟨w.heap.size, 0, none⟩)])) (go_keep)
            (first
            | (go_at_call 109; refine HNumx.out.mono ?_; rintro e w4x ⟨rfl, hr4, hc4⟩; have cT4 := hc4.cell cTP (show ¬ (w.heap.size + 1 + 1 = w.heap.size ∨ w.heap.size + 1 + 1 = w.heap.size + 1) by omega); have HR4x := Lib.hid hr4; have HC4x := Lib.hid hc4; clear hr4 hc4)
            | (go_at_call 108; refine (HTkx.out _ HR4x.out).mono ?_; rintro e w5x ⟨rfl, hr5, hc5⟩; have cT5 := hc5.cell cT4 (show ¬ (w.heap.size + 1 + 1 = w.heap.size ∨ w.heap.size + 1 + 1 = w.heap.size + 1) by omega); have hb5 := hc5.at (HC4x.out.at (show wP.drew.heap[P]? = _ from HBP.out) (show ¬ (P = w.heap.size ∨ P = w.heap.size + 1) by omega)) (show ¬ (P = w.heap.size ∨ P = w.heap.size + 1) by omega); have c5 : w5x.cell? ⟨P, 0, none⟩ = some (.string ⟨#[]⟩) := cell_of_block hb5 rfl; have z5 : w5x.frozen? ⟨P, 0, none⟩ = false := free_of_block hb5; have cT6 := (Chg.setCell (S := fun k => k = P) (p := ⟨P, 0, none⟩) (Chg.refl _ w5x) (fun _ => rfl) (.string sk)).cell cT5 n3; have HB5x := Lib.hid hb5; have HR5x := Lib.hid hr5; have HC5x := Lib.hid hc5; clear hr5 hc5 hb5))
          have hcsx : Chg (fun k => k = P) w5x (w5x.setCell ⟨P, 0, none⟩ (.string sk)) := Chg.setCell (S := fun k => k = P) (p := ⟨P, 0, none⟩) (Chg.refl _ _) (fun _ => rfl) _
          have HR6x := Lib.hid (HR5x.out.kept hcsx (fun e => n1 e.symm) (fun e => n2 e.symm))
          have hb6 := block_setCell (i := 0) (v := .string sk) HB5x.out
          have HC6x := Lib.hid ((((((Chg.refl (S3 w P) wP).drew).trans (HC4x.out.mono (S' := S3 w P) (fun k _ h => h.imp id Or.inl)) (fun _ _ h => h)).trans (HC5x.out.mono (S' := S3 w P) (fun k _ h => h.imp id Or.inl)) (fun _ _ h => h))).trans (hcsx.mono (S' := S3 w P) (fun k _ h => Or.inr (Or.inr h))) (fun _ _ h => h))
          obtain ⟨w6x, hw6⟩ : ∃ x, w5x.setCell ⟨P, 0, none⟩ (.string sk) = x := ⟨_, rfl⟩
          rw [hw6] at HR6x hb6 HC6x cT6 ⊢
          have HB6x := Lib.hid (show w6x.heap[P]? = some (.cells #[.string sk, .string ⟨#[]⟩, .bool true] 103 (0, 0)) from hb6)
          have cT6x := cT6
          clear hw6 hb6 hcsx cT6 cT5 cT4 c5 z5
          have hput : r.put = (PV.mk key [] true, rc) := (by unfold Rd.put; rw [HRaE.out, HFE.out, if_pos HGone.out, HKeyx.out.1, HKeyx.out.2])
          have hrow : (PV.mk key [] true).row = [.string sk, .string ⟨#[]⟩, .bool true] := (by unfold PV.row; simp only; rw [HSkx.out]; rfl)
          have hstep := dec_puts M r1 r ls (M - k - 1) (by rw [show M - k - 1 + 1 = M - k by omega]; exact HPu.out)
          rw [hput] at hstep
          simp only at hstep
          have HStep := Lib.hid hstep
          have hcw : Chg (S3 w P) wr w6x := (HCP.out.trans HC6x.out (fun _ _ h => h))
          have hcwF : Chg (fun _ => False) w w6x := HC.out.new hcw (fun i hi => by have := HPz.out; rcases hi with h | h | h <;> omega)
          have hvw : Puts w6x (w.heap.size + 3) _ ls := HV.out.kept hcw (fun g hg hs => by have h1 := HV.out.lt hg; have h2 := HPw.out; rcases hs with h | h | h <;> omega)
          have hca7 : Chg (fun _ => False) w6x (w6x.alloc (.cells #[.string sk, .string ⟨#[]⟩, .bool true] 103)) := (Chg.refl _ _).alloc _
          have hz7 : w.heap.size + 3 ≤ (w6x).heap.size := Nat.le_trans HZ.out hcw.size
          obtain ⟨v8, w8, hr8, hp8, hg8⟩ := append_put (p := PV.mk key [] true) (nb := (w6x).heap.size) (hvw.kept hca7 (fun _ _ h => h)) (fun j u hu => cell_of_block (block_alloc_new _ _) (by rw [hrow] at hu; simpa using hu)) (Nat.le_trans hz7 hca7.size) (by have := HLk.out; omega) 66
          have hr8d : RdAt w8 w.heap.size (w.heap.size + 1) rc := (HR6x.out.kept hca7 id id).kept hg8 (by omega) (by omega)
          have c8 : w8.cell? ⟨w.heap.size + 1, 0, none⟩ = some (.bool rc.good) := cell_of_block hr8d.good rfl
          have cT8 : w8.cell? ⟨w.heap.size + 1 + 1, 0, none⟩ = some (takeV w.heap.size (w.heap.size + 1)) := hg8.cell (hca7.cell cT6x id) (show ¬ w.heap.size + 3 ≤ w.heap.size + 1 + 1 by omega)
          have p0 : (w6x).cell? ⟨P, 0, none⟩ = some (.string sk) := cell_of_block HB6x.out rfl
          have p1 : (w6x).cell? ⟨P, 1, none⟩ = some (.string ⟨#[]⟩) := cell_of_block HB6x.out rfl
          have p2 : (w6x).cell? ⟨P, 2, none⟩ = some (.bool true) := cell_of_block HB6x.out rfl
          have HC8 := Lib.hid (show Chg (fun _ => False) w w8 from (hcwF.trans' hca7).new hg8 (fun i hi => by omega))
          have HZ8 := Lib.hid (Nat.le_trans hz7 (Nat.le_trans hca7.size hg8.size))
          have HR8 := Lib.hid hr8
          have HP8 := Lib.hid hp8
          have HR8d := Lib.hid hr8d
          have HT8 := Lib.hid cT8
          clear hput hrow hstep hcw hcwF hvw hca7 hz7 hr8 hp8 hg8 hr8d cT8
          cases hgf : rc.good
          · have HGf := Lib.hid hgf
            rw [hgf] at c8
            clear hgf
            go_wp2_with (first
              | (at_builtin; refine Lib.wpList_append_run _ rfl _ _ _ _ rfl _ _ rfl rfl _ _ HR8.out ?_))
            go_ret2
            refine ⟨_, _, rfl, ?_, HC8.out⟩
            rw [HD.out, if_neg (by rintro (h | h); rw [HG1.out] at h; cases h; exact h64 h), HStep.out.2 HGf.out]
            exact ⟨rfl, rfl⟩
          · have HGf := Lib.hid hgf
            rw [hgf] at c8
            clear hgf
            go_wp2_with (first
              | (at_builtin; refine Lib.wpList_append_run _ rfl _ _ _ _ rfl _ _ rfl rfl _ _ HR8.out ?_))
            refine ⟨⟨k + 1, ls ++ [PV.mk key [] true], rc, by go_num, hlt, HP8.out, by rw [List.length_append, HLk.out]; rfl, HR8d.out, HGf.out, (by have h1 := rd_text_len ra; rw [HKeyx.out.2] at h1; have h2 := rd_take_len r 1; rw [HRaE.out] at h2; have := HRl.out; omega), ?_, HC8.out, HT8.out, HZ8.out⟩, puts_meas hlt⟩
            rw [show M - (k + 1) = M - k - 1 by omega]
            exact HStep.out.1 HGf.out
        · rw [decide_eq_false hgone] at hfb
          have HGone := Lib.hid hgone
          clear hgone
          go_wp2_with (first
            | (go_at_call 108; refine HTk1.out.mono ?_; rintro e w2 ⟨rfl, hr2, hc2⟩
               have HR2 := Lib.hid hr2
               have HC2 := Lib.hid hc2
               have cT2 := hc2.cell hT (show ¬ (w.heap.size + 1 + 1 = w.heap.size ∨ w.heap.size + 1 + 1 = w.heap.size + 1) by omega)
               clear hr2 hc2))
          obtain ⟨wP, hwP⟩ : ∃ wP, w2.alloc (.cells #[.string ⟨#[]⟩, .string ⟨#[]⟩, .bool false] 103) = wP := ⟨_, rfl⟩
          rw [hwP]
          have hca : Chg (fun _ => False) w2 wP := by rw [← hwP]; exact (Chg.refl _ _).alloc _
          have hbP : wP.heap[w2.heap.size]? = some (.cells #[.string ⟨#[]⟩, .string ⟨#[]⟩, .bool false] 103 (0, 0)) := by rw [← hwP]; exact block_alloc_new _ _
          have cTP : wP.cell? ⟨w.heap.size + 1 + 1, 0, none⟩ = some (.func (.func 108) #[] #[.pointer (some ⟨w.heap.size + 1, 0, none⟩), .pointer (some ⟨w.heap.size, 0, none⟩)]) := hca.cell cT2 id
          obtain ⟨P, hP⟩ : ∃ P, w2.heap.size = P := ⟨_, rfl⟩
          rw [hP] at hbP ⊢
          have hPz : w.heap.size + 3 ≤ P := by rw [← hP]; exact Nat.le_trans HZ.out HC2.out.size
          have HPw := Lib.hid (show wr.heap.size ≤ P by rw [← hP]; exact HC2.out.size)
          have HRP := Lib.hid (HR2.out.kept hca id id)
          have HCP := Lib.hid ((HC2.out.mono (S' := S3 w P) (fun _ _ h => h.imp id Or.inl)).trans' (hca.mono (fun _ _ h => h.elim)))
          have HBP := Lib.hid hbP
          have HPz := Lib.hid hPz
          have n1 : ¬ P = w.heap.size := by omega
          have n2 : ¬ P = w.heap.size + 1 := by omega
          have n3 : ¬ w.heap.size + 1 + 1 = P := by omega
          clear hwP hca hbP hP hPz cT2
          obtain ⟨key, hkeyx⟩ : ∃ x, ra.text.1 = x := ⟨_, rfl⟩
          obtain ⟨rc, hrcx⟩ : ∃ x, ra.text.2 = x := ⟨_, rfl⟩
          have hnumx := num_any _ (HRP.out.kept (Chg.refl (fun _ => False) wP).drew id id) (show wP.drew.cell? ⟨w.heap.size + 1 + 1, 0, none⟩ = some (takeV _ _) from cTP) (by omega) (by omega) HRal.out
          have htkx : ∀ w', RdAt w' w.heap.size (w.heap.size + 1) ra.num.2 → Calls Tryz.prog 108 #[.int .u64 (ra.num.1 : Int), .pointer (some ⟨w.heap.size + 1, 0, none⟩), .pointer (some ⟨w.heap.size, 0, none⟩)] w' fun e w'' => e = .returned (strV key) ∧ RdAt w'' w.heap.size (w.heap.size + 1) rc ∧ Chg (fun k => k = w.heap.size ∨ k = w.heap.size + 1) w' w'' := by
            intro w' h
            rw [← hkeyx, ← hrcx]
            exact take_any w' h ra.num.1 (rd_num_lt ra) (Nat.le_trans (rd_num_len ra) HRal.out)
          have HRlx := Lib.hid (show rc.left.length ≤ 9223372036854775807 by rw [← hrcx]; exact Nat.le_trans (rd_text_len ra) HRal.out)
          obtain ⟨sk, hskx⟩ : ∃ s : ByteArray, strV key = .string s := ⟨_, rfl⟩
          rw [hskx] at htkx
          obtain ⟨Nx, hNx⟩ : ∃ N, ra.num.1 = N := ⟨_, rfl⟩
          rw [hNx] at hnumx htkx
          have HNumx := Lib.hid hnumx
          have HTkx := Lib.hid htkx
          have HSkx := Lib.hid hskx
          have HKeyx := Lib.hid (And.intro hkeyx hrcx)
          clear hNx hnumx htkx hskx hkeyx hrcx
          go_region_held3 (fun w' => w'.cell? ⟨w.heap.size + 1 + 1, 0, none⟩ = some (.func (.func 108) #[] #[.pointer (some ⟨w.heap.size + 1, 0, none⟩), .pointer (some ⟨w.heap.size, 0, none⟩)])) (go_keep)
            (first
            | (go_at_call 109; refine HNumx.out.mono ?_; rintro e w4x ⟨rfl, hr4, hc4⟩; have cT4 := hc4.cell cTP (show ¬ (w.heap.size + 1 + 1 = w.heap.size ∨ w.heap.size + 1 + 1 = w.heap.size + 1) by omega); have HR4x := Lib.hid hr4; have HC4x := Lib.hid hc4; clear hr4 hc4)
            | (go_at_call 108; refine (HTkx.out _ HR4x.out).mono ?_; rintro e w5x ⟨rfl, hr5, hc5⟩; have cT5 := hc5.cell cT4 (show ¬ (w.heap.size + 1 + 1 = w.heap.size ∨ w.heap.size + 1 + 1 = w.heap.size + 1) by omega); have hb5 := hc5.at (HC4x.out.at (show wP.drew.heap[P]? = _ from HBP.out) (show ¬ (P = w.heap.size ∨ P = w.heap.size + 1) by omega)) (show ¬ (P = w.heap.size ∨ P = w.heap.size + 1) by omega); have c5 : w5x.cell? ⟨P, 0, none⟩ = some (.string ⟨#[]⟩) := cell_of_block hb5 rfl; have z5 : w5x.frozen? ⟨P, 0, none⟩ = false := free_of_block hb5; have cT6 := (Chg.setCell (S := fun k => k = P) (p := ⟨P, 0, none⟩) (Chg.refl _ w5x) (fun _ => rfl) (.string sk)).cell cT5 n3; have HB5x := Lib.hid hb5; have HR5x := Lib.hid hr5; have HC5x := Lib.hid hc5; clear hr5 hc5 hb5))
          have hcsx : Chg (fun k => k = P) w5x (w5x.setCell ⟨P, 0, none⟩ (.string sk)) := Chg.setCell (S := fun k => k = P) (p := ⟨P, 0, none⟩) (Chg.refl _ _) (fun _ => rfl) _
          have HR6x := Lib.hid (HR5x.out.kept hcsx (fun e => n1 e.symm) (fun e => n2 e.symm))
          have hb6 := block_setCell (i := 0) (v := .string sk) HB5x.out
          have HC6x := Lib.hid ((((((Chg.refl (S3 w P) wP).drew).trans (HC4x.out.mono (S' := S3 w P) (fun k _ h => h.imp id Or.inl)) (fun _ _ h => h)).trans (HC5x.out.mono (S' := S3 w P) (fun k _ h => h.imp id Or.inl)) (fun _ _ h => h))).trans (hcsx.mono (S' := S3 w P) (fun k _ h => Or.inr (Or.inr h))) (fun _ _ h => h))
          obtain ⟨w6x, hw6⟩ : ∃ x, w5x.setCell ⟨P, 0, none⟩ (.string sk) = x := ⟨_, rfl⟩
          rw [hw6] at HR6x hb6 HC6x cT6 ⊢
          have HB6x := Lib.hid (show w6x.heap[P]? = some (.cells #[.string sk, .string ⟨#[]⟩, .bool false] 103 (0, 0)) from hb6)
          have cT6x := cT6
          clear hw6 hb6 hcsx cT6 cT5 cT4 c5 z5
          have p2 : w6x.cell? ⟨P, 2, none⟩ = some (.bool false) := cell_of_block HB6x.out rfl
          go_wp2_with fail
          clear p2
          obtain ⟨val, hkeyy⟩ : ∃ x, rc.text.1 = x := ⟨_, rfl⟩
          obtain ⟨rd, hrcy⟩ : ∃ x, rc.text.2 = x := ⟨_, rfl⟩
          have hnumy := num_any _ (HR6x.out.kept (Chg.refl (fun _ => False) w6x).drew id id) (show w6x.drew.cell? ⟨w.heap.size + 1 + 1, 0, none⟩ = some (takeV _ _) from cT6x) (by omega) (by omega) HRlx.out
          have htky : ∀ w', RdAt w' w.heap.size (w.heap.size + 1) rc.num.2 → Calls Tryz.prog 108 #[.int .u64 (rc.num.1 : Int), .pointer (some ⟨w.heap.size + 1, 0, none⟩), .pointer (some ⟨w.heap.size, 0, none⟩)] w' fun e w'' => e = .returned (strV val) ∧ RdAt w'' w.heap.size (w.heap.size + 1) rd ∧ Chg (fun k => k = w.heap.size ∨ k = w.heap.size + 1) w' w'' := by
            intro w' h
            rw [← hkeyy, ← hrcy]
            exact take_any w' h rc.num.1 (rd_num_lt rc) (Nat.le_trans (rd_num_len rc) HRlx.out)
          have HRly := Lib.hid (show rd.left.length ≤ 9223372036854775807 by rw [← hrcy]; exact Nat.le_trans (rd_text_len rc) HRlx.out)
          obtain ⟨sv, hsky⟩ : ∃ s : ByteArray, strV val = .string s := ⟨_, rfl⟩
          rw [hsky] at htky
          obtain ⟨Ny, hNy⟩ : ∃ N, rc.num.1 = N := ⟨_, rfl⟩
          rw [hNy] at hnumy htky
          have HNumy := Lib.hid hnumy
          have HTky := Lib.hid htky
          have HSky := Lib.hid hsky
          have HKeyy := Lib.hid (And.intro hkeyy hrcy)
          clear hNy hnumy htky hsky hkeyy hrcy
          go_region_held3 (fun w' => w'.cell? ⟨w.heap.size + 1 + 1, 0, none⟩ = some (.func (.func 108) #[] #[.pointer (some ⟨w.heap.size + 1, 0, none⟩), .pointer (some ⟨w.heap.size, 0, none⟩)])) (go_keep)
            (first
            | (go_at_call 109; refine HNumy.out.mono ?_; rintro e w4y ⟨rfl, hr4, hc4⟩; have cT4 := hc4.cell cT6x (show ¬ (w.heap.size + 1 + 1 = w.heap.size ∨ w.heap.size + 1 + 1 = w.heap.size + 1) by omega); have HR4y := Lib.hid hr4; have HC4y := Lib.hid hc4; clear hr4 hc4)
            | (go_at_call 108; refine (HTky.out _ HR4y.out).mono ?_; rintro e w5y ⟨rfl, hr5, hc5⟩; have cT5 := hc5.cell cT4 (show ¬ (w.heap.size + 1 + 1 = w.heap.size ∨ w.heap.size + 1 + 1 = w.heap.size + 1) by omega); have hb5 := hc5.at (HC4y.out.at (show w6x.drew.heap[P]? = _ from HB6x.out) (show ¬ (P = w.heap.size ∨ P = w.heap.size + 1) by omega)) (show ¬ (P = w.heap.size ∨ P = w.heap.size + 1) by omega); have c5 : w5y.cell? ⟨P, 1, none⟩ = some (.string ⟨#[]⟩) := cell_of_block hb5 rfl; have z5 : w5y.frozen? ⟨P, 1, none⟩ = false := free_of_block hb5; have cT6 := (Chg.setCell (S := fun k => k = P) (p := ⟨P, 1, none⟩) (Chg.refl _ w5y) (fun _ => rfl) (.string sv)).cell cT5 n3; have HB5y := Lib.hid hb5; have HR5y := Lib.hid hr5; have HC5y := Lib.hid hc5; clear hr5 hc5 hb5))
          have hcsy : Chg (fun k => k = P) w5y (w5y.setCell ⟨P, 1, none⟩ (.string sv)) := Chg.setCell (S := fun k => k = P) (p := ⟨P, 1, none⟩) (Chg.refl _ _) (fun _ => rfl) _
          have HR6y := Lib.hid (HR5y.out.kept hcsy (fun e => n1 e.symm) (fun e => n2 e.symm))
          have hb6 := block_setCell (i := 1) (v := .string sv) HB5y.out
          have HC6y := Lib.hid ((((((Chg.refl (S3 w P) w6x).drew).trans (HC4y.out.mono (S' := S3 w P) (fun k _ h => h.imp id Or.inl)) (fun _ _ h => h)).trans (HC5y.out.mono (S' := S3 w P) (fun k _ h => h.imp id Or.inl)) (fun _ _ h => h))).trans (hcsy.mono (S' := S3 w P) (fun k _ h => Or.inr (Or.inr h))) (fun _ _ h => h))
          obtain ⟨w6y, hw6⟩ : ∃ x, w5y.setCell ⟨P, 1, none⟩ (.string sv) = x := ⟨_, rfl⟩
          rw [hw6] at HR6y hb6 HC6y cT6 ⊢
          have HB6y := Lib.hid (show w6y.heap[P]? = some (.cells #[.string sk, .string sv, .bool false] 103 (0, 0)) from hb6)
          have cT6y := cT6
          clear hw6 hb6 hcsy cT6 cT5 cT4 c5 z5
          have hput : r.put = (PV.mk key val false, rd) := (by unfold Rd.put; rw [HRaE.out, HFE.out, if_neg HGone.out, HKeyx.out.1, HKeyx.out.2, HKeyy.out.1, HKeyy.out.2])
          have hrow : (PV.mk key val false).row = [.string sk, .string sv, .bool false] := (by unfold PV.row; simp only; rw [HSkx.out, HSky.out])
          have hstep := dec_puts M r1 r ls (M - k - 1) (by rw [show M - k - 1 + 1 = M - k by omega]; exact HPu.out)
          rw [hput] at hstep
          simp only at hstep
          have HStep := Lib.hid hstep
          have hcw : Chg (S3 w P) wr w6y := ((HCP.out.trans HC6x.out (fun _ _ h => h)).trans HC6y.out (fun _ _ h => h))
          have hcwF : Chg (fun _ => False) w w6y := HC.out.new hcw (fun i hi => by have := HPz.out; rcases hi with h | h | h <;> omega)
          have hvw : Puts w6y (w.heap.size + 3) _ ls := HV.out.kept hcw (fun g hg hs => by have h1 := HV.out.lt hg; have h2 := HPw.out; rcases hs with h | h | h <;> omega)
          have hca7 : Chg (fun _ => False) w6y (w6y.alloc (.cells #[.string sk, .string sv, .bool false] 103)) := (Chg.refl _ _).alloc _
          have hz7 : w.heap.size + 3 ≤ (w6y).heap.size := Nat.le_trans HZ.out hcw.size
          obtain ⟨v8, w8, hr8, hp8, hg8⟩ := append_put (p := PV.mk key val false) (nb := (w6y).heap.size) (hvw.kept hca7 (fun _ _ h => h)) (fun j u hu => cell_of_block (block_alloc_new _ _) (by rw [hrow] at hu; simpa using hu)) (Nat.le_trans hz7 hca7.size) (by have := HLk.out; omega) 66
          have hr8d : RdAt w8 w.heap.size (w.heap.size + 1) rd := (HR6y.out.kept hca7 id id).kept hg8 (by omega) (by omega)
          have c8 : w8.cell? ⟨w.heap.size + 1, 0, none⟩ = some (.bool rd.good) := cell_of_block hr8d.good rfl
          have cT8 : w8.cell? ⟨w.heap.size + 1 + 1, 0, none⟩ = some (takeV w.heap.size (w.heap.size + 1)) := hg8.cell (hca7.cell cT6y id) (show ¬ w.heap.size + 3 ≤ w.heap.size + 1 + 1 by omega)
          have p0 : (w6y).cell? ⟨P, 0, none⟩ = some (.string sk) := cell_of_block HB6y.out rfl
          have p1 : (w6y).cell? ⟨P, 1, none⟩ = some (.string sv) := cell_of_block HB6y.out rfl
          have p2 : (w6y).cell? ⟨P, 2, none⟩ = some (.bool false) := cell_of_block HB6y.out rfl
          have HC8 := Lib.hid (show Chg (fun _ => False) w w8 from (hcwF.trans' hca7).new hg8 (fun i hi => by omega))
          have HZ8 := Lib.hid (Nat.le_trans hz7 (Nat.le_trans hca7.size hg8.size))
          have HR8 := Lib.hid hr8
          have HP8 := Lib.hid hp8
          have HR8d := Lib.hid hr8d
          have HT8 := Lib.hid cT8
          clear hput hrow hstep hcw hcwF hvw hca7 hz7 hr8 hp8 hg8 hr8d cT8
          cases hgf : rd.good
          · have HGf := Lib.hid hgf
            rw [hgf] at c8
            clear hgf
            go_wp2_with (first
              | (at_builtin; refine Lib.wpList_append_run _ rfl _ _ _ _ rfl _ _ rfl rfl _ _ HR8.out ?_))
            go_ret2
            refine ⟨_, _, rfl, ?_, HC8.out⟩
            rw [HD.out, if_neg (by rintro (h | h); rw [HG1.out] at h; cases h; exact h64 h), HStep.out.2 HGf.out]
            exact ⟨rfl, rfl⟩
          · have HGf := Lib.hid hgf
            rw [hgf] at c8
            clear hgf
            go_wp2_with (first
              | (at_builtin; refine Lib.wpList_append_run _ rfl _ _ _ _ rfl _ _ rfl rfl _ _ HR8.out ?_))
            refine ⟨⟨k + 1, ls ++ [PV.mk key val false], rd, by go_num, hlt, HP8.out, by rw [List.length_append, HLk.out]; rfl, HR8d.out, HGf.out, (by have h1 := rd_text_len ra; rw [HKeyx.out.2] at h1; have h2 := rd_take_len r 1; rw [HRaE.out] at h2; have h3 := rd_text_len rc; rw [HKeyy.out.2] at h3; have := HRl.out; omega), ?_, HC8.out, HT8.out, HZ8.out⟩, puts_meas hlt⟩
            rw [show M - (k + 1) = M - k - 1 by omega]
            exact HStep.out.1 HGf.out
      · have hki : ¬ (k : Int) < (M : Int) := by omega
        obtain rfl : k = M := by omega
        have hpk := HPu.out
        rw [Nat.sub_self, Rd.puts, Option.map_some, List.append_nil] at hpk
        have hRk : R = if encF ls = (t, 0) then some ls else none := by
          rw [HD.out, if_neg (by rintro (h | h); rw [HG1.out] at h; cases h; exact h64 h), hpk]
        have hEnc := encode_any wr HV.out (by have := HLk.out; omega)
        rcases hee : encF ls with ⟨E, er⟩
        rw [hee] at hEnc hRk
        simp only at hEnc
        obtain ⟨se, hse⟩ : ∃ x : ByteArray, strV E = .string x := ⟨_, rfl⟩
        have hss := HS.out
        rw [hse] at hEnc
        have hcmp : (se.toList == s.toList) = decide (E = t) := by
          rw [strV_string E se hse, strV_string t s HS.out, Lib.toList_data, Lib.toList_data]
          simp only
          by_cases h : E = t
          · simp [h]
          · simp [h]
        have HEnc := Lib.hid hEnc
        have HRk := Lib.hid hRk
        clear hpk hRk hEnc hse hss hee
        by_cases he0 : er = 0
        · subst he0
          by_cases heq : E = t
          · rw [decide_eq_true heq] at hcmp
            have HEq := Lib.hid heq
            clear heq
            go_wp2_with (first
              | (go_at_call 66; refine HEnc.out.mono ?_; rintro e w9 ⟨rfl, hc9⟩; have HC9 := Lib.hid hc9; clear hc9))
            go_ret2
            refine ⟨_, _, rfl, ?_, HC.out.trans' HC9.out⟩
            rw [HRk.out, HEq.out, if_pos rfl]
            exact ⟨Puts.lower (HV.out.kept HC9.out (fun _ _ h => h)) (by omega), rfl⟩
          · rw [decide_eq_false heq] at hcmp
            have HEq := Lib.hid heq
            clear heq
            go_wp2_with (first
              | (go_at_call 66; refine HEnc.out.mono ?_; rintro e w9 ⟨rfl, hc9⟩; have HC9 := Lib.hid hc9; clear hc9))
            go_ret2
            refine ⟨_, _, rfl, ?_, HC.out.trans' HC9.out⟩
            rw [HRk.out, if_neg (fun h => HEq.out (Prod.mk.inj h).1)]
            exact ⟨rfl, rfl⟩
        · have hei : ¬ (er : Int) = 0 := by omega
          have HEr := Lib.hid he0
          clear he0
          go_wp2_with (first
            | (go_at_call 66; refine HEnc.out.mono ?_; rintro e w9 ⟨rfl, hc9⟩; have HC9 := Lib.hid hc9; clear hc9))
          go_ret2
          refine ⟨_, _, rfl, ?_, HC.out.trans' HC9.out⟩
          rw [HRk.out, if_neg (fun h => HEr.out (Prod.mk.inj h).2)]
          exact ⟨rfl, rfl⟩

end Go.Proofs.YtbjagmlbamjdbaaGreat.kvs
end

/-
  kv: the library sort laid at this program (the text of the kit command, by my program laytpl.py).
-/
section
set_option linter.unusedSimpArgs false
set_option linter.unusedVariables false
namespace Go.Proofs.YtbjagmlbamjdbaaGreat.kvs
open Go.Shelf

def sortP_ren : Go.Shelf.Ren := ⟨fun | 6 => 129 | 15 => 169 | 14 => 168 | 28 => 196 | 29 => 197 | 20 => 188 | 21 => 189 | 22 => 190 | 23 => 191 | 24 => 192 | 25 => 193 | 26 => 194 | 27 => 195 | 46 => 217 | 47 => 218 | 48 => 219 | 49 => 220 | 50 => 221 | 57 => 228 | n => n, fun | 22 => 66 | 24 => 103 | 25 => 210 | 3 => 3 | 39 => 217 | 0 => 0 | 53 => 254 | 55 => 162 | 4 => 4 | 46 => 269 | 45 => 268 | 50 => 169 | 5 => 5 | 9 => 9 | 66 => 292 | 70 => 295 | 76 => 299 | 77 => 300 | n => n, fun | n => n⟩

theorem sortP : Go.Proofs.SlLaysF0.n6 Tryz.prog sortP_ren := {
  mixed := by kernel_rfl,
  f6 := ⟨Tryz.f129.name, by decide, Tryz.func129.trans (congrArg some (by kernel_rfl))⟩,
  f14 := ⟨Tryz.f168.name, by decide, Tryz.func168.trans (congrArg some (by kernel_rfl))⟩,
  f15 := Tryz.func169.trans (congrArg some (by kernel_rfl)),
  f20 := ⟨Tryz.f188.name, by decide, Tryz.func188.trans (congrArg some (by kernel_rfl))⟩,
  f21 := ⟨Tryz.f189.name, by decide, Tryz.func189.trans (congrArg some (by kernel_rfl))⟩,
  f22 := ⟨Tryz.f190.name, by decide, Tryz.func190.trans (congrArg some (by kernel_rfl))⟩,
  f23 := ⟨Tryz.f191.name, by decide, Tryz.func191.trans (congrArg some (by kernel_rfl))⟩,
  f24 := ⟨Tryz.f192.name, by decide, Tryz.func192.trans (congrArg some (by kernel_rfl))⟩,
  f25 := ⟨Tryz.f193.name, by decide, Tryz.func193.trans (congrArg some (by kernel_rfl))⟩,
  f26 := ⟨Tryz.f194.name, by decide, Tryz.func194.trans (congrArg some (by kernel_rfl))⟩,
  f27 := ⟨Tryz.f195.name, by decide, Tryz.func195.trans (congrArg some (by kernel_rfl))⟩,
  f28 := Tryz.func196.trans (congrArg some (by kernel_rfl)),
  f29 := Tryz.func197.trans (congrArg some (by kernel_rfl)),
  f46 := ⟨Tryz.f217.name, by decide, Tryz.func217.trans (congrArg some (by kernel_rfl))⟩,
  f47 := Tryz.func218.trans (congrArg some (by kernel_rfl)),
  f48 := Tryz.func219.trans (congrArg some (by kernel_rfl)),
  f49 := ⟨Tryz.f220.name, by decide, Tryz.func220.trans (congrArg some (by kernel_rfl))⟩,
  f50 := ⟨Tryz.f221.name, by decide, Tryz.func221.trans (congrArg some (by kernel_rfl))⟩,
  f57 := ⟨Tryz.f228.name, by decide, Tryz.func228.trans (congrArg some (by kernel_rfl))⟩,
  t0 := Tryz.underlying0,
  a0 := Tryz.isAgg0,
  z0 := Tryz.sizeOf0,
  v0 := Tryz.zeroValue0,
  t3 := Tryz.underlying3,
  a3 := Tryz.isAgg3,
  z3 := Tryz.sizeOf3,
  v3 := Tryz.zeroValue3,
  t4 := Tryz.underlying4,
  a4 := Tryz.isAgg4,
  z4 := Tryz.sizeOf4,
  v4 := Tryz.zeroValue4,
  t5 := Tryz.underlying5,
  a5 := Tryz.isAgg5,
  z5 := Tryz.sizeOf5,
  v5 := Tryz.zeroValue5,
  t9 := Tryz.underlying9,
  a9 := Tryz.isAgg9,
  z9 := Tryz.sizeOf9,
  v9 := Tryz.zeroValue9,
  t22 := Tryz.underlying66,
  a22 := Tryz.isAgg66,
  z22 := Tryz.sizeOf66,
  v22 := Tryz.zeroValue66,
  t25 := Tryz.underlying210,
  a25 := Tryz.isAgg210,
  z25 := Tryz.sizeOf210,
  v25 := Tryz.zeroValue210,
  t39 := Tryz.underlying217,
  a39 := Tryz.isAgg217,
  z39 := Tryz.sizeOf217,
  v39 := Tryz.zeroValue217,
  t45 := Tryz.underlying268,
  a45 := Tryz.isAgg268,
  z45 := Tryz.sizeOf268,
  v45 := Tryz.zeroValue268,
  t46 := Tryz.underlying269,
  a46 := Tryz.isAgg269,
  z46 := Tryz.sizeOf269,
  v46 := Tryz.zeroValue269,
  t50 := Tryz.underlying169,
  a50 := Tryz.isAgg169,
  z50 := Tryz.sizeOf169,
  v50 := Tryz.zeroValue169,
  t53 := Tryz.underlying254,
  a53 := Tryz.isAgg254,
  z53 := Tryz.sizeOf254,
  v53 := Tryz.zeroValue254,
  t55 := Tryz.underlying162,
  a55 := Tryz.isAgg162,
  z55 := Tryz.sizeOf162,
  v55 := Tryz.zeroValue162,
  t66 := Tryz.underlying292,
  a66 := Tryz.isAgg292,
  z66 := Tryz.sizeOf292,
  v66 := Tryz.zeroValue292,
  t70 := Tryz.underlying295,
  a70 := Tryz.isAgg295,
  z70 := Tryz.sizeOf295,
  v70 := Tryz.zeroValue295,
  t76 := Tryz.underlying299,
  a76 := Tryz.isAgg299,
  z76 := Tryz.sizeOf299,
  v76 := Tryz.zeroValue299,
  t77 := Tryz.underlying300,
  a77 := Tryz.isAgg300,
  z77 := Tryz.sizeOf300,
  v77 := Tryz.zeroValue300 }

end Go.Proofs.YtbjagmlbamjdbaaGreat.kvs
end

/-
  kv: strings.Compare; the library's sort at a list of changes, by their keys.
-/
section
set_option linter.unusedSimpArgs false
set_option linter.unusedVariables false
namespace Go.Proofs.YtbjagmlbamjdbaaGreat.kvs
open Go.RowKit Go.Maps Go.My Go.ChangeMaps Go.Shelf Go.Lib Go.Sort disks bufs wals
set_option maxRecDepth 100000

instance : Inhabited PV := ⟨⟨[], [], false⟩⟩

set_option maxHeartbeats 1000000 in
theorem cmpstr_any (a b : ByteArray) (w : World) :
    Calls Tryz.prog 170 #[.string a, .string b] w fun e w' => e = .returned (.int .i64 (Lib.compareBytes a.data.toList b.data.toList)) ∧ w' = w := by
  go_enter Tryz.func170, Tryz.ntmps170
  go_wp2_with fail
  rw [run_callFunc_extern Tryz.func198 (by kernel_rfl) (by kernel_rfl) (by kernel_rfl) (e := Extern.BytealgCompare.compare) (by kernel_rfl), Lib.run_compareString]
  simp only [Result.andThen]
  rw [Oper.upon_value]
  go_wp2_with fail
  go_ret
  exact ⟨rfl, rfl⟩

set_option maxHeartbeats 1000000 in
theorem compare_any (a b : ByteArray) (w : World) :
    Calls Tryz.prog 131 #[.string a, .string b] w fun e w' => e = .returned (.int .i64 (Lib.compareBytes a.data.toList b.data.toList)) ∧ w' = w := by
  go_enter Tryz.func131, Tryz.ntmps131
  go_wp2_with (first | (go_at_call 170; refine (cmpstr_any _ _ _).mono ?_; rintro e w' ⟨rfl, rfl⟩))
  go_ret
  exact ⟨rfl, rfl⟩

def cfP (x y : PV) : Int := Lib.compareBytes x.key y.key

theorem ltP (x y : PV) : ltOf cfP x y = ltB x.key y.key := by
  unfold ltOf cfP
  rw [ltB_cmp]
  cases h : ltB x.key y.key
  · simp only [Bool.false_eq_true, if_false]
    split <;> rfl
  · rfl

theorem swoP : SWO (ltOf cfP) where
  irrefl x := by rw [ltP]; exact ltB_irrefl _
  trans x y z h1 h2 := by rw [ltP] at *; exact ltB_trans h1 h2
  ntrans x y z h1 h2 := by
    rw [ltP] at *
    cases h : ltB x.key z.key with
    | false => rfl
    | true =>
      rcases ltB_tri x.key y.key with h3 | h3 | h3
      · rw [h3] at h1; cases h1
      · rw [h3] at h; rw [h] at h2; cases h2
      · have := ltB_trans h3 h; rw [this] at h2; cases h2

set_option maxHeartbeats 1000000 in
theorem pclosure_any (x y : PV) (W : World) : Calls Tryz.prog 130 #[.agg x.row.toArray, .agg y.row.toArray] W fun e w' => e = .returned (.int .i64 (cfP x y)) ∧ ∃ q os', w' = Go.Sort.grow (W.drewN q) os' := by
  unfold PV.row cfP
  obtain ⟨xk, hxk⟩ : ∃ s : ByteArray, strV x.key = .string s := ⟨_, rfl⟩
  obtain ⟨xv, hxv⟩ : ∃ s : ByteArray, strV x.val = .string s := ⟨_, rfl⟩
  obtain ⟨yk, hyk⟩ : ∃ s : ByteArray, strV y.key = .string s := ⟨_, rfl⟩
  obtain ⟨yv, hyv⟩ : ∃ s : ByteArray, strV y.val = .string s := ⟨_, rfl⟩
  have h1 : x.key = xk.data.toList := by rw [strV_string _ _ hxk]
  have h2 : y.key = yk.data.toList := by rw [strV_string _ _ hyk]
  rw [hxk, hxv, hyk, hyv, h1, h2]
  clear hxk hxv hyk hyv h1 h2
  go_enter Tryz.func130, Tryz.ntmps130
  go_wp2_with (first | (go_at_call 131; refine (compare_any _ _ _).mono ?_; rintro e w' ⟨rfl, rfl⟩))
  go_ret
  exact ⟨rfl, 0, _, by rw [alloc_eq_grow, alloc_eq_grow, grow_grow]; rfl⟩

theorem cmpP (blk off size : Nat) (w : World) : CmpLays Tryz.prog 130 #[] PV.row 3 cfP blk off size w := fun _ _ _ _ x y => pclosure_any x y _

theorem size_put : ∀ w, (Go.sizeOf 103).run Tryz.prog w = .ok 3 w := Tryz.sizeOf103
theorem agg_put : ∀ w, (isAgg 103).run Tryz.prog w = .ok true w := Tryz.isAgg103

theorem psort_any (w : World) {base : Nat} {v : Value} {ws : List PV} (h : Puts w base v ws) (hn : ws.length ≤ 4000000) :
    Calls Tryz.prog 129 #[v, .func (.func 130) #[] #[]] w fun e w' => e = .returned (.tuple #[]) ∧
      ∃ ws' : List PV, ws'.Perm ws ∧ ws'.Pairwise (fun a b => ltB b.key a.key = false) ∧ Puts w' base v ws' ∧ Chg (fun j => some j = v.ownBlock) w w' := by
  obtain ⟨oa, cap, rfl, -⟩ := h.slice
  rw [List.length_map] at *
  rcases ws with _ | ⟨x0, ws0⟩
  · refine (AnyF.slices_SortFunc_none (P := Tryz.prog) (ρ := sortP_ren) { sortP with } oa cap (.func (.func 130) #[] #[]) w).mono ?_
    rintro e w' ⟨rfl, rfl⟩
    exact ⟨rfl, [], List.Perm.refl _, List.Pairwise.nil, h, Chg.refl _ _⟩
  · obtain ⟨ws, hws⟩ : ∃ ws, ws = x0 :: ws0 := ⟨_, rfl⟩
    rw [← hws] at h hn ⊢
    have hpos : 0 < (ws.map PV.row).length := by rw [hws]; simp
    obtain ⟨g, cap', e1, -, -, hg, -, -⟩ := h.cell hpos
    simp only [Value.slice.injEq] at e1
    obtain ⟨rfl, -, -⟩ := e1
    have eg : ∀ args w, (callFunc 130 args).run Tryz.prog w = .ok (.enter 130 args) w := enters_of Tryz.func130 (by kernel_rfl) rfl
    have hcon := AnyQ.slices_SortFunc (P := Tryz.prog) (ρ := sortP_ren) sortP 3 agg_put size_put PV.row (fun _ => rfl) (fun x v hv => row_oneCell x v hv) cfP swoP 130 #[] g 0 cap ws.toArray w eg (cmpP g 0 _ w)
      (recs_holds PV.row 3 (fun _ => rfl) h) hg (by rw [List.size_toArray]; omega)
    rw [List.size_toArray] at hcon
    refine hcon.mono ?_
    rintro e w' ⟨rfl, d', n, os, hp, hs, rfl⟩
    obtain ⟨h1, -, h2⟩ := hp
    have h1' : d'.size = ws.length := by simpa using h1
    have e2 : (d'.extract 0 ws.length).toList = d'.toList := by rw [← h1']; simp
    have e3 : (ws.toArray.extract 0 ws.length).toList = ws := by simp
    rw [e2, e3] at h2
    have hl : d'.toList.length = ws.length := h2.length_eq
    refine ⟨rfl, d'.toList, h2, ?_, ?_, (chg_sorted PV.row 3 w g n d' os).mono (fun j _ e => by rw [e]; rfl)⟩
    · rw [List.pairwise_iff_getElem]
      intro i j hi hj hij
      have := hs i j (Nat.zero_le _) hij (by rw [← h1']; simpa using hj)
      rw [ltP, getElem!_pos d' j (by simpa using hj), getElem!_pos d' i (by simpa using hi)] at this
      simpa using this
    · have := recs_sorted PV.row 3 (fun _ => rfl) (d' := d'.toList) h hl n os
      rw [hl] at this
      simpa using this

end Go.Proofs.YtbjagmlbamjdbaaGreat.kvs
end

/-
  kv: maps of texts: apply, sorted.
-/
section
set_option linter.unusedSimpArgs false
set_option linter.unusedVariables false
namespace Go.Proofs.YtbjagmlbamjdbaaGreat.kvs
open Go.RowKit Go.Maps Go.My Go.ChangeMaps disks bufs wals
set_option maxRecDepth 100000

variable {w w' : World}

def sKey : KeyEnc Tryz.prog 9 Txt where
  enc := strV
  ok k := k.length ≤ maxLen
  keyed := string_keyed Tryz.underlying9
  reads k hk := ⟨_, WideMaps.keyOf_string_mk Tryz.underlying9 (by show (⟨k.toArray⟩ : ByteArray).size ≤ maxLen; simpa [ByteArray.size] using hk)⟩
  inj k k' h := by
    have : Value.string (⟨k.toArray⟩ : ByteArray) = .string ⟨k'.toArray⟩ := h
    simpa using this

abbrev MapAt (w : World) (b : Nat) (m : List KV) : Prop := MapIs sKey strV w b m

theorem puts_ne {B b : Nat} {v : Value} {l : List PV} {m : List KV} (h : Puts w B v l) (hm : MapAt w b m) : ∀ k, v.ownBlock = some k → ¬ k = b := by
  intro k hk e
  obtain ⟨es, clock, hb, -⟩ := hm
  rcases h.row.2 with ⟨rfl, -⟩ | ⟨g, cap, cur, rfl, -, hg, -⟩
  · cases hk
  · cases hk
    rw [show g = b from e, hb] at hg
    cases hg

theorem applyF_take {m : List KV} {l : List PV} {k : Nat} {p : PV} (h : l[k]? = some p) : applyF m (l.take (k + 1)) = doneF (applyF m (l.take k)) p := by
  rw [List.take_add_one, h, Option.toList_some, applyF_append]
  rfl

set_option maxHeartbeats 1000000 in
theorem apply_any (w : World) {b B : Nat} {v : Value} {m : List KV} {l : List PV} (h : MapAt w b m) (hp : Puts w B v l) (hk : ∀ p ∈ l, p.key.length ≤ maxLen) (hln : l.length ≤ 1000000000) :
    Calls Tryz.prog 61 #[.map (some b), v] w fun e w' => e = .returned (.tuple #[]) ∧ MapAt w' b (applyF m l) ∧ Chg (· = b) w w' := by
  have hne := puts_ne hp h
  obtain ⟨oa, cap, rfl, -⟩ := hp.slice
  rw [List.length_map] at *
  have HP := Lib.hid hp
  have HM := Lib.hid h
  have HK := Lib.hid hk
  have HNe := Lib.hid hne
  clear h hp hk hne
  go_enter Tryz.func61, Tryz.ntmps61
  go_wp2_with fail
  go_loopw [8] (fun j wr => ∃ k : Nat, j = .int .i64 k ∧ k ≤ l.length ∧ MapAt wr b (applyF m (l.take k)) ∧ Chg (· = b) w wr) (fun j _ => l.length - (intOf j).toNat)
  · exact ⟨0, rfl, Nat.zero_le _, HM.out, Chg.refl _ _⟩
  obtain ⟨k, rfl, hk, hm, hc⟩ := hrel
  have HC := Lib.hid hc
  have HMk := Lib.hid hm
  clear hc hm
  by_cases hlt : k < l.length
  · have hki : (k : Int) < (l.length : Int) := by omega
    obtain ⟨g', cap', p, e1, hr, d0, d1, d2⟩ := put_cells (HP.out.kept HC.out HNe.out) hlt
    simp only [Value.slice.injEq] at e1
    obtain ⟨rfl, -, -⟩ := e1
    have Hr := Lib.hid hr
    have HKp := Lib.hid (HK.out p (List.mem_of_getElem? hr))
    clear hr
    unfold strV at d0 d1
    have hca : Chg (fun _ => False) wr (wr.alloc (.cells #[.string ⟨p.key.toArray⟩, .string ⟨p.val.toArray⟩, .bool p.gone] 103)) := (Chg.refl _ _).alloc _
    have HMa := Lib.hid (HMk.out.kept hca id)
    have HCa := Lib.hid (HC.out.trans (hca.mono (S' := (· = b)) (fun _ _ h => h.elim)) (fun _ _ h => h))
    clear hca
    cases hg : p.gone
    · have Hg := Lib.hid hg
      rw [hg] at d2 HMa HCa
      clear hg
      go_wp2_with (first
        | (at_mapUpdate; refine wpList_put HMa.out rfl _ _ _ _ rfl _ Tryz.underlying116 rfl p.key rfl HKp.out p.val rfl ?_; intro w1 hm1 hc1; have HM1 := Lib.hid hm1; have HC1 := Lib.hid hc1; clear hm1 hc1))
      refine ⟨⟨k + 1, by go_num, hlt, ?_, HCa.out.trans HC1.out (fun _ _ h => h)⟩, puts_meas hlt⟩
      rw [applyF_take Hr.out]
      unfold doneF
      rw [Hg.out, if_neg (by simp)]
      exact HM1.out
    · have Hg := Lib.hid hg
      rw [hg] at d2 HMa HCa
      clear hg
      obtain ⟨ob, hdel, hm1⟩ := HMa.out.del Tryz.underlying116 p.key HKp.out 0
      have hc1 : Chg (· = b) (wr.alloc (.cells #[.string ⟨p.key.toArray⟩, .string ⟨p.val.toArray⟩, .bool true] 103)) (setBlock (wr.alloc (.cells #[.string ⟨p.key.toArray⟩, .string ⟨p.val.toArray⟩, .bool true] 103)) b ob) := Chg.setBlock (S := (· = b)) (Chg.refl _ _) (fun _ => rfl) _
      obtain ⟨w1, hw1⟩ : ∃ w1, setBlock (wr.alloc (.cells #[.string ⟨p.key.toArray⟩, .string ⟨p.val.toArray⟩, .bool true] 103)) b ob = w1 := ⟨_, rfl⟩
      rw [hw1] at hdel hm1 hc1
      have HM1 := Lib.hid hm1
      have HC1 := Lib.hid hc1
      have hdel2 : (Builtin.delete_ #[116, 9] 0 #[.map (some b), .string ⟨p.key.toArray⟩]).run Tryz.prog (wr.alloc (.cells #[.string ⟨p.key.toArray⟩, .string ⟨p.val.toArray⟩, .bool true] 103)) = .ok (.tuple #[]) w1 := hdel
      clear hm1 hc1 hdel hw1
      go_wp2_with fail
      refine ⟨⟨k + 1, by go_num, hlt, ?_, HCa.out.trans HC1.out (fun _ _ h => h)⟩, puts_meas hlt⟩
      rw [applyF_take Hr.out]
      unfold doneF
      rw [Hg.out, if_pos rfl]
      exact HM1.out
  · have hki : ¬ (k : Int) < (l.length : Int) := by omega
    obtain rfl : k = l.length := by omega
    go_wp2_with fail
    go_end0
    have := HMk.out
    rw [List.take_length] at this
    exact ⟨rfl, this, HC.out⟩

theorem sorted_is {m ds : List KV} (hn : NoDup m) (hp : ds.Perm m) {ws : List PV} (h1 : ws.Perm (ds.reverse.map ofKV)) (h2 : ws.Pairwise (fun a b => ltB b.key a.key = false)) : ws = (sortF m).map ofKV := by
  have hof : ∀ p ∈ ws, ofKV (p.key, p.val) = p := by
    intro p hpw
    obtain ⟨q, -, rfl⟩ := List.mem_map.1 (h1.mem_iff.1 hpw)
    rfl
  have e1 : (ws.map (fun p => (p.key, p.val))).map ofKV = ws := by
    rw [List.map_map]
    conv => rhs; rw [← List.map_id ws]
    exact List.map_congr_left (fun p hp => hof p hp)
  have hpm : (ws.map (fun p => (p.key, p.val))).Perm m := by
    have h3 := h1.map (fun p : PV => (p.key, p.val))
    rw [List.map_map] at h3
    have e2 : ds.reverse.map ((fun p : PV => (p.key, p.val)) ∘ ofKV) = ds.reverse := by
      conv => rhs; rw [← List.map_id ds.reverse]
      exact List.map_congr_left (fun p _ => rfl)
    rw [e2] at h3
    exact h3.trans ((List.reverse_perm ds).trans hp)
  have hnd : NoDup (ws.map (fun p => (p.key, p.val))) := (hpm.symm.map Prod.fst).nodup_iff.1 hn
  have hasc : Asc (ws.map (fun p => (p.key, p.val))) := by
    unfold Asc
    rw [List.pairwise_map]
    have h4 : ws.Pairwise (fun a b => a.key ≠ b.key) := by
      unfold NoDup at hnd
      rw [List.map_map, List.Nodup, List.pairwise_map] at hnd
      exact hnd
    refine (h2.and h4).imp ?_
    rintro a b ⟨h5, h6⟩
    rcases ltB_tri a.key b.key with h | h | h
    · exact h
    · exact absurd h h6
    · rw [h5] at h; cases h
  rw [← e1, asc_unique hasc (sortF_asc hn) (hpm.trans (sortF_perm m).symm)]

/-- An append of a change, with what it may turn said sharply. -/
theorem append_putO {B : Nat} {v : Value} {l : List PV} {p : PV} {nb : Nat} (h : Puts w B v l) (hnb : ∀ (j : Nat) u, p.row[j]? = some u → w.cell? ⟨nb, j, none⟩ = some u) (hB : B ≤ w.heap.size) (hl : l.length ≤ 1000000) (ty : TypeId) :
    ∃ v' w', (Builtin.append_ #[66, 66] ty #[v, .slice (some ⟨nb, 0, none⟩) 1 1]).run Tryz.prog w = .ok v' w' ∧ Puts w' B v' (l ++ [p]) ∧ Chg (fun k => some k = v.ownBlock) w w' := by
  obtain ⟨i, hi, hz, hsz, hby⟩ := info_parts info_put
  have hadd : ∀ (j : Nat) u, p.row[j]? = some u → w.cell? ((⟨nb, 0, none⟩ : Addr).add j) = some u := by
    intro j u hu
    have : (⟨nb, 0, none⟩ : Addr).add j = ⟨nb, j, none⟩ := by unfold Addr.add; split <;> simp_all
    rw [this]; exact hnb j u hu
  obtain ⟨v', w', h1, h2, h3, -⟩ := run_append_own (P := Tryz.prog) w B 66 ty 103 i _ 3 40 Tryz.underlying66 hi hz hsz hby rfl (by decide) v _ _ h.row ⟨nb, 0, none⟩ 1 1 p.row rfl hadd (row_oneCell p) (by rw [List.length_map]; unfold maxLen; omega) (by rw [List.length_map]; omega) hB
  refine ⟨v', w', h1, ?_, Chg.of_grown h3⟩
  show OwnRecs w' B _ 3 v' ((l ++ [p]).map PV.row)
  rw [List.map_append]
  exact OwnRecs.append (m := [p.row]) (by simpa using h2) h.each (by simp [PV.row])

set_option maxHeartbeats 2000000 in
theorem sorted_any (w : World) {b : Nat} {m : List KV} (h : MapAt w b m) (hn : m.length ≤ 1000000) :
    Calls Tryz.prog 69 #[.map (some b)] w fun e w' => ∃ v, e = .returned v ∧ Puts w' w.heap.size v ((sortF m).map ofKV) ∧ Chg (fun _ => False) w w' := by
  have H := Lib.hid h
  clear h
  go_enter Tryz.func69, Tryz.ntmps69
  go_wp2_with (first
    | (at_range; refine wpList_rangeM H.out rfl _ 116 9 rfl Tryz.underlying116 rfl ?_; intro w2 cnt hr2 hc2 hs2))
  go_frame
  go_loopw [3] (fun u wr => ∃ (ds : List KV) (cnt : Nat), RngIs sKey strV wr b w.heap.size m (ds.map (·.1)) cnt ∧ Puts wr w.heap.size u (ds.reverse.map ofKV) ∧ Chg (fun _ => False) w wr ∧ (ds.map (·.1)).Nodup ∧ (∀ p ∈ ds, p ∈ m)) (fun _ wr => wr.rangeLeft b w.heap.size)
  · exact ⟨[], cnt, hr2, OwnRecs.nil _ _ _ _, hc2, List.nodup_nil, by simp⟩
  clear hr2 hc2 hs2
  obtain ⟨ds, cnt, hr, ho, hc, hnd, hin⟩ := hrel
  have HR := Lib.hid hr
  have HO := Lib.hid ho
  have HC := Lib.hid hc
  have HN := Lib.hid hnd
  have HIn := Lib.hid hin
  have hds : ds.Nodup := List.Pairwise.of_map _ (fun a b h e => h (by rw [e])) hnd
  have hlen : ds.length ≤ 1000000 := Nat.le_trans (hds.length_le_of_subset hin) hn
  have HDs := Lib.hid hds
  have HLen := Lib.hid hlen
  clear hr ho hc hnd hin hds hlen
  rcases HR.out.next 0 with ⟨hall, hrun⟩ | ⟨k, v, w', cnt', hm, hnn, hrun, hr', hlt, hcr, hsz, hen⟩
  · have hpm : ds.Perm m := by
      have hmn : m.Nodup := List.Pairwise.of_map _ (fun a b h e => h (by rw [e])) H.out.nodup
      rw [List.perm_ext_iff_of_nodup HDs.out hmn]
      intro p
      refine ⟨HIn.out p, fun hp => ?_⟩
      obtain ⟨q, hq, he⟩ := List.mem_map.1 (hall p hp)
      have h1 := mem_mget (show NoDup m from H.out.nodup) (HIn.out q hq)
      have h2 := mem_mget (show NoDup m from H.out.nodup) hp
      rw [he, h2] at h1
      have : q = p := Prod.ext he (by simpa using h1.symm)
      rw [← this]; exact hq
    have HPm := Lib.hid hpm
    clear hpm hall
    go_wp2_with (first
      | (go_at_call 129; refine (psort_any _ HO.out (by rw [List.length_map, List.length_reverse]; have := HLen.out; omega)).mono ?_; rintro e w' ⟨rfl, ws', hp', hs', ho', hc'⟩))
    go_ret
    rw [← sorted_is H.out.nodup HPm.out hp' hs']
    exact ⟨_, rfl, ho', HC.out.new hc' (fun i e => (HO.out.lt e.symm).1)⟩
  · have hen' : (Instr.entry (.pointer (some ⟨w.heap.size, 0, none⟩))).run Tryz.prog w' = .ok (.tuple #[.string ⟨k.toArray⟩, .string ⟨v.toArray⟩]) w' := hen
    have hrun' : (Instr.next (.pointer (some ⟨w.heap.size, 0, none⟩)) false 0).run Tryz.prog wr = .ok (.tuple #[.bool true, .string ⟨k.toArray⟩, .string ⟨v.toArray⟩]) w' := hrun
    have hca := (Chg.refl (fun _ => False) w').alloc (.cells #[.string ⟨k.toArray⟩, .string ⟨v.toArray⟩, .bool false] 103)
    have hnr : ∀ j, (_ : Value).ownBlock = some j → ¬ j = w.heap.size := fun j hj e => by
      obtain ⟨_, _, _, _, _, _, _, _, _, h5, _⟩ := HR.out
      obtain ⟨cur, hg⟩ := own_obj HO.out hj
      rw [e, h5] at hg
      cases hg
    have hnb := puts_ne HO.out HR.out.map
    have hou := HO.out.kept hcr hnr
    have hz : w.heap.size ≤ w'.heap.size := Nat.le_trans HC.out.size hcr.size
    obtain ⟨v8, w8, hr8, hp8, hg8⟩ := append_putO (p := ofKV (k, v)) (nb := w'.heap.size) (hou.kept hca (fun _ _ h => h)) (fun j u hu => cell_of_block (block_alloc_new _ _) (by simpa [ofKV, PV.row, strV] using hu)) (Nat.le_trans hz hca.size) (by rw [List.length_map, List.length_reverse]; exact HLen.out) 66
    have hrn := (hr'.kept hca id id).kept hg8 (fun e => hnb _ e.symm rfl) (fun e => hnr _ e.symm rfl)
    have hcn : Chg (fun _ => False) w w8 := ((HC.out.new hcr (fun i e => Nat.le_of_eq e.symm)).trans' hca).new hg8 (fun i e => (HO.out.lt e.symm).1)
    have HR8 := Lib.hid hr8
    have HP8 := Lib.hid hp8
    have HRn := Lib.hid hrn
    have HCn := Lib.hid hcn
    have HM := Lib.hid hm
    have HNn := Lib.hid hnn
    have HLt := Lib.hid hlt
    clear hsz hen hrun hr' hcr hca hnr hnb hou hz hr8 hp8 hg8 hrn hcn hm hnn hlt
    go_wp2_with (first
      | (at_builtin; refine Lib.wpList_append_run _ rfl _ _ _ _ rfl _ _ rfl rfl _ _ HR8.out ?_))
    refine ⟨⟨(k, v) :: ds, cnt', HRn.out, by rw [List.reverse_cons, List.map_append]; exact HP8.out, HCn.out, List.nodup_cons.2 ⟨HNn.out, HN.out⟩, fun p hp => ?_⟩, ?_⟩
    · rcases List.mem_cons.1 hp with rfl | hp
      · exact HM.out
      · exact HIn.out p hp
    · rw [HRn.out.left_eq, HR.out.left_eq]
      exact HLt.out

end Go.Proofs.YtbjagmlbamjdbaaGreat.kvs
end
