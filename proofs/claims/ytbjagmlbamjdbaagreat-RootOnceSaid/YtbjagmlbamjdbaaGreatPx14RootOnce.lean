/- . -/
import Derived.Test.YtbjagmlbamjdbaaGreatPx13RootOnce
import Derived.Deep.RegionHeld3
import Derived.Laws.EntriesVeiled

set_option linter.unusedSimpArgs false
set_option linter.unusedVariables false
section
namespace Go.Proofs.YtbjagmlbamjdbaaGreat.kvs
open Go.RowKit Go.My disks bufs wals
set_option maxRecDepth 100000

variable {w w' : World}

theorem allB_take {l : List PV} {k : Nat} {p : PV} (h : l[k]? = some p) : allB (l.take (k + 1)) = allB (l.take k) ++ p.bytes := by
  rw [List.take_add_one, h, Option.toList_some, allB_append, allB_one]
theorem allB_len (l : List PV) (h : ∀ p ∈ l, p.may = true) : (allB l).length ≤ 1111 * l.length := by
  induction l with
  | nil => simp [allB]
  | cons p l ih =>
    have h1 := bytes_length p (h p (by simp))
    have h2 := ih (fun q hq => h q (by simp [hq]))
    have h3 : allB (p :: l) = p.bytes ++ allB l := by simp [allB]
    rw [h3, List.length_append, List.length_cons]
    omega

theorem bld_kept {B b : Nat} {p : Value} {bs : List Value} {S : Nat → Prop} (h : Lib.BuilderAt 198 5 B b p bs w) (hc : Chg S w w') (hS : ∀ k, S k → k < w.heap.size → False) : Lib.BuilderAt 198 5 B b p bs w' := by
  have hc' : Chg (fun _ => False) w w' := hc.mono (fun k hk hs => hS k hs hk)
  obtain ⟨hB, v, hb, ho, hne⟩ := h
  exact ⟨hB, v, hc'.at hb id, own_kept ho hc', hne⟩
theorem used_kept {B b : Nat} {bs : Txt} (h : UsedB B b bs w) (hc : Chg (fun _ => False) w w') : UsedB B b bs w' := bld_kept h hc (fun _ h _ => h)
theorem isB_new (w : World) : IsB w.heap.size w.heap.size [] (w.alloc (.cells #[.pointer none, .slice none 0 0] 198)) :=
  Or.inl ⟨Nat.le_refl _, _, block_alloc_new _ _, World.ownsRow_nil _ _ _ _, by simp [Value.ownBlock]⟩
theorem isB_kept {B b : Nat} {bs : Txt} (h : IsB B b bs w) (hc : Chg (fun _ => False) w w') : IsB B b bs w' :=
  h.imp (fun h => bld_kept h hc (fun _ h _ => h)) (fun h => bld_kept h hc (fun _ h _ => h))

set_option maxHeartbeats 2000000 in
theorem encode_any (w : World) {B : Nat} {v : Value} {l : List PV} (h : Puts w B v l) (hl : l.length ≤ 1000000) :
    Calls Tryz.prog 66 #[v] w fun e w' => e = .returned (.tuple #[strV (encF l).1, .int .i64 ((encF l).2 : Int)]) ∧ Chg (fun _ => False) w w' := by
  have HF := Lib.hid (contains_any w h hl)
  obtain ⟨oa, cap, rfl, -⟩ := h.slice
  rw [List.length_map] at h HF ⊢
  have H := Lib.hid h
  clear h
  obtain ⟨R, hR⟩ : ∃ R, encF l = R := ⟨_, rfl⟩
  rw [hR]
  have HR := Lib.hid hR
  clear hR
  by_cases h0 : l.length = 0
  · have h0i : (l.length : Int) = 0 := by omega
    have hR : R = ([], 2) := by rw [← HR.out]; unfold encF; rw [if_pos (Or.inl (List.eq_nil_of_length_eq_zero h0))]
    subst hR
    clear HR
    go_enter Tryz.func66, Tryz.ntmps66
    go_wp2_with fail
    go_ret2
    exact ⟨rfl, Chg.refl _ _⟩
  · have h0i : ¬ (l.length : Int) = 0 := by omega
    by_cases hb : ∃ p ∈ l, p.may = false
    · have hR : R = ([], 2) := by rw [← HR.out]; unfold encF; rw [if_pos (Or.inr hb)]
      subst hR
      rw [decide_eq_true hb] at HF
      clear HR hb
      go_enter Tryz.func66, Tryz.ntmps66
      go_wp2_with (first
        | (go_at_call 117; refine HF.out.mono ?_; rintro e w1 ⟨rfl, hc1⟩; have HC1 := Lib.hid hc1; clear hc1))
      go_ret2
      exact ⟨rfl, HC1.out⟩
    · rw [decide_eq_false hb] at HF
      have hmay : ∀ p ∈ l, p.may = true := fun p hp => by
        cases hm : p.may with
        | true => rfl
        | false => exact absurd ⟨p, hp, hm⟩ hb
      have HMay := Lib.hid hmay
      have hne : ¬ (l = [] ∨ ∃ p ∈ l, p.may = false) := by
        rintro (e | e)
        · rw [e] at h0; exact h0 rfl
        · exact hb e
      have HNe := Lib.hid hne
      clear hb hmay hne
      by_cases h64 : 64 < l.length
      · have h64i : (64 : Int) < (l.length : Int) := by omega
        have hR : R = ([], 3) := by rw [← HR.out]; unfold encF; rw [if_neg HNe.out, if_pos h64]
        subst hR
        clear HR
        go_enter Tryz.func66, Tryz.ntmps66
        go_wp2_with (first
          | (go_at_call 117; refine HF.out.mono ?_; rintro e w1 ⟨rfl, hc1⟩; have HC1 := Lib.hid hc1; clear hc1))
        go_ret2
        exact ⟨rfl, HC1.out⟩
      · have h64i : ¬ (64 : Int) < (l.length : Int) := by omega
        go_enter Tryz.func66, Tryz.ntmps66
        go_wp2_with (first
          | (go_at_call 117; refine HF.out.mono ?_; rintro e w1 ⟨rfl, hc1⟩; have HC1 := Lib.hid hc1; clear hc1))
        have hvar := var_any (w1.alloc (.cells #[.pointer none, .slice none 0 0] 198)) l.length (by omega)
        have HVar := Lib.hid hvar
        have HB1 := Lib.hid (isB_new w1)
        have HC1a := Lib.hid (HC1.out.alloc (.cells #[.pointer none, .slice none 0 0] 198))
        have HB0 := Lib.hid (show w.heap.size ≤ w1.heap.size from HC1.out.size)
        have HL1 := Lib.hid (show w1.heap.size < (w1.alloc (.cells #[.pointer none, .slice none 0 0] 198)).heap.size by rw [World.size_alloc]; omega)
        clear hvar
        go_wp2_with (first
          | (go_at_call 121; refine HVar.out.mono ?_; rintro e w2 ⟨v2, rfl, ho2, hc2⟩
             have HO2 := Lib.hid ho2
             have HC2 := Lib.hid hc2
             clear ho2 hc2)
          | (go_at_call 120; refine (write_any _ (isB_kept HB1.out HC2.out) (Nat.le_trans (Nat.le_of_lt HL1.out) HC2.out.size) _ (varB l.length) (SlAt.of_own HO2.out) (fun g hg => Nat.ne_of_gt (Nat.lt_of_lt_of_le HL1.out (HO2.out.lt g hg).1)) (by have := (varB_length l.length).1; simp only [List.length_nil]; omega)).mono ?_
             rintro e w3 ⟨⟨v3, rfl⟩, hb3, hc3⟩
             have HB3 := Lib.hid hb3
             have HC3 := Lib.hid (show Chg (fun _ => False) w w3 from (HC1a.out.trans' HC2.out).new hc3 (fun i hi => Nat.le_trans HB0.out hi))
             clear hb3 hc3))
        rw [List.nil_append] at HB3
        go_loopw [24] (fun j wr => ∃ k : Nat, j = .int .i64 k ∧ k ≤ l.length ∧ UsedB w1.heap.size w1.heap.size (varB l.length ++ allB (l.take k)) wr ∧ Chg (fun _ => False) w wr ∧ w1.heap.size ≤ wr.heap.size) (fun j _ => l.length - (intOf j).toNat)
        · exact ⟨0, rfl, Nat.zero_le _, by rw [List.take_zero]; simpa [allB] using HB3.out, HC3.out, by have := lt_of_block HB3.out.2.choose_spec.1; omega⟩
        obtain ⟨k, rfl, hk, hbk, hc, hsz⟩ := hrel
        have HC := Lib.hid hc
        have HBk := Lib.hid hbk
        have HSz := Lib.hid hsz
        clear hc hbk hsz
        have hlen : (varB l.length ++ allB (l.take k)).length ≤ 10 + 1111 * 64 := by
          have h1 := (varB_length l.length).1
          have h2 := allB_len (l.take k) (fun p hp => HMay.out p (List.mem_of_mem_take hp))
          have h3 : (l.take k).length ≤ 64 := by rw [List.length_take]; omega
          rw [List.length_append]
          omega
        by_cases hlt : k < l.length
        · have hki : (k : Int) < (l.length : Int) := by omega
          obtain ⟨g', cap', p, e1, hr, d0, d1, d2⟩ := put_cells (H.out.kept HC.out (fun _ _ h => h)) hlt
          simp only [Value.slice.injEq] at e1
          obtain ⟨rfl, -, -⟩ := e1
          have Hr := Lib.hid hr
          have hpm := HMay.out p (List.mem_of_getElem? hr)
          have hpb := bytes_length p hpm
          obtain ⟨m1, m2, m3, m4⟩ := may_key hpm
          have HCh := Lib.hid (fun w => change_any w p (by omega) (by omega))
          have HLen := Lib.hid (show (varB l.length ++ allB (l.take k)).length + p.bytes.length ≤ 1000000 by omega)
          clear hr hpm hpb m1 m2 m3 m4 hlen
          unfold PV.row at HCh
          obtain ⟨sk, hsk⟩ : ∃ s : ByteArray, strV p.key = .string s := ⟨_, rfl⟩
          obtain ⟨sv, hsv⟩ : ∃ s : ByteArray, strV p.val = .string s := ⟨_, rfl⟩
          rw [hsk, hsv] at HCh
          rw [hsk] at d0
          rw [hsv] at d1
          clear hsk hsv
          have hca : Chg (fun _ => False) wr (wr.alloc (.cells #[.string sk, .string sv, .bool p.gone] 103)) := (Chg.refl _ _).alloc _
          have HCa := Lib.hid hca
          clear hca
          go_wp2_with (first
            | (go_at_call 123; refine (HCh.out _).mono ?_; rintro e w4 ⟨rfl, hc4⟩; have HC4 := Lib.hid (HCa.out.trans' hc4); clear hc4)
            | (go_at_call 122; refine (writeString_any _ (Or.inr (used_kept HBk.out HC4.out)) (Nat.le_trans HSz.out HC4.out.size) p.bytes HLen.out).mono ?_
               rintro e w5 ⟨⟨v5, rfl⟩, hb5, hc5⟩
               have HB5 := Lib.hid hb5
               have HC5 := Lib.hid (show Chg (fun _ => False) w w5 from (HC.out.trans' HC4.out).new hc5 (fun i hi => Nat.le_trans HB0.out hi))
               have HS5 := Lib.hid (Nat.le_trans HSz.out (Nat.le_trans HC4.out.size hc5.size))
               clear hb5 hc5))
          exact ⟨⟨k + 1, by go_num, hlt, by rw [allB_take Hr.out, ← List.append_assoc]; exact HB5.out, HC5.out, HS5.out⟩, puts_meas hlt⟩
        · have hki : ¬ (k : Int) < (l.length : Int) := by omega
          obtain rfl : k = l.length := by omega
          rw [List.take_length] at HBk hlen
          obtain ⟨N, hN⟩ : ∃ N, (varB l.length ++ allB l).length = N := ⟨_, rfl⟩
          have HLn := Lib.hid (blen_any _ HBk.out)
          rw [hN] at HLn hlen
          by_cases hbig : 4096 < N
          · have hbi : (4096 : Int) < (N : Int) := by omega
            have hR : R = ([], 3) := by rw [← HR.out]; unfold encF; rw [if_neg HNe.out, if_neg h64, if_pos (by rw [hN]; exact hbig)]
            subst hR
            clear HR hN
            go_wp2_with (first
              | (go_at_call 124; refine HLn.out.mono ?_; rintro e w6 ⟨rfl, rfl⟩))
            go_ret2
            exact ⟨rfl, HC.out⟩
          · have hbi : ¬ (4096 : Int) < (N : Int) := by omega
            have hR : R = (varB l.length ++ allB l, 0) := by rw [← HR.out]; unfold encF; rw [if_neg HNe.out, if_neg h64, if_neg (by rw [hN]; exact hbig)]
            subst hR
            clear HR hN
            have hnn : varB l.length ++ allB l ≠ [] := fun e => by have h1 := (varB_length l.length).2; have h2 := congrArg List.length e; rw [List.length_append] at h2; simp only [List.length_nil] at h2; omega
            have HStr := Lib.hid (string_any _ HBk.out hnn)
            clear hnn
            go_wp2_with (first
              | (go_at_call 124; refine HLn.out.mono ?_; rintro e w6 ⟨rfl, rfl⟩)
              | (go_at_call 125; refine HStr.out.mono ?_; rintro e w6 ⟨rfl, hc6⟩
                 have HC6 := Lib.hid (show Chg (fun _ => False) w w6 from HC.out.new hc6 (fun i hi => Nat.le_trans HB0.out hi))
                 clear hc6))
            go_ret2
            exact ⟨rfl, HC6.out⟩

end Go.Proofs.YtbjagmlbamjdbaaGreat.kvs
end

section
namespace Go.Proofs.YtbjagmlbamjdbaaGreat.kvs
open Go.RowKit Go.My disks bufs wals
set_option maxRecDepth 100000

variable {w w' : World}

structure RdAt (w : World) (L G : Nat) (r : Rd) : Prop where
  left : w.heap[L]? = some (.cells #[strV r.left] 9 (0, 0))
  good : w.heap[G]? = some (.cells #[.bool r.good] 4 (0, 0))
  ne : L ≠ G
theorem RdAt.kept {L G : Nat} {r : Rd} {S : Nat → Prop} (h : RdAt w L G r) (hc : Chg S w w') (h1 : ¬ S L) (h2 : ¬ S G) : RdAt w' L G r := ⟨hc.at h.left h1, hc.at h.good h2, h.ne⟩
theorem RdAt.setG {L G : Nat} {r : Rd} (h : RdAt w L G r) (b : Bool) : RdAt (w.setCell ⟨G, 0, none⟩ (.bool b)) L G ⟨r.left, b⟩ :=
  ⟨by rw [heap_setCell_get _ _ _ _ h.ne]; exact h.left, by rw [block_setCell h.good]; rfl, h.ne⟩
theorem RdAt.setL {L G : Nat} {r : Rd} (h : RdAt w L G r) (t : Txt) : RdAt (w.setCell ⟨L, 0, none⟩ (strV t)) L G ⟨t, r.good⟩ :=
  ⟨by rw [block_setCell h.left]; rfl, by rw [heap_setCell_get _ _ _ _ h.ne.symm]; exact h.good, h.ne⟩

theorem str_drop (r : Txt) (n : Nat) : (⟨r.toArray⟩ : ByteArray).extract n r.length = ⟨(r.drop n).toArray⟩ := by
  apply ByteArray.ext
  apply Array.ext'
  simp
  exact List.take_of_length_le (by simp)

set_option maxHeartbeats 1000000 in
theorem take_any {L G : Nat} {r : Rd} (w : World) (h : RdAt w L G r) (n : Nat) (hn : n < 18446744073709551616) (hl : r.left.length ≤ 9223372036854775807) :
    Calls Tryz.prog 108 #[.int .u64 (n : Int), .pointer (some ⟨G, 0, none⟩), .pointer (some ⟨L, 0, none⟩)] w fun e w' => e = .returned (strV (r.take n).1) ∧ RdAt w' L G (r.take n).2 ∧ Chg (fun k => k = L ∨ k = G) w w' := by
  have H := Lib.hid h
  obtain ⟨left, good⟩ := r
  simp only at hl
  obtain ⟨s, hs⟩ : ∃ s : ByteArray, strV left = .string s := ⟨_, rfl⟩
  have hsz := str_size left s hs
  have hst := strV_string left s hs
  have HSt := Lib.hid hst
  have HS := Lib.hid hs
  have c1 : w.cell? ⟨L, 0, none⟩ = some (.string s) := by rw [← hs]; exact cell_of_block h.left rfl
  have c2 : w.cell? ⟨G, 0, none⟩ = some (.bool good) := cell_of_block h.good rfl
  have z1 : w.frozen? ⟨L, 0, none⟩ = false := free_of_block h.left
  have z2 : w.frozen? ⟨G, 0, none⟩ = false := free_of_block h.good
  have n1 : ¬ L = G := h.ne
  have n2 : ¬ G = L := fun e => h.ne e.symm
  have i0 : (0 : Int) ≤ (n : Int) := by omega
  have i1 : (s.size : Int) ≤ 9223372036854775807 := by omega
  have hcG : ∀ b, Chg (fun k => k = L ∨ k = G) w (w.setCell ⟨G, 0, none⟩ (.bool b)) := fun b => Chg.setCell (S := fun k => k = L ∨ k = G) (Chg.refl _ _) (fun _ => Or.inr rfl) _
  have HCG := Lib.hid hcG
  clear h hs hst hcG
  cases good
  · clear hsz
    go_enter Tryz.func108, Tryz.ntmps108
    go_wp2_with fail
    go_ret
    unfold Rd.take
    rw [if_neg (by simp)]
    exact ⟨rfl, H.out.setG false, HCG.out _⟩
  · by_cases hle : n ≤ left.length
    · have hli : (n : Int) ≤ (s.size : Int) := by omega
      have HLe := Lib.hid hle
      have HSz := Lib.hid hsz
      clear hsz hle
      go_enter Tryz.func108, Tryz.ntmps108
      go_wp2_with fail
      go_ret
      unfold Rd.take
      rw [if_pos ⟨rfl, HLe.out⟩]
      have e1 : Value.string (s.extract 0 n) = strV (left.take n) := by rw [HSt.out, str_take]; rfl
      have e2 : Value.string (s.extract n s.size) = strV (left.drop n) := by rw [HSz.out, HSt.out, str_drop]; rfl
      rw [e2]
      exact ⟨congrArg Ending.returned e1, (H.out.setG true).setL (left.drop n), Chg.setCell (S := fun k => k = L ∨ k = G) (HCG.out true) (fun _ => Or.inl rfl) _⟩
    · have hli : ¬ (n : Int) ≤ (s.size : Int) := by omega
      have HLe := Lib.hid hle
      have HSz := Lib.hid hsz
      clear hsz hle
      go_enter Tryz.func108, Tryz.ntmps108
      go_wp2_with fail
      go_ret
      unfold Rd.take
      rw [if_neg (fun hh => HLe.out hh.2)]
      exact ⟨rfl, H.out.setG false, HCG.out _⟩

def takeV (L G : Nat) : Value := .func (.func 108) #[] #[.pointer (some ⟨G, 0, none⟩), .pointer (some ⟨L, 0, none⟩)]

set_option maxHeartbeats 1000000 in
theorem num_any {L G T : Nat} {r : Rd} (w : World) (h : RdAt w L G r) (hT : w.cell? ⟨T, 0, none⟩ = some (takeV L G)) (hTL : T ≠ L) (hTG : T ≠ G) (hl : r.left.length ≤ 9223372036854775807) :
    Calls Tryz.prog 109 #[.pointer (some ⟨L, 0, none⟩), .pointer (some ⟨G, 0, none⟩), .pointer (some ⟨T, 0, none⟩)] w fun e w' => e = .returned (.int .u64 (r.num.1 : Int)) ∧ RdAt w' L G r.num.2 ∧ Chg (fun k => k = L ∨ k = G) w w' := by
  have H := Lib.hid h
  obtain ⟨left, good⟩ := r
  simp only at hl
  obtain ⟨s, hs⟩ : ∃ s : ByteArray, strV left = .string s := ⟨_, rfl⟩
  have hsz := str_size left s hs
  have hst := strV_string left s hs
  have c1 : w.cell? ⟨L, 0, none⟩ = some (.string s) := by rw [← hs]; exact cell_of_block h.left rfl
  have c2 : w.cell? ⟨G, 0, none⟩ = some (.bool good) := cell_of_block h.good rfl
  have z2 : w.frozen? ⟨G, 0, none⟩ = false := free_of_block h.good
  have n1 : ¬ L = G := h.ne
  have i1 : (s.size : Int) ≤ 9223372036854775807 := by omega
  obtain ⟨m, hm⟩ : ∃ m, min left.length 10 = m := ⟨_, rfl⟩
  have hm2 : (min (s.size : Int) 10).toNat = m := by omega
  obtain ⟨s10, hs10⟩ : ∃ x, s.extract 0 m = x := ⟨_, rfl⟩
  obtain ⟨v1, w1, hcv, hsl, hc1, -⟩ := string_bytes w s10
  have hd : s10.data.toList = left.take m := by rw [← hs10, hst, str_take]
  have ht : left.take m = left.take 10 := by
    rw [← hm]
    rcases Nat.le_total left.length 10 with h | h
    · rw [Nat.min_eq_left h, List.take_length, List.take_of_length_le h]
    · rw [Nat.min_eq_right h]
  rw [hd] at hsl
  have hrv := readVar_any w1 v1 (left.take m) hsl (by rw [ht, List.length_take]; omega)
  rw [ht, rdV_take10] at hrv
  have hE3 := (rdN_length 10 0 0 left).2.2.2
  have hN10 := (rdN_length 10 0 0 left).2.1
  rcases hRe : rdV left with ⟨V, N, E⟩
  rw [hRe] at hrv
  simp only at hrv
  rw [show rdN 10 0 0 left = rdV left from rfl, hRe] at hN10 hE3
  simp only at hN10 hE3
  have hnum : ∀ g, Rd.num ⟨left, g⟩ = (V, (Rd.take ⟨left, g && decide (E = 0)⟩ N).2) := fun g => by unfold Rd.num; simp only; rw [hRe]
  rw [hnum]
  have i2 : (N : Int) ≤ 10 := by omega
  have i3 : (0 : Int) ≤ (N : Int) := by omega
  have HRV := Lib.hid hrv
  have HC1 := Lib.hid hc1
  have hTk : ∀ w b, Chg (fun _ => False) w1 w → Calls Tryz.prog 108 #[.int .u64 (N : Int), .pointer (some ⟨G, 0, none⟩), .pointer (some ⟨L, 0, none⟩)] (w.setCell ⟨G, 0, none⟩ (.bool b)) fun e w' => e = .returned (strV (Rd.take ⟨left, b⟩ N).1) ∧ RdAt w' L G (Rd.take ⟨left, b⟩ N).2 ∧ Chg (fun k => k = L ∨ k = G) (w.setCell ⟨G, 0, none⟩ (.bool b)) w' := fun w b hc =>
    take_any (r := ⟨left, b⟩) _ (((H.out.kept (hc1.trans' hc) id id).setG b)) N (by omega) hl
  have HTk := Lib.hid hTk
  have hgl : ∀ w', Chg (fun _ => False) w w' → w'.cell? ⟨G, 0, none⟩ = some (.bool good) ∧ w'.frozen? ⟨G, 0, none⟩ = false ∧ w'.cell? ⟨T, 0, none⟩ = some (takeV L G) := fun w' hc => ⟨hc.cell c2 id, free_of_block (hc.at h.good id), hc.cell hT id⟩
  have HGl := Lib.hid hgl
  have HT := Lib.hid (And.intro hTL hTG)
  have n3 : ¬ T = G := hTG
  have n4 : ¬ T = L := hTL
  clear hrv hTk hgl hTL hTG hm hs hst hsz hd ht hsl hRe hnum hl hT h hE3 hN10
  by_cases hE : E = 0
  · subst hE
    cases good
    · go_enter Tryz.func109, Tryz.ntmps109
      go_wp2_with (first
        | (go_at_call 110; refine HRV.out.mono ?_; rintro e w2 ⟨rfl, hc2⟩
           obtain ⟨g1, g2, g3⟩ := HGl.out w2 (HC1.out.trans' hc2)
           have HC2 := Lib.hid hc2
           unfold takeV at g3
           clear hc2)
        | (go_at_call 108; refine (HTk.out _ false HC2.out).mono ?_; rintro e w3 ⟨rfl, hr3, hc3⟩
           have HR3 := Lib.hid hr3
           have HC3 := Lib.hid hc3
           clear hr3 hc3))
      go_ret
      refine ⟨rfl, HR3.out, ?_⟩
      exact (Chg.setCell (S := fun k => k = L ∨ k = G) ((HC1.out.trans' HC2.out).mono (fun _ _ h => h.elim)) (fun _ => Or.inr rfl) _).trans' HC3.out
    · go_enter Tryz.func109, Tryz.ntmps109
      go_wp2_with (first
        | (go_at_call 110; refine HRV.out.mono ?_; rintro e w2 ⟨rfl, hc2⟩
           obtain ⟨g1, g2, g3⟩ := HGl.out w2 (HC1.out.trans' hc2)
           have HC2 := Lib.hid hc2
           unfold takeV at g3
           clear hc2)
        | (go_at_call 108; refine (HTk.out _ true HC2.out).mono ?_; rintro e w3 ⟨rfl, hr3, hc3⟩
           have HR3 := Lib.hid hr3
           have HC3 := Lib.hid hc3
           clear hr3 hc3))
      go_ret
      refine ⟨rfl, HR3.out, ?_⟩
      exact (Chg.setCell (S := fun k => k = L ∨ k = G) ((HC1.out.trans' HC2.out).mono (fun _ _ h => h.elim)) (fun _ => Or.inr rfl) _).trans' HC3.out
  · have hEi : ¬ (E : Int) = 0 := by omega
    have hEb : ((E : Int) == 0) = false := by simp [hE]
    rw [decide_eq_false hE]
    clear hE
    cases good
    · go_enter Tryz.func109, Tryz.ntmps109
      go_wp2_with (first
        | (go_at_call 110; refine HRV.out.mono ?_; rintro e w2 ⟨rfl, hc2⟩
           obtain ⟨g1, g2, g3⟩ := HGl.out w2 (HC1.out.trans' hc2)
           have HC2 := Lib.hid hc2
           unfold takeV at g3
           clear hc2)
        | (go_at_call 108; refine (HTk.out _ false HC2.out).mono ?_; rintro e w3 ⟨rfl, hr3, hc3⟩
           have HR3 := Lib.hid hr3
           have HC3 := Lib.hid hc3
           clear hr3 hc3))
      go_ret
      refine ⟨rfl, HR3.out, ?_⟩
      exact (Chg.setCell (S := fun k => k = L ∨ k = G) ((HC1.out.trans' HC2.out).mono (fun _ _ h => h.elim)) (fun _ => Or.inr rfl) _).trans' HC3.out
    · go_enter Tryz.func109, Tryz.ntmps109
      go_wp2_with (first
        | (go_at_call 110; refine HRV.out.mono ?_; rintro e w2 ⟨rfl, hc2⟩
           obtain ⟨g1, g2, g3⟩ := HGl.out w2 (HC1.out.trans' hc2)
           have HC2 := Lib.hid hc2
           unfold takeV at g3
           clear hc2)
        | (go_at_call 108; refine (HTk.out _ false HC2.out).mono ?_; rintro e w3 ⟨rfl, hr3, hc3⟩
           have HR3 := Lib.hid hr3
           have HC3 := Lib.hid hc3
           clear hr3 hc3))
      go_ret
      refine ⟨rfl, HR3.out, ?_⟩
      exact (Chg.setCell (S := fun k => k = L ∨ k = G) ((HC1.out.trans' HC2.out).mono (fun _ _ h => h.elim)) (fun _ => Or.inr rfl) _).trans' HC3.out

end Go.Proofs.YtbjagmlbamjdbaaGreat.kvs
end

section
namespace Go.Proofs.YtbjagmlbamjdbaaGreat.kvs
open Go.RowKit Go.My disks bufs wals
set_option maxRecDepth 100000

variable {w w' : World}

theorem info_put : (Tryz.prog.info? 103).map (fun i => (i.zero, i.size, i.bytes)) = some (some (.agg #[.string ⟨#[]⟩, .string ⟨#[]⟩, .bool false]), 3, 40) := by kernel_rfl

theorem row_oneCell (p : PV) : ∀ u ∈ p.row, u.oneCell' = true := by
  intro u hu
  simp only [PV.row, List.mem_cons, List.not_mem_nil, or_false] at hu
  rcases hu with rfl | rfl | rfl <;> rfl
theorem Puts.lower {B B' : Nat} {v : Value} {l : List PV} (h : Puts w B v l) (hb : B' ≤ B) : Puts w B' v l := by
  refine ⟨?_, h.each⟩
  obtain ⟨h1, h2⟩ := h.row
  refine ⟨h1, ?_⟩
  rcases h2 with h2 | ⟨g, cap, cur, rfl, hbg, r⟩
  · exact Or.inl h2
  · exact Or.inr ⟨g, cap, cur, rfl, Nat.le_trans hb hbg, r⟩

theorem append_put {B : Nat} {v : Value} {l : List PV} {p : PV} {nb : Nat} (h : Puts w B v l) (hnb : ∀ (j : Nat) u, p.row[j]? = some u → w.cell? ⟨nb, j, none⟩ = some u) (hB : B ≤ w.heap.size) (hl : l.length ≤ 1000000) (ty : TypeId) :
    ∃ v' w', (Builtin.append_ #[66, 66] ty #[v, .slice (some ⟨nb, 0, none⟩) 1 1]).run Tryz.prog w = .ok v' w' ∧ Puts w' B v' (l ++ [p]) ∧ Chg (fun k => B ≤ k) w w' := by
  obtain ⟨i, hi, hz, hsz, hby⟩ := info_parts info_put
  have hadd : ∀ (j : Nat) u, p.row[j]? = some u → w.cell? ((⟨nb, 0, none⟩ : Addr).add j) = some u := by
    intro j u hu
    have : (⟨nb, 0, none⟩ : Addr).add j = ⟨nb, j, none⟩ := by unfold Addr.add; split <;> simp_all
    rw [this]; exact hnb j u hu
  obtain ⟨v', w', h1, h2, h3, -⟩ := run_append_own (P := Tryz.prog) w B 66 ty 103 i _ 3 40 Tryz.underlying66 hi hz hsz hby rfl (by decide) v _ _ h.row ⟨nb, 0, none⟩ 1 1 p.row rfl hadd (row_oneCell p) (by rw [List.length_map]; unfold maxLen; omega) (by rw [List.length_map]; omega) hB
  refine ⟨v', w', h1, ?_, (Chg.of_grown h3).mono (fun k _ hk => (h.lt hk.symm).1)⟩
  show OwnRecs w' B _ 3 v' ((l ++ [p]).map PV.row)
  rw [List.map_append]
  exact OwnRecs.append (m := [p.row]) (by simpa using h2) h.each (by simp [PV.row])

end Go.Proofs.YtbjagmlbamjdbaaGreat.kvs
end

section
namespace Go.Proofs.YtbjagmlbamjdbaaGreat.kvs
open Go.RowKit Go.My disks bufs wals
set_option maxRecDepth 100000

variable {w w' : World}

theorem rd_take_len (r : Rd) (n : Nat) : (r.take n).2.left.length ≤ r.left.length := by
  unfold Rd.take
  split
  · simp
  · exact Nat.le_refl _
theorem rd_num_len (r : Rd) : r.num.2.left.length ≤ r.left.length := rd_take_len _ _
theorem rd_text_len (r : Rd) : r.text.2.left.length ≤ r.left.length := Nat.le_trans (rd_take_len _ _) (rd_num_len r)
theorem rd_num_lt (r : Rd) : r.num.1 < 18446744073709551616 := rdV_lt r.left

def DecOut (w : World) (B : Nat) (v : Value) (er : Int) : Option (List PV) → Prop
  | none => v = .slice none 0 0 ∧ er = 5
  | some l => Puts w B v l ∧ er = 0

theorem dec_puts (M : Nat) (r1 r : Rd) (ls : List PV) (j : Nat) (h : Rd.puts M r1 = (Rd.puts (j + 1) r).map (fun x => (ls ++ x.1, x.2))) :
    (r.put.2.good = true → Rd.puts M r1 = (Rd.puts j r.put.2).map (fun x => ((ls ++ [r.put.1]) ++ x.1, x.2))) ∧ (r.put.2.good = false → Rd.puts M r1 = none) := by
  rw [h, Rd.puts]
  constructor
  · intro hg
    rw [if_pos hg, Option.map_map]
    congr 1
    funext x
    simp
  · intro hg
    rw [if_neg (by rw [hg]; exact Bool.false_ne_true)]
    rfl

def S3 (w : World) (P : Nat) (k : Nat) : Prop := k = w.heap.size ∨ k = w.heap.size + 1 ∨ k = P

set_option maxHeartbeats 2000000 in
theorem decode_any (w : World) (t : Txt) (hl : t.length ≤ 9223372036854775807) :
    Calls Tryz.prog 60 #[strV t] w fun e w' => ∃ v er, e = .returned (.tuple #[v, .int .i64 er]) ∧ DecOut w' w.heap.size v er (decF t) ∧ Chg (fun _ => False) w w' := by
  have hmf : ∀ (fn : Fn) (first cap : Array Value) (w : World), (Instr.makeFunc fn first cap).run Tryz.prog w = .ok (.func fn first cap) w := fun _ _ _ _ => rfl
  obtain ⟨s, hs⟩ : ∃ s : ByteArray, strV t = .string s := ⟨_, rfl⟩
  have hst := strV_string t s hs
  have HSt := Lib.hid hst
  obtain ⟨w0, hw0⟩ : ∃ w0, ((w.alloc (.cells #[.string s] 9)).alloc (.cells #[.bool true] 4)).alloc (.cells #[takeV w.heap.size (w.heap.size + 1)] 182) = w0 := ⟨_, rfl⟩
  have hc0 : Chg (fun _ => False) w w0 := by rw [← hw0]; exact (((Chg.refl _ _).alloc _).alloc _).alloc _
  have hz0 : w0.heap.size = w.heap.size + 3 := by rw [← hw0]; simp only [World.size_alloc]
  have hr0 : RdAt w0 w.heap.size (w.heap.size + 1) ⟨t, true⟩ := by
    rw [← hw0]
    refine ⟨?_, ?_, by omega⟩
    · simp only [heap_alloc_get, World.size_alloc]; rw [if_neg (by omega), if_neg (by omega), if_pos trivial, hs]
    · simp only [heap_alloc_get, World.size_alloc]; rw [if_neg (by omega), if_pos trivial]
  have hT0 : w0.cell? ⟨w.heap.size + 1 + 1, 0, none⟩ = some (takeV w.heap.size (w.heap.size + 1)) := by
    refine cell_of_block (t := 182) (fr := (0, 0)) (cs := #[takeV w.heap.size (w.heap.size + 1)]) ?_ rfl
    rw [← hw0]
    simp only [heap_alloc_get, World.size_alloc]; rw [if_pos trivial]
  have hnum := num_any w0 hr0 hT0 (by omega) (by omega) hl
  have HW0 := Lib.hid hw0
  have HC0 := Lib.hid hc0
  have HZ0 := Lib.hid hz0
  have HR0 := Lib.hid hr0
  have HT0 := Lib.hid hT0
  obtain ⟨R, hR⟩ : ∃ R, decF t = R := ⟨_, rfl⟩
  have hd : R = if (Rd.num ⟨t, true⟩).2.good = false ∨ 64 < (Rd.num ⟨t, true⟩).1 then none
    else match Rd.puts (Rd.num ⟨t, true⟩).1 (Rd.num ⟨t, true⟩).2 with
      | none => none
      | some (l, _) => if encF l = (t, 0) then some l else none := by rw [← hR]; rfl
  have hr1l := rd_num_len ⟨t, true⟩
  obtain ⟨M, hM⟩ : ∃ M, (Rd.num ⟨t, true⟩).1 = M := ⟨_, rfl⟩
  obtain ⟨r1, hr1⟩ : ∃ r1, (Rd.num ⟨t, true⟩).2 = r1 := ⟨_, rfl⟩
  rw [hM, hr1] at hd hnum
  rw [hr1] at hr1l
  rw [hs, hR]
  have HD := Lib.hid hd
  have HS := Lib.hid hs
  have HNum := Lib.hid hnum
  have HR1l := Lib.hid hr1l
  clear hst hR hs hw0 hc0 hz0 hr0 hT0 hd hnum hM hr1 hr1l
  unfold takeV at HW0 HT0
  go_enter Tryz.func60, Tryz.ntmps60
  cases hg1 : r1.good
  · have HG1 := Lib.hid hg1
    clear hg1
    go_wp2_with (first
      | (go_at_call 109; rw [HW0.out]; refine HNum.out.mono ?_; rintro e w1 ⟨rfl, hr1, hc1⟩
         have c1 : w1.cell? ⟨w.heap.size + 1, 0, none⟩ = some (.bool r1.good) := cell_of_block hr1.good rfl
         rw [HG1.out] at c1
         have HC1 := Lib.hid hc1
         clear hr1 hc1))
    go_ret2
    refine ⟨_, _, rfl, ?_, HC0.out.new HC1.out (fun i hi => by omega)⟩
    rw [HD.out, if_pos (Or.inl HG1.out)]
    exact ⟨rfl, rfl⟩
  · have HG1 := Lib.hid hg1
    clear hg1
    by_cases h64 : 64 < M
    · have h64i : (64 : Int) < (M : Int) := by omega
      go_wp2_with (first
        | (go_at_call 109; rw [HW0.out]; refine HNum.out.mono ?_; rintro e w1 ⟨rfl, hr1, hc1⟩
           have c1 : w1.cell? ⟨w.heap.size + 1, 0, none⟩ = some (.bool r1.good) := cell_of_block hr1.good rfl
           rw [HG1.out] at c1
           have HC1 := Lib.hid hc1
           clear hr1 hc1))
      go_ret2
      refine ⟨_, _, rfl, ?_, HC0.out.new HC1.out (fun i hi => by omega)⟩
      rw [HD.out, if_pos (Or.inr h64)]
      exact ⟨rfl, rfl⟩
    · have h64i : ¬ (64 : Int) < (M : Int) := by omega
      go_wp2_with (first
        | (go_at_call 109; rw [HW0.out]; refine HNum.out.mono ?_; rintro e w1 ⟨rfl, hr1, hc1⟩
           have c1 : w1.cell? ⟨w.heap.size + 1, 0, none⟩ = some (.bool r1.good) := cell_of_block hr1.good rfl
           rw [HG1.out] at c1
           have HR1 := Lib.hid hr1
           have HC1 := Lib.hid hc1
           clear hr1 hc1))
      have HC1w := Lib.hid (show Chg (fun _ => False) w w1 from HC0.out.new HC1.out (fun i hi => by omega))
      have HT1 := Lib.hid (HC1.out.cell HT0.out (show ¬ (w.heap.size + 1 + 1 = w.heap.size ∨ w.heap.size + 1 + 1 = w.heap.size + 1) by omega))
      have HZ1 := Lib.hid (show w.heap.size + 3 ≤ w1.heap.size by have := HC1.out.size; have := HZ0.out; omega)
      clear c1
      go_loopw [9, 27] (fun v j wr => ∃ (k : Nat) (ls : List PV) (r : Rd), j = .int .i64 k ∧ k ≤ M ∧ Puts wr (w.heap.size + 3) v ls ∧ ls.length = k ∧ RdAt wr w.heap.size (w.heap.size + 1) r ∧ r.good = true ∧ r.left.length ≤ t.length ∧ Rd.puts M r1 = (Rd.puts (M - k) r).map (fun x => (ls ++ x.1, x.2)) ∧ Chg (fun _ => False) w wr ∧ wr.cell? ⟨w.heap.size + 1 + 1, 0, none⟩ = some (takeV w.heap.size (w.heap.size + 1)) ∧ w.heap.size + 3 ≤ wr.heap.size) (fun _ j _ => M - (intOf j).toNat)
      · refine ⟨0, [], r1, rfl, Nat.zero_le _, OwnRecs.nil _ _ _ _, rfl, HR1.out, HG1.out, HR1l.out, ?_, HC1w.out, HT1.out, HZ1.out⟩
        rw [Nat.sub_zero]
        cases Rd.puts M r1 <;> simp
      obtain ⟨k, ls, r, rfl, hk, hv, hlk, hra, hrg, hrl, hpu, hc, hT, hz⟩ := hrel
      have HC := Lib.hid hc
      have HZ := Lib.hid hz
      have HV := Lib.hid hv
      have HRa := Lib.hid hra
      have HRg := Lib.hid hrg
      have HRl := Lib.hid hrl
      have HPu := Lib.hid hpu
      have HTw := Lib.hid hT
      have HLk := Lib.hid hlk
      clear hc hz hv hra hrg hrl hpu hlk
      by_cases hlt : k < M
      · have hki : (k : Int) < (M : Int) := by omega
        obtain ⟨ra, hra⟩ : ∃ x, (r.take 1).2 = x := ⟨_, rfl⟩
        obtain ⟨F, hF⟩ : ∃ x, (r.take 1).1 = x := ⟨_, rfl⟩
        have htk1 : Calls Tryz.prog 108 #[.int .u64 1, .pointer (some ⟨w.heap.size + 1, 0, none⟩), .pointer (some ⟨w.heap.size, 0, none⟩)] wr fun e w' => e = .returned (strV F) ∧ RdAt w' w.heap.size (w.heap.size + 1) ra ∧ Chg (fun k => k = w.heap.size ∨ k = w.heap.size + 1) wr w' := by
          rw [← hra, ← hF]
          exact take_any wr HRa.out 1 (by omega) (Nat.le_trans HRl.out hl)
        obtain ⟨sf, hsf⟩ : ∃ s : ByteArray, strV F = .string s := ⟨_, rfl⟩
        rw [hsf] at htk1
        have hfb : (sf.toList == ([1] : List UInt8)) = decide (F = [1]) := by
          rw [strV_string F sf hsf, Lib.toList_data]
          simp only
          by_cases h : F = [1]
          · simp [h]
          · simp [h]
        have HTk1 := Lib.hid htk1
        have HRaE := Lib.hid hra
        have HFE := Lib.hid hF
        clear htk1 hsf hra hF
        unfold takeV at hT
        have hral : ra.left.length ≤ 9223372036854775807 := by have := rd_take_len r 1; rw [HRaE.out] at this; have := HRl.out; omega
        have HRal := Lib.hid hral
        clear hral
        by_cases hgone : F = [1]
        · rw [decide_eq_true hgone] at hfb
          have HGone := Lib.hid hgone
          clear hgone
          go_wp2_with (first
            | (go_at_call 108; refine HTk1.out.mono ?_; rintro e w2 ⟨rfl, hr2, hc2⟩
               have HR2 := Lib.hid hr2
               have HC2 := Lib.hid hc2
               have cT2 := hc2.cell hT (show ¬ (w.heap.size + 1 + 1 = w.heap.size ∨ w.heap.size + 1 + 1 = w.heap.size + 1) by omega)
               clear hr2 hc2))
          obtain ⟨wP, hwP⟩ : ∃ wP, w2.alloc (.cells #[.string ⟨#[]⟩, .string ⟨#[]⟩, .bool true] 103) = wP := ⟨_, rfl⟩
          rw [hwP]
          have hca : Chg (fun _ => False) w2 wP := by rw [← hwP]; exact (Chg.refl _ _).alloc _
          have hbP : wP.heap[w2.heap.size]? = some (.cells #[.string ⟨#[]⟩, .string ⟨#[]⟩, .bool true] 103 (0, 0)) := by rw [← hwP]; exact block_alloc_new _ _
          have cTP : wP.cell? ⟨w.heap.size + 1 + 1, 0, none⟩ = some (.func (.func 108) #[] #[.pointer (some ⟨w.heap.size + 1, 0, none⟩), .pointer (some ⟨w.heap.size, 0, none⟩)]) := hca.cell cT2 id
          obtain ⟨P, hP⟩ : ∃ P, w2.heap.size = P := ⟨_, rfl⟩
          rw [hP] at hbP ⊢
          have hPz : w.heap.size + 3 ≤ P := by rw [← hP]; exact Nat.le_trans HZ.out HC2.out.size
          have HPw := Lib.hid (show wr.heap.size ≤ P by rw [← hP]; exact HC2.out.size)
          have HRP := Lib.hid (HR2.out.kept hca id id)
          have HCP := Lib.hid ((HC2.out.mono (S' := S3 w P) (fun _ _ h => h.imp id Or.inl)).trans' (hca.mono (fun _ _ h => h.elim)))
          have HBP := Lib.hid hbP
          have HPz := Lib.hid hPz
          have n1 : ¬ P = w.heap.size := by omega
          have n2 : ¬ P = w.heap.size + 1 := by omega
          have n3 : ¬ w.heap.size + 1 + 1 = P := by omega
          clear hwP hca hbP hP hPz cT2
          obtain ⟨key, hkeyx⟩ : ∃ x, ra.text.1 = x := ⟨_, rfl⟩
          obtain ⟨rc, hrcx⟩ : ∃ x, ra.text.2 = x := ⟨_, rfl⟩
          have hnumx := num_any _ (HRP.out.kept (Chg.refl (fun _ => False) wP).drew id id) (show wP.drew.cell? ⟨w.heap.size + 1 + 1, 0, none⟩ = some (takeV _ _) from cTP) (by omega) (by omega) HRal.out
          have htkx : ∀ w', RdAt w' w.heap.size (w.heap.size + 1) ra.num.2 → Calls Tryz.prog 108 #[.int .u64 (ra.num.1 : Int), .pointer (some ⟨w.heap.size + 1, 0, none⟩), .pointer (some ⟨w.heap.size, 0, none⟩)] w' fun e w'' => e = .returned (strV key) ∧ RdAt w'' w.heap.size (w.heap.size + 1) rc ∧ Chg (fun k => k = w.heap.size ∨ k = w.heap.size + 1) w' w'' := by
            intro w' h
            rw [← hkeyx, ← hrcx]
            exact take_any w' h ra.num.1 (rd_num_lt ra) (Nat.le_trans (rd_num_len ra) HRal.out)
          have HRlx := Lib.hid (show rc.left.length ≤ 9223372036854775807 by rw [← hrcx]; exact Nat.le_trans (rd_text_len ra) HRal.out)
          obtain ⟨sk, hskx⟩ : ∃ s : ByteArray, strV key = .string s := ⟨_, rfl⟩
          rw [hskx] at htkx
          obtain ⟨Nx, hNx⟩ : ∃ N, ra.num.1 = N := ⟨_, rfl⟩
          rw [hNx] at hnumx htkx
          have HNumx := Lib.hid hnumx
          have HTkx := Lib.hid htkx
          have HSkx := Lib.hid hskx
          have HKeyx := Lib.hid (And.intro hkeyx hrcx)
          clear hNx hnumx htkx hskx hkeyx hrcx
          go_region_held3 (fun w' => w'.cell? ⟨w.heap.size + 1 + 1, 0, none⟩ = some (.func (.func 108) #[] #[.pointer (some ⟨w.heap.size + 1, 0, none⟩), .pointer (some ⟨w.heap.size, 0, none⟩)])) (go_keep)
            (first
            | (go_at_call 109; refine HNumx.out.mono ?_; rintro e w4x ⟨rfl, hr4, hc4⟩; have cT4 := hc4.cell cTP (show ¬ (w.heap.size + 1 + 1 = w.heap.size ∨ w.heap.size + 1 + 1 = w.heap.size + 1) by omega); have HR4x := Lib.hid hr4; have HC4x := Lib.hid hc4; clear hr4 hc4)
            | (go_at_call 108; refine (HTkx.out _ HR4x.out).mono ?_; rintro e w5x ⟨rfl, hr5, hc5⟩; have cT5 := hc5.cell cT4 (show ¬ (w.heap.size + 1 + 1 = w.heap.size ∨ w.heap.size + 1 + 1 = w.heap.size + 1) by omega); have hb5 := hc5.at (HC4x.out.at (show wP.drew.heap[P]? = _ from HBP.out) (show ¬ (P = w.heap.size ∨ P = w.heap.size + 1) by omega)) (show ¬ (P = w.heap.size ∨ P = w.heap.size + 1) by omega); have c5 : w5x.cell? ⟨P, 0, none⟩ = some (.string ⟨#[]⟩) := cell_of_block hb5 rfl; have z5 : w5x.frozen? ⟨P, 0, none⟩ = false := free_of_block hb5; have cT6 := (Chg.setCell (S := fun k => k = P) (p := ⟨P, 0, none⟩) (Chg.refl _ w5x) (fun _ => rfl) (.string sk)).cell cT5 n3; have HB5x := Lib.hid hb5; have HR5x := Lib.hid hr5; have HC5x := Lib.hid hc5; clear hr5 hc5 hb5))
          have hcsx : Chg (fun k => k = P) w5x (w5x.setCell ⟨P, 0, none⟩ (.string sk)) := Chg.setCell (S := fun k => k = P) (p := ⟨P, 0, none⟩) (Chg.refl _ _) (fun _ => rfl) _
          have HR6x := Lib.hid (HR5x.out.kept hcsx (fun e => n1 e.symm) (fun e => n2 e.symm))
          have hb6 := block_setCell (i := 0) (v := .string sk) HB5x.out
          have HC6x := Lib.hid ((((((Chg.refl (S3 w P) wP).drew).trans (HC4x.out.mono (S' := S3 w P) (fun k _ h => h.imp id Or.inl)) (fun _ _ h => h)).trans (HC5x.out.mono (S' := S3 w P) (fun k _ h => h.imp id Or.inl)) (fun _ _ h => h))).trans (hcsx.mono (S' := S3 w P) (fun k _ h => Or.inr (Or.inr h))) (fun _ _ h => h))
          obtain ⟨w6x, hw6⟩ : ∃ x, w5x.setCell ⟨P, 0, none⟩ (.string sk) = x := ⟨_, rfl⟩
          rw [hw6] at HR6x hb6 HC6x cT6 ⊢
          have HB6x := Lib.hid (show w6x.heap[P]? = some (.cells #[.string sk, .string ⟨#[]⟩, .bool true] 103 (0, 0)) from hb6)
          have cT6x := cT6
          clear hw6 hb6 hcsx cT6 cT5 cT4 c5 z5
          have hput : r.put = (PV.mk key [] true, rc) := (by unfold Rd.put; rw [HRaE.out, HFE.out, if_pos HGone.out, HKeyx.out.1, HKeyx.out.2])
          have hrow : (PV.mk key [] true).row = [.string sk, .string ⟨#[]⟩, .bool true] := (by unfold PV.row; simp only; rw [HSkx.out]; rfl)
          have hstep := dec_puts M r1 r ls (M - k - 1) (by rw [show M - k - 1 + 1 = M - k by omega]; exact HPu.out)
          rw [hput] at hstep
          simp only at hstep
          have HStep := Lib.hid hstep
          have hcw : Chg (S3 w P) wr w6x := (HCP.out.trans HC6x.out (fun _ _ h => h))
          have hcwF : Chg (fun _ => False) w w6x := HC.out.new hcw (fun i hi => by have := HPz.out; rcases hi with h | h | h <;> omega)
          have hvw : Puts w6x (w.heap.size + 3) _ ls := HV.out.kept hcw (fun g hg hs => by have h1 := HV.out.lt hg; have h2 := HPw.out; rcases hs with h | h | h <;> omega)
          have hca7 : Chg (fun _ => False) w6x (w6x.alloc (.cells #[.string sk, .string ⟨#[]⟩, .bool true] 103)) := (Chg.refl _ _).alloc _
          have hz7 : w.heap.size + 3 ≤ (w6x).heap.size := Nat.le_trans HZ.out hcw.size
          obtain ⟨v8, w8, hr8, hp8, hg8⟩ := append_put (p := PV.mk key [] true) (nb := (w6x).heap.size) (hvw.kept hca7 (fun _ _ h => h)) (fun j u hu => cell_of_block (block_alloc_new _ _) (by rw [hrow] at hu; simpa using hu)) (Nat.le_trans hz7 hca7.size) (by have := HLk.out; omega) 66
          have hr8d : RdAt w8 w.heap.size (w.heap.size + 1) rc := (HR6x.out.kept hca7 id id).kept hg8 (by omega) (by omega)
          have c8 : w8.cell? ⟨w.heap.size + 1, 0, none⟩ = some (.bool rc.good) := cell_of_block hr8d.good rfl
          have cT8 : w8.cell? ⟨w.heap.size + 1 + 1, 0, none⟩ = some (takeV w.heap.size (w.heap.size + 1)) := hg8.cell (hca7.cell cT6x id) (show ¬ w.heap.size + 3 ≤ w.heap.size + 1 + 1 by omega)
          have p0 : (w6x).cell? ⟨P, 0, none⟩ = some (.string sk) := cell_of_block HB6x.out rfl
          have p1 : (w6x).cell? ⟨P, 1, none⟩ = some (.string ⟨#[]⟩) := cell_of_block HB6x.out rfl
          have p2 : (w6x).cell? ⟨P, 2, none⟩ = some (.bool true) := cell_of_block HB6x.out rfl
          have HC8 := Lib.hid (show Chg (fun _ => False) w w8 from (hcwF.trans' hca7).new hg8 (fun i hi => by omega))
          have HZ8 := Lib.hid (Nat.le_trans hz7 (Nat.le_trans hca7.size hg8.size))
          have HR8 := Lib.hid hr8
          have HP8 := Lib.hid hp8
          have HR8d := Lib.hid hr8d
          have HT8 := Lib.hid cT8
          clear hput hrow hstep hcw hcwF hvw hca7 hz7 hr8 hp8 hg8 hr8d cT8
          cases hgf : rc.good
          · have HGf := Lib.hid hgf
            rw [hgf] at c8
            clear hgf
            go_wp2_with (first
              | (at_builtin; refine Lib.wpList_append_run _ rfl _ _ _ _ rfl _ _ rfl rfl _ _ HR8.out ?_))
            go_ret2
            refine ⟨_, _, rfl, ?_, HC8.out⟩
            rw [HD.out, if_neg (by rintro (h | h); rw [HG1.out] at h; cases h; exact h64 h), HStep.out.2 HGf.out]
            exact ⟨rfl, rfl⟩
          · have HGf := Lib.hid hgf
            rw [hgf] at c8
            clear hgf
            go_wp2_with (first
              | (at_builtin; refine Lib.wpList_append_run _ rfl _ _ _ _ rfl _ _ rfl rfl _ _ HR8.out ?_))
            refine ⟨⟨k + 1, ls ++ [PV.mk key [] true], rc, by go_num, hlt, HP8.out, by rw [List.length_append, HLk.out]; rfl, HR8d.out, HGf.out, (by have h1 := rd_text_len ra; rw [HKeyx.out.2] at h1; have h2 := rd_take_len r 1; rw [HRaE.out] at h2; have := HRl.out; omega), ?_, HC8.out, HT8.out, HZ8.out⟩, puts_meas hlt⟩
            rw [show M - (k + 1) = M - k - 1 by omega]
            exact HStep.out.1 HGf.out
        · rw [decide_eq_false hgone] at hfb
          have HGone := Lib.hid hgone
          clear hgone
          go_wp2_with (first
            | (go_at_call 108; refine HTk1.out.mono ?_; rintro e w2 ⟨rfl, hr2, hc2⟩
               have HR2 := Lib.hid hr2
               have HC2 := Lib.hid hc2
               have cT2 := hc2.cell hT (show ¬ (w.heap.size + 1 + 1 = w.heap.size ∨ w.heap.size + 1 + 1 = w.heap.size + 1) by omega)
               clear hr2 hc2))
          obtain ⟨wP, hwP⟩ : ∃ wP, w2.alloc (.cells #[.string ⟨#[]⟩, .string ⟨#[]⟩, .bool false] 103) = wP := ⟨_, rfl⟩
          rw [hwP]
          have hca : Chg (fun _ => False) w2 wP := by rw [← hwP]; exact (Chg.refl _ _).alloc _
          have hbP : wP.heap[w2.heap.size]? = some (.cells #[.string ⟨#[]⟩, .string ⟨#[]⟩, .bool false] 103 (0, 0)) := by rw [← hwP]; exact block_alloc_new _ _
          have cTP : wP.cell? ⟨w.heap.size + 1 + 1, 0, none⟩ = some (.func (.func 108) #[] #[.pointer (some ⟨w.heap.size + 1, 0, none⟩), .pointer (some ⟨w.heap.size, 0, none⟩)]) := hca.cell cT2 id
          obtain ⟨P, hP⟩ : ∃ P, w2.heap.size = P := ⟨_, rfl⟩
          rw [hP] at hbP ⊢
          have hPz : w.heap.size + 3 ≤ P := by rw [← hP]; exact Nat.le_trans HZ.out HC2.out.size
          have HPw := Lib.hid (show wr.heap.size ≤ P by rw [← hP]; exact HC2.out.size)
          have HRP := Lib.hid (HR2.out.kept hca id id)
          have HCP := Lib.hid ((HC2.out.mono (S' := S3 w P) (fun _ _ h => h.imp id Or.inl)).trans' (hca.mono (fun _ _ h => h.elim)))
          have HBP := Lib.hid hbP
          have HPz := Lib.hid hPz
          have n1 : ¬ P = w.heap.size := by omega
          have n2 : ¬ P = w.heap.size + 1 := by omega
          have n3 : ¬ w.heap.size + 1 + 1 = P := by omega
          clear hwP hca hbP hP hPz cT2
          obtain ⟨key, hkeyx⟩ : ∃ x, ra.text.1 = x := ⟨_, rfl⟩
          obtain ⟨rc, hrcx⟩ : ∃ x, ra.text.2 = x := ⟨_, rfl⟩
          have hnumx := num_any _ (HRP.out.kept (Chg.refl (fun _ => False) wP).drew id id) (show wP.drew.cell? ⟨w.heap.size + 1 + 1, 0, none⟩ = some (takeV _ _) from cTP) (by omega) (by omega) HRal.out
          have htkx : ∀ w', RdAt w' w.heap.size (w.heap.size + 1) ra.num.2 → Calls Tryz.prog 108 #[.int .u64 (ra.num.1 : Int), .pointer (some ⟨w.heap.size + 1, 0, none⟩), .pointer (some ⟨w.heap.size, 0, none⟩)] w' fun e w'' => e = .returned (strV key) ∧ RdAt w'' w.heap.size (w.heap.size + 1) rc ∧ Chg (fun k => k = w.heap.size ∨ k = w.heap.size + 1) w' w'' := by
            intro w' h
            rw [← hkeyx, ← hrcx]
            exact take_any w' h ra.num.1 (rd_num_lt ra) (Nat.le_trans (rd_num_len ra) HRal.out)
          have HRlx := Lib.hid (show rc.left.length ≤ 9223372036854775807 by rw [← hrcx]; exact Nat.le_trans (rd_text_len ra) HRal.out)
          obtain ⟨sk, hskx⟩ : ∃ s : ByteArray, strV key = .string s := ⟨_, rfl⟩
          rw [hskx] at htkx
          obtain ⟨Nx, hNx⟩ : ∃ N, ra.num.1 = N := ⟨_, rfl⟩
          rw [hNx] at hnumx htkx
          have HNumx := Lib.hid hnumx
          have HTkx := Lib.hid htkx
          have HSkx := Lib.hid hskx
          have HKeyx := Lib.hid (And.intro hkeyx hrcx)
          clear hNx hnumx htkx hskx hkeyx hrcx
          go_region_held3 (fun w' => w'.cell? ⟨w.heap.size + 1 + 1, 0, none⟩ = some (.func (.func 108) #[] #[.pointer (some ⟨w.heap.size + 1, 0, none⟩), .pointer (some ⟨w.heap.size, 0, none⟩)])) (go_keep)
            (first
            | (go_at_call 109; refine HNumx.out.mono ?_; rintro e w4x ⟨rfl, hr4, hc4⟩; have cT4 := hc4.cell cTP (show ¬ (w.heap.size + 1 + 1 = w.heap.size ∨ w.heap.size + 1 + 1 = w.heap.size + 1) by omega); have HR4x := Lib.hid hr4; have HC4x := Lib.hid hc4; clear hr4 hc4)
            | (go_at_call 108; refine (HTkx.out _ HR4x.out).mono ?_; rintro e w5x ⟨rfl, hr5, hc5⟩; have cT5 := hc5.cell cT4 (show ¬ (w.heap.size + 1 + 1 = w.heap.size ∨ w.heap.size + 1 + 1 = w.heap.size + 1) by omega); have hb5 := hc5.at (HC4x.out.at (show wP.drew.heap[P]? = _ from HBP.out) (show ¬ (P = w.heap.size ∨ P = w.heap.size + 1) by omega)) (show ¬ (P = w.heap.size ∨ P = w.heap.size + 1) by omega); have c5 : w5x.cell? ⟨P, 0, none⟩ = some (.string ⟨#[]⟩) := cell_of_block hb5 rfl; have z5 : w5x.frozen? ⟨P, 0, none⟩ = false := free_of_block hb5; have cT6 := (Chg.setCell (S := fun k => k = P) (p := ⟨P, 0, none⟩) (Chg.refl _ w5x) (fun _ => rfl) (.string sk)).cell cT5 n3; have HB5x := Lib.hid hb5; have HR5x := Lib.hid hr5; have HC5x := Lib.hid hc5; clear hr5 hc5 hb5))
          have hcsx : Chg (fun k => k = P) w5x (w5x.setCell ⟨P, 0, none⟩ (.string sk)) := Chg.setCell (S := fun k => k = P) (p := ⟨P, 0, none⟩) (Chg.refl _ _) (fun _ => rfl) _
          have HR6x := Lib.hid (HR5x.out.kept hcsx (fun e => n1 e.symm) (fun e => n2 e.symm))
          have hb6 := block_setCell (i := 0) (v := .string sk) HB5x.out
          have HC6x := Lib.hid ((((((Chg.refl (S3 w P) wP).drew).trans (HC4x.out.mono (S' := S3 w P) (fun k _ h => h.imp id Or.inl)) (fun _ _ h => h)).trans (HC5x.out.mono (S' := S3 w P) (fun k _ h => h.imp id Or.inl)) (fun _ _ h => h))).trans (hcsx.mono (S' := S3 w P) (fun k _ h => Or.inr (Or.inr h))) (fun _ _ h => h))
          obtain ⟨w6x, hw6⟩ : ∃ x, w5x.setCell ⟨P, 0, none⟩ (.string sk) = x := ⟨_, rfl⟩
          rw [hw6] at HR6x hb6 HC6x cT6 ⊢
          have HB6x := Lib.hid (show w6x.heap[P]? = some (.cells #[.string sk, .string ⟨#[]⟩, .bool false] 103 (0, 0)) from hb6)
          have cT6x := cT6
          clear hw6 hb6 hcsx cT6 cT5 cT4 c5 z5
          have p2 : w6x.cell? ⟨P, 2, none⟩ = some (.bool false) := cell_of_block HB6x.out rfl
          go_wp2_with fail
          clear p2
          obtain ⟨val, hkeyy⟩ : ∃ x, rc.text.1 = x := ⟨_, rfl⟩
          obtain ⟨rd, hrcy⟩ : ∃ x, rc.text.2 = x := ⟨_, rfl⟩
          have hnumy := num_any _ (HR6x.out.kept (Chg.refl (fun _ => False) w6x).drew id id) (show w6x.drew.cell? ⟨w.heap.size + 1 + 1, 0, none⟩ = some (takeV _ _) from cT6x) (by omega) (by omega) HRlx.out
          have htky : ∀ w', RdAt w' w.heap.size (w.heap.size + 1) rc.num.2 → Calls Tryz.prog 108 #[.int .u64 (rc.num.1 : Int), .pointer (some ⟨w.heap.size + 1, 0, none⟩), .pointer (some ⟨w.heap.size, 0, none⟩)] w' fun e w'' => e = .returned (strV val) ∧ RdAt w'' w.heap.size (w.heap.size + 1) rd ∧ Chg (fun k => k = w.heap.size ∨ k = w.heap.size + 1) w' w'' := by
            intro w' h
            rw [← hkeyy, ← hrcy]
            exact take_any w' h rc.num.1 (rd_num_lt rc) (Nat.le_trans (rd_num_len rc) HRlx.out)
          have HRly := Lib.hid (show rd.left.length ≤ 9223372036854775807 by rw [← hrcy]; exact Nat.le_trans (rd_text_len rc) HRlx.out)
          obtain ⟨sv, hsky⟩ : ∃ s : ByteArray, strV val = .string s := ⟨_, rfl⟩
          rw [hsky] at htky
          obtain ⟨Ny, hNy⟩ : ∃ N, rc.num.1 = N := ⟨_, rfl⟩
          rw [hNy] at hnumy htky
          have HNumy := Lib.hid hnumy
          have HTky := Lib.hid htky
          have HSky := Lib.hid hsky
          have HKeyy := Lib.hid (And.intro hkeyy hrcy)
          clear hNy hnumy htky hsky hkeyy hrcy
          go_region_held3 (fun w' => w'.cell? ⟨w.heap.size + 1 + 1, 0, none⟩ = some (.func (.func 108) #[] #[.pointer (some ⟨w.heap.size + 1, 0, none⟩), .pointer (some ⟨w.heap.size, 0, none⟩)])) (go_keep)
            (first
            | (go_at_call 109; refine HNumy.out.mono ?_; rintro e w4y ⟨rfl, hr4, hc4⟩; have cT4 := hc4.cell cT6x (show ¬ (w.heap.size + 1 + 1 = w.heap.size ∨ w.heap.size + 1 + 1 = w.heap.size + 1) by omega); have HR4y := Lib.hid hr4; have HC4y := Lib.hid hc4; clear hr4 hc4)
            | (go_at_call 108; refine (HTky.out _ HR4y.out).mono ?_; rintro e w5y ⟨rfl, hr5, hc5⟩; have cT5 := hc5.cell cT4 (show ¬ (w.heap.size + 1 + 1 = w.heap.size ∨ w.heap.size + 1 + 1 = w.heap.size + 1) by omega); have hb5 := hc5.at (HC4y.out.at (show w6x.drew.heap[P]? = _ from HB6x.out) (show ¬ (P = w.heap.size ∨ P = w.heap.size + 1) by omega)) (show ¬ (P = w.heap.size ∨ P = w.heap.size + 1) by omega); have c5 : w5y.cell? ⟨P, 1, none⟩ = some (.string ⟨#[]⟩) := cell_of_block hb5 rfl; have z5 : w5y.frozen? ⟨P, 1, none⟩ = false := free_of_block hb5; have cT6 := (Chg.setCell (S := fun k => k = P) (p := ⟨P, 1, none⟩) (Chg.refl _ w5y) (fun _ => rfl) (.string sv)).cell cT5 n3; have HB5y := Lib.hid hb5; have HR5y := Lib.hid hr5; have HC5y := Lib.hid hc5; clear hr5 hc5 hb5))
          have hcsy : Chg (fun k => k = P) w5y (w5y.setCell ⟨P, 1, none⟩ (.string sv)) := Chg.setCell (S := fun k => k = P) (p := ⟨P, 1, none⟩) (Chg.refl _ _) (fun _ => rfl) _
          have HR6y := Lib.hid (HR5y.out.kept hcsy (fun e => n1 e.symm) (fun e => n2 e.symm))
          have hb6 := block_setCell (i := 1) (v := .string sv) HB5y.out
          have HC6y := Lib.hid ((((((Chg.refl (S3 w P) w6x).drew).trans (HC4y.out.mono (S' := S3 w P) (fun k _ h => h.imp id Or.inl)) (fun _ _ h => h)).trans (HC5y.out.mono (S' := S3 w P) (fun k _ h => h.imp id Or.inl)) (fun _ _ h => h))).trans (hcsy.mono (S' := S3 w P) (fun k _ h => Or.inr (Or.inr h))) (fun _ _ h => h))
          obtain ⟨w6y, hw6⟩ : ∃ x, w5y.setCell ⟨P, 1, none⟩ (.string sv) = x := ⟨_, rfl⟩
          rw [hw6] at HR6y hb6 HC6y cT6 ⊢
          have HB6y := Lib.hid (show w6y.heap[P]? = some (.cells #[.string sk, .string sv, .bool false] 103 (0, 0)) from hb6)
          have cT6y := cT6
          clear hw6 hb6 hcsy cT6 cT5 cT4 c5 z5
          have hput : r.put = (PV.mk key val false, rd) := (by unfold Rd.put; rw [HRaE.out, HFE.out, if_neg HGone.out, HKeyx.out.1, HKeyx.out.2, HKeyy.out.1, HKeyy.out.2])
          have hrow : (PV.mk key val false).row = [.string sk, .string sv, .bool false] := (by unfold PV.row; simp only; rw [HSkx.out, HSky.out])
          have hstep := dec_puts M r1 r ls (M - k - 1) (by rw [show M - k - 1 + 1 = M - k by omega]; exact HPu.out)
          rw [hput] at hstep
          simp only at hstep
          have HStep := Lib.hid hstep
          have hcw : Chg (S3 w P) wr w6y := ((HCP.out.trans HC6x.out (fun _ _ h => h)).trans HC6y.out (fun _ _ h => h))
          have hcwF : Chg (fun _ => False) w w6y := HC.out.new hcw (fun i hi => by have := HPz.out; rcases hi with h | h | h <;> omega)
          have hvw : Puts w6y (w.heap.size + 3) _ ls := HV.out.kept hcw (fun g hg hs => by have h1 := HV.out.lt hg; have h2 := HPw.out; rcases hs with h | h | h <;> omega)
          have hca7 : Chg (fun _ => False) w6y (w6y.alloc (.cells #[.string sk, .string sv, .bool false] 103)) := (Chg.refl _ _).alloc _
          have hz7 : w.heap.size + 3 ≤ (w6y).heap.size := Nat.le_trans HZ.out hcw.size
          obtain ⟨v8, w8, hr8, hp8, hg8⟩ := append_put (p := PV.mk key val false) (nb := (w6y).heap.size) (hvw.kept hca7 (fun _ _ h => h)) (fun j u hu => cell_of_block (block_alloc_new _ _) (by rw [hrow] at hu; simpa using hu)) (Nat.le_trans hz7 hca7.size) (by have := HLk.out; omega) 66
          have hr8d : RdAt w8 w.heap.size (w.heap.size + 1) rd := (HR6y.out.kept hca7 id id).kept hg8 (by omega) (by omega)
          have c8 : w8.cell? ⟨w.heap.size + 1, 0, none⟩ = some (.bool rd.good) := cell_of_block hr8d.good rfl
          have cT8 : w8.cell? ⟨w.heap.size + 1 + 1, 0, none⟩ = some (takeV w.heap.size (w.heap.size + 1)) := hg8.cell (hca7.cell cT6y id) (show ¬ w.heap.size + 3 ≤ w.heap.size + 1 + 1 by omega)
          have p0 : (w6y).cell? ⟨P, 0, none⟩ = some (.string sk) := cell_of_block HB6y.out rfl
          have p1 : (w6y).cell? ⟨P, 1, none⟩ = some (.string sv) := cell_of_block HB6y.out rfl
          have p2 : (w6y).cell? ⟨P, 2, none⟩ = some (.bool false) := cell_of_block HB6y.out rfl
          have HC8 := Lib.hid (show Chg (fun _ => False) w w8 from (hcwF.trans' hca7).new hg8 (fun i hi => by omega))
          have HZ8 := Lib.hid (Nat.le_trans hz7 (Nat.le_trans hca7.size hg8.size))
          have HR8 := Lib.hid hr8
          have HP8 := Lib.hid hp8
          have HR8d := Lib.hid hr8d
          have HT8 := Lib.hid cT8
          clear hput hrow hstep hcw hcwF hvw hca7 hz7 hr8 hp8 hg8 hr8d cT8
          cases hgf : rd.good
          · have HGf := Lib.hid hgf
            rw [hgf] at c8
            clear hgf
            go_wp2_with (first
              | (at_builtin; refine Lib.wpList_append_run _ rfl _ _ _ _ rfl _ _ rfl rfl _ _ HR8.out ?_))
            go_ret2
            refine ⟨_, _, rfl, ?_, HC8.out⟩
            rw [HD.out, if_neg (by rintro (h | h); rw [HG1.out] at h; cases h; exact h64 h), HStep.out.2 HGf.out]
            exact ⟨rfl, rfl⟩
          · have HGf := Lib.hid hgf
            rw [hgf] at c8
            clear hgf
            go_wp2_with (first
              | (at_builtin; refine Lib.wpList_append_run _ rfl _ _ _ _ rfl _ _ rfl rfl _ _ HR8.out ?_))
            refine ⟨⟨k + 1, ls ++ [PV.mk key val false], rd, by go_num, hlt, HP8.out, by rw [List.length_append, HLk.out]; rfl, HR8d.out, HGf.out, (by have h1 := rd_text_len ra; rw [HKeyx.out.2] at h1; have h2 := rd_take_len r 1; rw [HRaE.out] at h2; have h3 := rd_text_len rc; rw [HKeyy.out.2] at h3; have := HRl.out; omega), ?_, HC8.out, HT8.out, HZ8.out⟩, puts_meas hlt⟩
            rw [show M - (k + 1) = M - k - 1 by omega]
            exact HStep.out.1 HGf.out
      · have hki : ¬ (k : Int) < (M : Int) := by omega
        obtain rfl : k = M := by omega
        have hpk := HPu.out
        rw [Nat.sub_self, Rd.puts, Option.map_some, List.append_nil] at hpk
        have hRk : R = if encF ls = (t, 0) then some ls else none := by
          rw [HD.out, if_neg (by rintro (h | h); rw [HG1.out] at h; cases h; exact h64 h), hpk]
        have hEnc := encode_any wr HV.out (by have := HLk.out; omega)
        rcases hee : encF ls with ⟨E, er⟩
        rw [hee] at hEnc hRk
        simp only at hEnc
        obtain ⟨se, hse⟩ : ∃ x : ByteArray, strV E = .string x := ⟨_, rfl⟩
        have hss := HS.out
        rw [hse] at hEnc
        have hcmp : (se.toList == s.toList) = decide (E = t) := by
          rw [strV_string E se hse, strV_string t s HS.out, Lib.toList_data, Lib.toList_data]
          simp only
          by_cases h : E = t
          · simp [h]
          · simp [h]
        have HEnc := Lib.hid hEnc
        have HRk := Lib.hid hRk
        clear hpk hRk hEnc hse hss hee
        by_cases he0 : er = 0
        · subst he0
          by_cases heq : E = t
          · rw [decide_eq_true heq] at hcmp
            have HEq := Lib.hid heq
            clear heq
            go_wp2_with (first
              | (go_at_call 66; refine HEnc.out.mono ?_; rintro e w9 ⟨rfl, hc9⟩; have HC9 := Lib.hid hc9; clear hc9))
            go_ret2
            refine ⟨_, _, rfl, ?_, HC.out.trans' HC9.out⟩
            rw [HRk.out, HEq.out, if_pos rfl]
            exact ⟨Puts.lower (HV.out.kept HC9.out (fun _ _ h => h)) (by omega), rfl⟩
          · rw [decide_eq_false heq] at hcmp
            have HEq := Lib.hid heq
            clear heq
            go_wp2_with (first
              | (go_at_call 66; refine HEnc.out.mono ?_; rintro e w9 ⟨rfl, hc9⟩; have HC9 := Lib.hid hc9; clear hc9))
            go_ret2
            refine ⟨_, _, rfl, ?_, HC.out.trans' HC9.out⟩
            rw [HRk.out, if_neg (fun h => HEq.out (Prod.mk.inj h).1)]
            exact ⟨rfl, rfl⟩
        · have hei : ¬ (er : Int) = 0 := by omega
          have HEr := Lib.hid he0
          clear he0
          go_wp2_with (first
            | (go_at_call 66; refine HEnc.out.mono ?_; rintro e w9 ⟨rfl, hc9⟩; have HC9 := Lib.hid hc9; clear hc9))
          go_ret2
          refine ⟨_, _, rfl, ?_, HC.out.trans' HC9.out⟩
          rw [HRk.out, if_neg (fun h => HEr.out (Prod.mk.inj h).2)]
          exact ⟨rfl, rfl⟩

end Go.Proofs.YtbjagmlbamjdbaaGreat.kvs
end
