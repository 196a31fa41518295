/-
  kv: snapshot.
-/
import Derived.Test.YtbkefhoapnaciaaGreatPkAl
import Derived.Test.YtbkefhoapnaciaaGreatPkBa
import Derived.Test.YtbkefhoapnaciaaGreatPkBd

section
set_option linter.unusedSimpArgs false
set_option linter.unusedVariables false
namespace Go.Proofs.YtbkefhoapnaciaaGreat.kvs
open Go.RowKit Go.Maps Go.My Go.ChangeMaps disks bufs wals
set_option maxRecDepth 100000

variable {w w' : World} {N O Z B : Nat} {x : Sn} {nv ov : Value}

theorem ok_nil : (Sn.mk [] [] 0).Ok [] := ⟨rfl, by simp, by simp, by simp, [], rfl, by simp, rfl⟩
theorem snap_take {L : List PV} {k : Nat} {p : PV} (h : L[k]? = some p) (x : Sn) : (L.take (k + 1)).foldl Sn.step x = ((L.take k).foldl Sn.step x).step p := by
  rw [List.take_add_one, h, Option.toList_some, List.foldl_append]
  rfl

def S4 (N O Z B k : Nat) : Prop := k = N ∨ k = O ∨ k = Z ∨ B ≤ k




set_option maxHeartbeats 2000000 in
theorem snapshot_any (w : World) {b : Nat} {m : List KV} (h : MapAt w b m) (hm : Mays m) (hn : m.length ≤ 100000) :
    Calls Tryz.prog 53 #[.map (some b)] w fun e w' => ∃ v, e = .returned v ∧ w'.ownsRow w.heap.size 9 1 v (snapF m).length ((snapF m).map strV) ∧ Chg (fun _ => False) w w' := by
  have hmf : ∀ (fn : Fn) (first cap : Array Value) (w : World), (Instr.makeFunc fn first cap).run Tryz.prog w = .ok (.func fn first cap) w := fun _ _ _ _ => rfl
  obtain ⟨w0, hw0⟩ : ∃ w0, ((w.alloc (.cells #[.slice none 0 0] 36)).alloc (.cells #[.slice none 0 0] 22)).alloc (.cells #[.int .i64 0] 3) = w0 := ⟨_, rfl⟩
  have hc0 : Chg (fun _ => False) w w0 := by rw [← hw0]; exact (((Chg.refl _ _).alloc _).alloc _).alloc _
  have hz0 : w0.heap.size = w.heap.size + 3 := by rw [← hw0]; simp only [World.size_alloc]
  have hO : w0.heap[w.heap.size]? = some (.cells #[.slice none 0 0] 36 (0, 0)) := by
    rw [← hw0]; simp only [heap_alloc_get, World.size_alloc]; rw [if_neg (by omega), if_neg (by omega), if_pos trivial]
  have hN : w0.heap[w.heap.size + 1]? = some (.cells #[.slice none 0 0] 22 (0, 0)) := by
    rw [← hw0]; simp only [heap_alloc_get, World.size_alloc]; rw [if_neg (by omega), if_pos trivial]
  have hZ : w0.heap[w.heap.size + 1 + 1]? = some (.cells #[.int .i64 0] 3 (0, 0)) := by
    rw [← hw0]; simp only [heap_alloc_get, World.size_alloc]; rw [if_pos trivial]
  have hso := sorted_any w0 (h.kept hc0 id) (by omega)
  have hmayL : ∀ p ∈ (sortF m).map ofKV, p.may = true := fun p hp => by
    obtain ⟨q, hq, rfl⟩ := List.mem_map.1 hp
    exact hm q ((sortF_perm m).mem_iff.1 hq)
  have hsF : snapF m = (((sortF m).map ofKV).foldl Sn.step ⟨[], [], 0⟩).close.out := rfl
  have hLl : ((sortF m).map ofKV).length ≤ 100000 := by rw [List.length_map, sortF_len]; exact hn
  obtain ⟨L, hL⟩ : ∃ L, (sortF m).map ofKV = L := ⟨_, rfl⟩
  rw [hL] at hso hmayL hsF hLl
  have HW0 := Lib.hid hw0
  have HC0 := Lib.hid hc0
  have HZ0 := Lib.hid hz0
  have HBk := Lib.hid (And.intro hO (And.intro hN hZ))
  have HSo := Lib.hid hso
  have HMay := Lib.hid hmayL
  have HSF := Lib.hid hsF
  have HLl := Lib.hid hLl
  clear h hm hn hw0 hc0 hz0 hO hN hZ hso hmayL hsF hLl hL
  go_enter Tryz.func53, Tryz.ntmps53
  go_wp2_with (first
    | (go_at_call 51; rw [HW0.out]; refine HSo.out.mono ?_; rintro e w1 ⟨lv, rfl, hp1, hc1⟩
       obtain ⟨oa, cap, rfl, -⟩ := hp1.slice
       rw [List.length_map] at hp1
       have hsn : SnAt w1 (w.heap.size + 1) w.heap.size (w.heap.size + 1 + 1) w1.heap.size ⟨[], [], 0⟩ (.slice none 0 0) (.slice none 0 0) := ⟨hc1.at HBk.out.2.1 id, hc1.at HBk.out.1 id, hc1.at HBk.out.2.2 id, OwnRecs.nil _ _ _ _, World.ownsRow_nil _ _ _ _, by have := hc1.size; have := HZ0.out; omega, by have := hc1.size; have := HZ0.out; omega, by have := hc1.size; have := HZ0.out; omega, by omega, by omega, by omega⟩
       have HSn := Lib.hid hsn
       have HP1 := Lib.hid hp1
       have HC1 := Lib.hid (HC0.out.trans' hc1)
       have HZ1 := Lib.hid (show w.heap.size + 3 ≤ w1.heap.size by have := hc1.size; have := HZ0.out; omega)
       rw [List.length_map]
       clear hp1 hc1 hsn))
  go_loopw [14] (fun j wr => ∃ (k : Nat) (nv ov : Value), j = .int .i64 k ∧ k ≤ L.length ∧ SnAt wr (w.heap.size + 1) w.heap.size (w.heap.size + 1 + 1) w1.heap.size ((L.take k).foldl Sn.step ⟨[], [], 0⟩) nv ov ∧ Chg (S4 (w.heap.size + 1) w.heap.size (w.heap.size + 1 + 1) w1.heap.size) w1 wr) (fun j _ => L.length - (intOf j).toNat)
  · exact ⟨0, _, _, rfl, Nat.zero_le _, HSn.out, Chg.refl _ _⟩
  obtain ⟨k, nv, ov, rfl, hk, hsn, hc⟩ := hrel
  have HS := Lib.hid hsn
  have HC := Lib.hid hc
  have hok := snapL_ok (L.take k) _ _ ok_nil (fun p hp => HMay.out p (List.mem_of_mem_take hp))
  rw [List.nil_append] at hok
  have hol := snap_out_len (L.take k) ⟨[], [], 0⟩
  have htk : (L.take k).length ≤ 100000 := by rw [List.length_take]; have := HLl.out; omega
  have hol2 : ((L.take k).foldl Sn.step ⟨[], [], 0⟩).out.length ≤ 100000 := Nat.le_trans hol (by simp only [List.length_nil]; omega)
  clear hsn hc hol htk
  by_cases hlt : k < L.length
  · have hki : (k : Int) < (L.length : Int) := by omega
    have hne : ∀ g, Value.ownBlock (.slice oa L.length cap) = some g → ¬ S4 (w.heap.size + 1) w.heap.size (w.heap.size + 1 + 1) w1.heap.size g := fun g hg hs => by
      have h1 := HP1.out.lt (v := .slice oa L.length cap) hg
      have h2 := HZ0.out
      rcases hs with e | e | e | e <;> omega
    obtain ⟨g', cap', p, e1, hr, d0, d1, d2⟩ := put_cells (HP1.out.kept HC.out hne) hlt
    clear hne
    simp only [Value.slice.injEq] at e1
    obtain ⟨rfl, -, -⟩ := e1
    have hpm := HMay.out p (List.mem_of_getElem? hr)
    have hpb := bytes_length p hpm
    obtain ⟨m1, m2, m3, m4⟩ := may_key hpm
    have HCh := Lib.hid (fun w => change_any w p (by omega) (by omega))
    have HPb := Lib.hid hpb
    have Hr := Lib.hid hr
    obtain ⟨sb, hsb⟩ : ∃ s : ByteArray, strV p.bytes = .string s := ⟨_, rfl⟩
    rw [hsb] at HCh
    have HSb := Lib.hid (str_size _ _ hsb)
    unfold PV.row strV at HCh
    unfold strV at d0 d1
    obtain ⟨X, hX⟩ : ∃ X, (L.take k).foldl Sn.step ⟨[], [], 0⟩ = X := ⟨_, rfl⟩
    have hok' : X.Ok (L.take k) := by rw [← hX]; exact hok
    rw [hX] at HS hol2
    have HX := Lib.hid hX
    have HOk := Lib.hid hok'
    have HLx := Lib.hid hok'.few
    have HSx := Lib.hid (show X.size ≤ 4096 by have := hok'.short; omega)
    have HOx := Lib.hid hol2
    have HSz := Lib.hid (show w1.heap.size ≤ (wr.alloc (.cells #[.string ⟨p.key.toArray⟩, .string ⟨p.val.toArray⟩, .bool p.gone] 45)).heap.size from Nat.le_trans HC.out.size (by rw [World.size_alloc]; omega))
    clear hr hpm hpb m1 m2 m3 m4 hsb hX hok hok' hol2
    have hs := HS.out
    obtain ⟨oaN, capN, rfl, -⟩ := hs.now.slice
    rw [List.length_map] at HS
    clear hs
    have HSa := Lib.hid (HS.out.kept ((Chg.refl _ _).alloc (.cells #[.string ⟨p.key.toArray⟩, .string ⟨p.val.toArray⟩, .bool p.gone] 45)))
    have HPa := Lib.hid (block_alloc_new wr (.cells #[.string ⟨p.key.toArray⟩, .string ⟨p.val.toArray⟩, .bool p.gone] 45))
    have i1 : (X.size : Int) ≤ 4096 := by have := HSx.out; omega
    have i2 : (sb.size : Int) ≤ 1111 := by have := HSb.out; have := HPb.out.2; omega
    have hLi : (L.length : Int) ≤ 100000 := by have := HLl.out; omega
    by_cases hA : X.now.length = 64
    · have hAi : (X.now.length : Int) = 64 := by omega
      go_wp2_with (first
        | (go_at_call 35; refine (HCh.out _).mono ?_; rintro e w4 ⟨rfl, hc4⟩
           have h4 := HSa.out.kept hc4
           have d4 := cell_of_block (i := 0) h4.n rfl
           have d5 := cell_of_block (i := 0) h4.z rfl
           have H4 := Lib.hid h4
           have HC4 := Lib.hid hc4
           clear h4 hc4)
        | (go_at_call 75; refine (close_any _ H4.out (Nat.le_trans HSz.out HC4.out.size) (by have := HLx.out; omega) (by have := HOx.out; omega)).mono ?_; rintro e w5 ⟨rfl, ⟨nv5, ov5, h5⟩, hc5⟩
           have hP5 := Lib.hid (hc5.at (HC4.out.at HPa.out id) (show ¬ (wr.heap.size = w.heap.size + 1 ∨ wr.heap.size = w.heap.size ∨ wr.heap.size = w.heap.size + 1 + 1 ∨ some wr.heap.size = ov.ownBlock) by have := HZ1.out; have := HC.out.size; rintro (e | e | e | e); omega; omega; omega; have := (HS.out.out.lt _ e.symm).2; omega))
           have HY5 := Lib.hid h5
           have HCW5 := Lib.hid ((((Chg.refl (S4 (w.heap.size + 1) w.heap.size (w.heap.size + 1 + 1) w1.heap.size) wr).alloc _).trans (HC4.out.mono (fun _ _ h => h.elim)) (fun _ _ h => h)).trans (hc5.mono (S' := S4 (w.heap.size + 1) w.heap.size (w.heap.size + 1 + 1) w1.heap.size) (fun j _ hj => by rcases hj with e | e | e | e; exact Or.inl e; exact Or.inr (Or.inl e); exact Or.inr (Or.inr (Or.inl e)); exact Or.inr (Or.inr (Or.inr (HS.out.out.lt j e.symm).1)))) (fun _ _ h => h))
           have hcl := Sn.Ok.close HOk.out
           have HLc := Lib.hid (show X.close.now.length ≤ 64 by rw [hcl.2]; simp)
           have HSc := Lib.hid (show X.close.size ≤ 4096 by have := hcl.1.short; omega)
           clear h5 hc5 hcl
           have hY := HY5.out
           obtain ⟨oaY, capY, rfl, -⟩ := hY.now.slice
           rw [List.length_map] at hY
           have hBW : w1.heap.size ≤ (w5).heap.size := Nat.le_trans HC.out.size HCW5.out.size
           have hcb : Chg (fun _ => False) w5 ((w5).alloc (.cells #[.string ⟨p.key.toArray⟩, .string ⟨p.val.toArray⟩, .bool p.gone] 45)) := (Chg.refl _ _).alloc _
           obtain ⟨v8, w8, hr8, hp8, hg8⟩ := append_putO (p := p) (nb := (w5).heap.size) (hY.now.kept hcb (fun _ _ h => h)) (fun j u hu => cell_of_block (block_alloc_new _ _) (by simpa [PV.row, strV] using hu)) (Nat.le_trans hBW hcb.size) (by have := HLc.out; omega) 22
           obtain ⟨oa8, cap8, rfl, -⟩ := hp8.slice
           obtain ⟨M8, hM8⟩ : ∃ M, (((X.close).now ++ [p]).map PV.row).length = M := ⟨_, rfl⟩
           rw [hM8] at hp8 hr8
           have hm := (hY.kept hcb).more hg8 hp8
           obtain ⟨l1, l2, l3⟩ := (hY.kept hcb).lowsN hg8
           have hm2 := hm.sized ((X.close).size + p.bytes.length)
           have hcast : (((X.close).size + p.bytes.length : Nat) : Int) = ((X.close).size : Int) + (sb.size : Int) := by have := HSb.out; omega
           rw [hcast] at hm2
           have a0 : (w5).cell? ⟨w.heap.size + 1, 0, none⟩ = some (.slice oaY (X.close).now.length capY) := cell_of_block hY.n rfl
           have a1 : (w5).cell? ⟨wr.heap.size, 0, none⟩ = some (.string ⟨p.key.toArray⟩) := cell_of_block hP5.out rfl
           have a2 : (w5).cell? ⟨wr.heap.size, 1, none⟩ = some (.string ⟨p.val.toArray⟩) := cell_of_block hP5.out rfl
           have a3 : (w5).cell? ⟨wr.heap.size, 2, none⟩ = some (.bool p.gone) := cell_of_block hP5.out rfl
           have b0 : w8.cell? ⟨w.heap.size + 1, 0, none⟩ = some (.slice oaY (X.close).now.length capY) := cell_of_block l1 rfl
           have b1 : w8.frozen? ⟨w.heap.size + 1, 0, none⟩ = false := free_of_block l1
           have b2 : (w8.setCell ⟨w.heap.size + 1, 0, none⟩ (.slice oa8 M8 cap8)).cell? ⟨w.heap.size + 1 + 1, 0, none⟩ = some (.int .i64 ((X.close).size : Int)) := cell_of_block hm.z rfl
           have b3 : (w8.setCell ⟨w.heap.size + 1, 0, none⟩ (.slice oa8 M8 cap8)).frozen? ⟨w.heap.size + 1 + 1, 0, none⟩ = false := free_of_block hm.z
           have hcA : Chg (S4 (w.heap.size + 1) w.heap.size (w.heap.size + 1 + 1) w1.heap.size) wr w8 := (HCW5.out.trans (hcb.mono (fun _ _ h => h.elim)) (fun _ _ h => h)).trans (hg8.mono (S' := S4 (w.heap.size + 1) w.heap.size (w.heap.size + 1 + 1) w1.heap.size) (fun j _ e => Or.inr (Or.inr (Or.inr (hY.now.lt e.symm).1)))) (fun _ _ h => h)
           have hcB := (hcA.setCell (p := ⟨w.heap.size + 1, 0, none⟩) (fun _ => Or.inl rfl) (.slice oa8 M8 cap8)).setCell (p := ⟨w.heap.size + 1 + 1, 0, none⟩) (fun _ => Or.inr (Or.inr (Or.inl rfl))) (.int .i64 (((X.close).size : Int) + (sb.size : Int)))
           have HM2 := Lib.hid hm2
           have HR8 := Lib.hid hr8
           have HCB := Lib.hid hcB
           have j1 : ((X.close).size : Int) ≤ 4096 := by have := HSc.out; omega
           have j2 : (sb.size : Int) ≤ 1111 := by have := HSb.out; have := HPb.out.2; omega
           clear hY hBW hcb hr8 hp8 hg8 hM8 hm l1 l2 l3 hm2 hcast hcA hcB
           skip)
        | (at_builtin; refine Lib.wpList_append_run _ rfl _ _ _ _ rfl _ _ rfl rfl _ _ HR8.out ?_))
      have hst : X.step p = ⟨(X.close).out, (X.close).now ++ [p], (X.close).size + p.bytes.length⟩ := by
        unfold Sn.step
        rw [show X.room p.bytes.length = X.close from (by unfold Sn.room; rw [if_pos (Or.inl hA)])]
      have hfold : (L.take (k + 1)).foldl Sn.step ⟨[], [], 0⟩ = ⟨(X.close).out, (X.close).now ++ [p], (X.close).size + p.bytes.length⟩ := by rw [snap_take Hr.out, HX.out, hst]
      refine ⟨⟨k + 1, _, _, by go_num, hlt, (congrArg (fun z => SnAt _ _ _ _ _ z _ _) hfold).mpr HM2.out, HC.out.trans HCB.out (fun _ _ h => h)⟩, puts_meas hlt⟩
    · have hAi : ¬ (X.now.length : Int) = 64 := by omega
      have hAb : ((X.now.length : Int) == 64) = false := beq_eq_false_iff_ne.2 hAi
      by_cases hBg : 4096 < 1 + X.size + p.bytes.length
      · have hBi : (4096 : Int) < 1 + (X.size : Int) + (sb.size : Int) := by have := HSb.out; omega
        go_wp2_with (first
          | (go_at_call 35; refine (HCh.out _).mono ?_; rintro e w4 ⟨rfl, hc4⟩
             have h4 := HSa.out.kept hc4
             have d4 := cell_of_block (i := 0) h4.n rfl
             have d5 := cell_of_block (i := 0) h4.z rfl
             have H4 := Lib.hid h4
             have HC4 := Lib.hid hc4
             clear h4 hc4)
          | (go_at_call 75; refine (close_any _ H4.out (Nat.le_trans HSz.out HC4.out.size) (by have := HLx.out; omega) (by have := HOx.out; omega)).mono ?_; rintro e w5 ⟨rfl, ⟨nv5, ov5, h5⟩, hc5⟩
             have hP5 := Lib.hid (hc5.at (HC4.out.at HPa.out id) (show ¬ (wr.heap.size = w.heap.size + 1 ∨ wr.heap.size = w.heap.size ∨ wr.heap.size = w.heap.size + 1 + 1 ∨ some wr.heap.size = ov.ownBlock) by have := HZ1.out; have := HC.out.size; rintro (e | e | e | e); omega; omega; omega; have := (HS.out.out.lt _ e.symm).2; omega))
             have HY5 := Lib.hid h5
             have HCW5 := Lib.hid ((((Chg.refl (S4 (w.heap.size + 1) w.heap.size (w.heap.size + 1 + 1) w1.heap.size) wr).alloc _).trans (HC4.out.mono (fun _ _ h => h.elim)) (fun _ _ h => h)).trans (hc5.mono (S' := S4 (w.heap.size + 1) w.heap.size (w.heap.size + 1 + 1) w1.heap.size) (fun j _ hj => by rcases hj with e | e | e | e; exact Or.inl e; exact Or.inr (Or.inl e); exact Or.inr (Or.inr (Or.inl e)); exact Or.inr (Or.inr (Or.inr (HS.out.out.lt j e.symm).1)))) (fun _ _ h => h))
             have hcl := Sn.Ok.close HOk.out
             have HLc := Lib.hid (show X.close.now.length ≤ 64 by rw [hcl.2]; simp)
             have HSc := Lib.hid (show X.close.size ≤ 4096 by have := hcl.1.short; omega)
             clear h5 hc5 hcl
             have hY := HY5.out
             obtain ⟨oaY, capY, rfl, -⟩ := hY.now.slice
             rw [List.length_map] at hY
             have hBW : w1.heap.size ≤ (w5).heap.size := Nat.le_trans HC.out.size HCW5.out.size
             have hcb : Chg (fun _ => False) w5 ((w5).alloc (.cells #[.string ⟨p.key.toArray⟩, .string ⟨p.val.toArray⟩, .bool p.gone] 45)) := (Chg.refl _ _).alloc _
             obtain ⟨v8, w8, hr8, hp8, hg8⟩ := append_putO (p := p) (nb := (w5).heap.size) (hY.now.kept hcb (fun _ _ h => h)) (fun j u hu => cell_of_block (block_alloc_new _ _) (by simpa [PV.row, strV] using hu)) (Nat.le_trans hBW hcb.size) (by have := HLc.out; omega) 22
             obtain ⟨oa8, cap8, rfl, -⟩ := hp8.slice
             obtain ⟨M8, hM8⟩ : ∃ M, (((X.close).now ++ [p]).map PV.row).length = M := ⟨_, rfl⟩
             rw [hM8] at hp8 hr8
             have hm := (hY.kept hcb).more hg8 hp8
             obtain ⟨l1, l2, l3⟩ := (hY.kept hcb).lowsN hg8
             have hm2 := hm.sized ((X.close).size + p.bytes.length)
             have hcast : (((X.close).size + p.bytes.length : Nat) : Int) = ((X.close).size : Int) + (sb.size : Int) := by have := HSb.out; omega
             rw [hcast] at hm2
             have a0 : (w5).cell? ⟨w.heap.size + 1, 0, none⟩ = some (.slice oaY (X.close).now.length capY) := cell_of_block hY.n rfl
             have a1 : (w5).cell? ⟨wr.heap.size, 0, none⟩ = some (.string ⟨p.key.toArray⟩) := cell_of_block hP5.out rfl
             have a2 : (w5).cell? ⟨wr.heap.size, 1, none⟩ = some (.string ⟨p.val.toArray⟩) := cell_of_block hP5.out rfl
             have a3 : (w5).cell? ⟨wr.heap.size, 2, none⟩ = some (.bool p.gone) := cell_of_block hP5.out rfl
             have b0 : w8.cell? ⟨w.heap.size + 1, 0, none⟩ = some (.slice oaY (X.close).now.length capY) := cell_of_block l1 rfl
             have b1 : w8.frozen? ⟨w.heap.size + 1, 0, none⟩ = false := free_of_block l1
             have b2 : (w8.setCell ⟨w.heap.size + 1, 0, none⟩ (.slice oa8 M8 cap8)).cell? ⟨w.heap.size + 1 + 1, 0, none⟩ = some (.int .i64 ((X.close).size : Int)) := cell_of_block hm.z rfl
             have b3 : (w8.setCell ⟨w.heap.size + 1, 0, none⟩ (.slice oa8 M8 cap8)).frozen? ⟨w.heap.size + 1 + 1, 0, none⟩ = false := free_of_block hm.z
             have hcA : Chg (S4 (w.heap.size + 1) w.heap.size (w.heap.size + 1 + 1) w1.heap.size) wr w8 := (HCW5.out.trans (hcb.mono (fun _ _ h => h.elim)) (fun _ _ h => h)).trans (hg8.mono (S' := S4 (w.heap.size + 1) w.heap.size (w.heap.size + 1 + 1) w1.heap.size) (fun j _ e => Or.inr (Or.inr (Or.inr (hY.now.lt e.symm).1)))) (fun _ _ h => h)
             have hcB := (hcA.setCell (p := ⟨w.heap.size + 1, 0, none⟩) (fun _ => Or.inl rfl) (.slice oa8 M8 cap8)).setCell (p := ⟨w.heap.size + 1 + 1, 0, none⟩) (fun _ => Or.inr (Or.inr (Or.inl rfl))) (.int .i64 (((X.close).size : Int) + (sb.size : Int)))
             have HM2 := Lib.hid hm2
             have HR8 := Lib.hid hr8
             have HCB := Lib.hid hcB
             have j1 : ((X.close).size : Int) ≤ 4096 := by have := HSc.out; omega
             have j2 : (sb.size : Int) ≤ 1111 := by have := HSb.out; have := HPb.out.2; omega
             clear hY hBW hcb hr8 hp8 hg8 hM8 hm l1 l2 l3 hm2 hcast hcA hcB
             skip)
          | (at_builtin; refine Lib.wpList_append_run _ rfl _ _ _ _ rfl _ _ rfl rfl _ _ HR8.out ?_))
        have hst : X.step p = ⟨(X.close).out, (X.close).now ++ [p], (X.close).size + p.bytes.length⟩ := by
          unfold Sn.step
          rw [show X.room p.bytes.length = X.close from (by unfold Sn.room; rw [if_pos (Or.inr hBg)])]
        have hfold : (L.take (k + 1)).foldl Sn.step ⟨[], [], 0⟩ = ⟨(X.close).out, (X.close).now ++ [p], (X.close).size + p.bytes.length⟩ := by rw [snap_take Hr.out, HX.out, hst]
        refine ⟨⟨k + 1, _, _, by go_num, hlt, (congrArg (fun z => SnAt _ _ _ _ _ z _ _) hfold).mpr HM2.out, HC.out.trans HCB.out (fun _ _ h => h)⟩, puts_meas hlt⟩
      · have hBi : ¬ (4096 : Int) < 1 + (X.size : Int) + (sb.size : Int) := by have := HSb.out; omega
        go_wp2_with (first
          | (go_at_call 35; refine (HCh.out _).mono ?_; rintro e w4 ⟨rfl, hc4⟩
             have d5 := cell_of_block (i := 0) (HSa.out.kept hc4).z rfl
             have HY4 := Lib.hid (HSa.out.kept hc4)
             have HP4 := Lib.hid (hc4.at HPa.out id)
             have HCW4 := Lib.hid (((Chg.refl (S4 (w.heap.size + 1) w.heap.size (w.heap.size + 1 + 1) w1.heap.size) wr).alloc (.cells #[.string ⟨p.key.toArray⟩, .string ⟨p.val.toArray⟩, .bool p.gone] 45)).trans (hc4.mono (fun _ _ h => h.elim)) (fun _ _ h => h))
             have hY := HY4.out
             skip
             skip
             have hBW : w1.heap.size ≤ (w4).heap.size := Nat.le_trans HC.out.size HCW4.out.size
             have hcb : Chg (fun _ => False) w4 ((w4).alloc (.cells #[.string ⟨p.key.toArray⟩, .string ⟨p.val.toArray⟩, .bool p.gone] 45)) := (Chg.refl _ _).alloc _
             obtain ⟨v8, w8, hr8, hp8, hg8⟩ := append_putO (p := p) (nb := (w4).heap.size) (hY.now.kept hcb (fun _ _ h => h)) (fun j u hu => cell_of_block (block_alloc_new _ _) (by simpa [PV.row, strV] using hu)) (Nat.le_trans hBW hcb.size) (by have := HLx.out; omega) 22
             obtain ⟨oa8, cap8, rfl, -⟩ := hp8.slice
             obtain ⟨M8, hM8⟩ : ∃ M, (((X).now ++ [p]).map PV.row).length = M := ⟨_, rfl⟩
             rw [hM8] at hp8 hr8
             have hm := (hY.kept hcb).more hg8 hp8
             obtain ⟨l1, l2, l3⟩ := (hY.kept hcb).lowsN hg8
             have hm2 := hm.sized ((X).size + p.bytes.length)
             have hcast : (((X).size + p.bytes.length : Nat) : Int) = ((X).size : Int) + (sb.size : Int) := by have := HSb.out; omega
             rw [hcast] at hm2
             have a0 : (w4).cell? ⟨w.heap.size + 1, 0, none⟩ = some (.slice oaN (X).now.length capN) := cell_of_block hY.n rfl
             have a1 : (w4).cell? ⟨wr.heap.size, 0, none⟩ = some (.string ⟨p.key.toArray⟩) := cell_of_block HP4.out rfl
             have a2 : (w4).cell? ⟨wr.heap.size, 1, none⟩ = some (.string ⟨p.val.toArray⟩) := cell_of_block HP4.out rfl
             have a3 : (w4).cell? ⟨wr.heap.size, 2, none⟩ = some (.bool p.gone) := cell_of_block HP4.out rfl
             have b0 : w8.cell? ⟨w.heap.size + 1, 0, none⟩ = some (.slice oaN (X).now.length capN) := cell_of_block l1 rfl
             have b1 : w8.frozen? ⟨w.heap.size + 1, 0, none⟩ = false := free_of_block l1
             have b2 : (w8.setCell ⟨w.heap.size + 1, 0, none⟩ (.slice oa8 M8 cap8)).cell? ⟨w.heap.size + 1 + 1, 0, none⟩ = some (.int .i64 ((X).size : Int)) := cell_of_block hm.z rfl
             have b3 : (w8.setCell ⟨w.heap.size + 1, 0, none⟩ (.slice oa8 M8 cap8)).frozen? ⟨w.heap.size + 1 + 1, 0, none⟩ = false := free_of_block hm.z
             have hcA : Chg (S4 (w.heap.size + 1) w.heap.size (w.heap.size + 1 + 1) w1.heap.size) wr w8 := (HCW4.out.trans (hcb.mono (fun _ _ h => h.elim)) (fun _ _ h => h)).trans (hg8.mono (S' := S4 (w.heap.size + 1) w.heap.size (w.heap.size + 1 + 1) w1.heap.size) (fun j _ e => Or.inr (Or.inr (Or.inr (hY.now.lt e.symm).1)))) (fun _ _ h => h)
             have hcB := (hcA.setCell (p := ⟨w.heap.size + 1, 0, none⟩) (fun _ => Or.inl rfl) (.slice oa8 M8 cap8)).setCell (p := ⟨w.heap.size + 1 + 1, 0, none⟩) (fun _ => Or.inr (Or.inr (Or.inl rfl))) (.int .i64 (((X).size : Int) + (sb.size : Int)))
             have HM2 := Lib.hid hm2
             have HR8 := Lib.hid hr8
             have HCB := Lib.hid hcB
             have j1 : ((X).size : Int) ≤ 4096 := by have := HSx.out; omega
             have j2 : (sb.size : Int) ≤ 1111 := by have := HSb.out; have := HPb.out.2; omega
             clear hY hBW hcb hr8 hp8 hg8 hM8 hm l1 l2 l3 hm2 hcast hcA hcB
             clear hc4)
          | (at_builtin; refine Lib.wpList_append_run _ rfl _ _ _ _ rfl _ _ rfl rfl _ _ HR8.out ?_))
        have hst : X.step p = ⟨(X).out, (X).now ++ [p], (X).size + p.bytes.length⟩ := by
          unfold Sn.step
          rw [show X.room p.bytes.length = X from (by unfold Sn.room; rw [if_neg (fun h => by rcases h with h | h; exact hA h; exact hBg h)])]
        have hfold : (L.take (k + 1)).foldl Sn.step ⟨[], [], 0⟩ = ⟨(X).out, (X).now ++ [p], (X).size + p.bytes.length⟩ := by rw [snap_take Hr.out, HX.out, hst]
        refine ⟨⟨k + 1, _, _, by go_num, hlt, (congrArg (fun z => SnAt _ _ _ _ _ z _ _) hfold).mpr HM2.out, HC.out.trans HCB.out (fun _ _ h => h)⟩, puts_meas hlt⟩
  · have hki : ¬ (k : Int) < (L.length : Int) := by omega
    obtain rfl : k = L.length := by omega
    rw [List.take_length] at HS hok hol2
    have HCl := Lib.hid (close_any wr HS.out HC.out.size (by have := hok.few; omega) (by omega))
    clear hok hol2
    go_wp2_with (first
      | (go_at_call 75; refine HCl.out.mono ?_; rintro e w5 ⟨rfl, ⟨nv5, ov5, h5⟩, hc5⟩
         have c5 : w5.cell? ⟨w.heap.size, 0, none⟩ = some ov5 := cell_of_block h5.o rfl
         have H5 := Lib.hid h5
         have HC5 := Lib.hid hc5
         clear h5 hc5))
    go_ret
    have hcS : Chg (S4 (w.heap.size + 1) w.heap.size (w.heap.size + 1 + 1) w1.heap.size) wr w5 := HC5.out.mono (fun j _ hj => by rcases hj with e | e | e | e; exact Or.inl e; exact Or.inr (Or.inl e); exact Or.inr (Or.inr (Or.inl e)); exact Or.inr (Or.inr (Or.inr (HS.out.out.lt j e.symm).1)))
    refine ⟨_, rfl, ?_, HC1.out.new (HC.out.trans hcS (fun _ _ h => h)) (fun i hi => by have := HZ1.out; rcases hi with e | e | e | e <;> omega)⟩
    rw [HSF.out]
    exact own_lower H5.out.out (by have := HZ1.out; omega)

end Go.Proofs.YtbkefhoapnaciaaGreat.kvs
end

/-
  kv: what each method does to a database that no call made; none, Len, Get of one that is.
-/
section
set_option linter.unusedSimpArgs false
set_option linter.unusedVariables false
namespace Go.Proofs.YtbkefhoapnaciaaGreat.kvs
open Go.RowKit Go.Maps Go.My Go.ChangeMaps disks bufs wals
set_option maxRecDepth 100000
set_option linter.unusedVariables false

variable {w w' : World} {b q l : Nat} {m : List KV}

def NoDb (w : World) (p : Option Addr) : Prop := p = none ∨ ∃ T, p = some ⟨T, 0, none⟩ ∧ w.cell? ⟨T, 0, none⟩ = some (.pointer none)
theorem NoDb.kept {p : Option Addr} (h : NoDb w p) (hc : Chg (fun _ => False) w w') : NoDb w' p := by
  rcases h with h | ⟨T, h1, h2⟩
  · exact Or.inl h
  · exact Or.inr ⟨T, h1, hc.cell h2 id⟩

theorem none_db (w : World) (p : Option Addr) (h : NoDb w p) : Calls Tryz.prog 48 #[.pointer p] w fun e w' => e = .returned (.bool true) ∧ w = w' := by
  rcases h with rfl | ⟨T, rfl, c⟩
  · go_enter Tryz.func48, Tryz.ntmps48
    go_wp2
    go_ret
    exact ⟨rfl, rfl⟩
  · go_enter Tryz.func48, Tryz.ntmps48
    go_wp2
    go_ret
    exact ⟨rfl, rfl⟩

theorem do_no (w : World) (p : Option Addr) (h : NoDb w p) (v : Value) : Calls Tryz.prog 19 #[.pointer p, v] w fun e w' => e = .returned (.int .i64 1) ∧ w = w' := by
  have H := Lib.hid h
  clear h
  go_enter Tryz.func19, Tryz.ntmps19
  go_wp2_with (first
    | (go_at_call 48; refine (none_db _ _ H.out).mono ?_; rintro e w' ⟨rfl, rfl⟩))
  go_ret
  exact ⟨rfl, rfl⟩

theorem compact_no (w : World) (p : Option Addr) (h : NoDb w p) : Calls Tryz.prog 23 #[.pointer p] w fun e w' => e = .returned (.int .i64 1) ∧ w = w' := by
  have H := Lib.hid h
  clear h
  go_enter Tryz.func23, Tryz.ntmps23
  go_wp2_with (first
    | (go_at_call 48; refine (none_db _ _ H.out).mono ?_; rintro e w' ⟨rfl, rfl⟩))
  go_ret
  exact ⟨rfl, rfl⟩

theorem get_no (w : World) (p : Option Addr) (h : NoDb w p) (k : Value) : Calls Tryz.prog 22 #[.pointer p, k] w fun e w' => e = .returned (.tuple #[.string ⟨#[]⟩, .bool false]) ∧ w = w' := by
  have H := Lib.hid h
  clear h
  go_enter Tryz.func22, Tryz.ntmps22
  go_wp2_with (first
    | (go_at_call 48; refine (none_db _ _ H.out).mono ?_; rintro e w' ⟨rfl, rfl⟩))
  go_ret2
  exact ⟨rfl, rfl⟩

theorem scan_no (w : World) (p : Option Addr) (h : NoDb w p) (a c : Value) : Calls Tryz.prog 21 #[.pointer p, a, c] w fun e w' => e = .returned (.slice none 0 0) ∧ w = w' := by
  have H := Lib.hid h
  clear h
  go_enter Tryz.func21, Tryz.ntmps21
  go_wp2_with (first
    | (go_at_call 48; refine (none_db _ _ H.out).mono ?_; rintro e w' ⟨rfl, rfl⟩))
  go_ret
  exact ⟨rfl, rfl⟩

theorem len_no (w : World) (p : Option Addr) (h : NoDb w p) : Calls Tryz.prog 20 #[.pointer p] w fun e w' => e = .returned (.int .i64 0) ∧ w = w' := by
  have H := Lib.hid h
  clear h
  go_enter Tryz.func20, Tryz.ntmps20
  go_wp2_with (first
    | (go_at_call 48; refine (none_db _ _ H.out).mono ?_; rintro e w' ⟨rfl, rfl⟩))
  go_ret
  exact ⟨rfl, rfl⟩

/-- A database's two words. -/
structure DbIs (w : World) (b l q : Nat) (m : List KV) : Prop where
  head : w.heap[b]? = some (.cells #[.pointer (some ⟨l, 0, none⟩), .map (some q)] 56 (0, 0))
  map : MapAt w q m
theorem DbIs.kept {S : Nat → Prop} (h : DbIs w b l q m) (hc : Chg S w w') (h1 : ¬ S b) (h2 : ¬ S q) : DbIs w' b l q m := ⟨hc.at h.head h1, h.map.kept hc h2⟩
theorem DbIs.fresh (h : DbIs w b l q m) (hc : Chg (fun _ => False) w w') : DbIs w' b l q m := h.kept hc id id

theorem db_no (w : World) (h : DbIs w b l q m) : Calls Tryz.prog 48 #[.pointer (some ⟨b, 0, none⟩)] w fun e w' => e = .returned (.bool false) ∧ w = w' := by
  have c0 : w.cell? ⟨b, 0, none⟩ = some (.pointer (some ⟨l, 0, none⟩)) := cell_of_block h.head rfl
  clear h
  go_enter Tryz.func48, Tryz.ntmps48
  go_wp2_with fail
  go_ret
  exact ⟨rfl, rfl⟩

theorem len_any (w : World) (h : DbIs w b l q m) : Calls Tryz.prog 20 #[.pointer (some ⟨b, 0, none⟩)] w fun e w' => e = .returned (.int .i64 (m.length : Int)) ∧ w = w' := by
  have HNo := Lib.hid (db_no w h)
  have c1 : w.cell? ⟨b, 1, none⟩ = some (.map (some q)) := cell_of_block h.head rfl
  have hlen : (Builtin.len_ #[54] 3 #[.map (some q)]).run Tryz.prog w = .ok (.int .i64 m.length) w := h.map.len Tryz.underlying54 _
  clear h
  go_enter Tryz.func20, Tryz.ntmps20
  go_wp2_with (first
    | (go_at_call 48; refine HNo.out.mono ?_; rintro e w' ⟨rfl, rfl⟩))
  go_ret
  exact ⟨rfl, rfl⟩

theorem zero_str (w : World) : (zeroValue 9).run Tryz.prog w = .ok (strV []) w := Tryz.zeroValue9 w

theorem get_any (w : World) (h : DbIs w b l q m) (k : Txt) (hk : k.length ≤ maxLen) : Calls Tryz.prog 22 #[.pointer (some ⟨b, 0, none⟩), strV k] w fun e w' => e = .returned (.tuple #[strV ((mget m k).getD []), .bool (mget m k).isSome]) ∧ w = w' := by
  have HNo := Lib.hid (db_no w h)
  have c1 : w.cell? ⟨b, 1, none⟩ = some (.map (some q)) := cell_of_block h.head rfl
  have HM := Lib.hid h.map
  have hres : lookRes true (strV []) strV (mget m k) = .tuple #[strV ((mget m k).getD []), .bool (mget m k).isSome] := by cases mget m k <;> rfl
  have HRes := Lib.hid hres
  clear h hres
  go_enter Tryz.func22, Tryz.ntmps22
  go_wp2_with (first
    | (go_at_call 48; refine HNo.out.mono ?_; rintro e w' ⟨rfl, rfl⟩)
    | (at_lookup; refine wpList_look HM.out rfl _ _ _ _ rfl _ Tryz.underlying54 (zero_str _) rfl k rfl hk HRes.out ?_))
  go_ret2
  exact ⟨rfl, rfl⟩

end Go.Proofs.YtbkefhoapnaciaaGreat.kvs
end

/-
  kv: Scan.
-/
section
set_option linter.unusedSimpArgs false
set_option linter.unusedVariables false
namespace Go.Proofs.YtbkefhoapnaciaaGreat.kvs
open Go.RowKit Go.Maps Go.My Go.ChangeMaps disks bufs wals
set_option maxRecDepth 100000

variable {w w' : World} {b q l : Nat} {m : List KV}

def inScan (fr to : Txt) (p : KV) : Bool := !ltB p.1 fr && (decide (to = []) || ltB p.1 to)
def scanF (m : List KV) (fr to : Txt) : List KV := (sortF m).filter (inScan fr to)



set_option maxHeartbeats 2000000 in
theorem scan_any (w : World) (h : DbIs w b l q m) (hn : m.length ≤ 1000000) (fr to : Txt) :
    Calls Tryz.prog 21 #[.pointer (some ⟨b, 0, none⟩), strV fr, strV to] w fun e w' => ∃ v, e = .returned v ∧ Puts w' w.heap.size v ((scanF m fr to).map ofKV) ∧ Chg (fun _ => False) w w' := by
  have HNo := Lib.hid (db_no w h)
  have c1 : w.cell? ⟨b, 1, none⟩ = some (.map (some q)) := cell_of_block h.head rfl
  have HSo := Lib.hid (sorted_any w h.map hn)
  have hLl : (sortF m).length ≤ 1000000 := by rw [sortF_len]; exact hn
  unfold scanF
  obtain ⟨L, hL⟩ : ∃ L, sortF m = L := ⟨_, rfl⟩
  rw [hL] at HSo hLl ⊢
  obtain ⟨sf, hsf⟩ : ∃ s : ByteArray, strV fr = .string s := ⟨_, rfl⟩
  obtain ⟨st, hst⟩ : ∃ s : ByteArray, strV to = .string s := ⟨_, rfl⟩
  have esf : sf.toList = fr := by rw [strV_string fr sf hsf, Lib.toList_data]
  have est : st.toList = to := by rw [strV_string to st hst, Lib.toList_data]
  rw [hsf, hst]
  clear h hL hsf hst hn
  go_enter Tryz.func21, Tryz.ntmps21
  go_wp2_with (first
    | (go_at_call 48; refine HNo.out.mono ?_; rintro e w' ⟨rfl, rfl⟩)
    | (go_at_call 51; refine HSo.out.mono ?_; rintro e w1 ⟨lv, rfl, hp1, hc1⟩
       obtain ⟨oa, cap, rfl, -⟩ := hp1.slice
       rw [List.length_map, List.length_map]
       have HP1 := Lib.hid hp1
       have HC1 := Lib.hid hc1
       have HZ1 := Lib.hid hc1.size
       clear hp1 hc1))
  go_loopw [7, 18] (fun u j wr => ∃ k : Nat, j = .int .i64 k ∧ k ≤ L.length ∧ Puts wr w1.heap.size u (((L.take k).filter (inScan fr to)).map ofKV) ∧ Chg (fun _ => False) w1 wr) (fun _ j _ => L.length - (intOf j).toNat)
  · exact ⟨0, rfl, Nat.zero_le _, OwnRecs.nil _ _ _ _, Chg.refl _ _⟩
  obtain ⟨k, rfl, hk, ho, hc⟩ := hrel
  have HO := Lib.hid ho
  have HC := Lib.hid hc
  clear ho hc
  by_cases hlt : k < L.length
  · have hki : (k : Int) < (L.length : Int) := by omega
    obtain ⟨g', cap', p, e1, hr, d0, d1, d2⟩ := put_cells (HP1.out.kept HC.out (fun _ _ h => h)) (by rw [List.length_map]; exact hlt)
    simp only [Value.slice.injEq] at e1
    obtain ⟨rfl, -, -⟩ := e1
    rw [List.getElem?_map, List.getElem?_eq_getElem hlt, Option.map_some, Option.some.injEq] at hr
    obtain ⟨⟨pk, pv⟩, hp⟩ : ∃ x, L[k] = x := ⟨_, rfl⟩
    have hgk : L[k]? = some (pk, pv) := by rw [List.getElem?_eq_getElem hlt, hp]
    rw [hp] at hr
    subst hr
    have HGk := Lib.hid hgk
    clear hp hgk
    unfold ofKV at d0 d1 d2
    simp only at d0 d1 d2
    obtain ⟨sk, hsk⟩ : ∃ s : ByteArray, strV pk = .string s := ⟨_, rfl⟩
    obtain ⟨sv, hsv⟩ : ∃ s : ByteArray, strV pv = .string s := ⟨_, rfl⟩
    have esk : sk.toList = pk := by rw [strV_string pk sk hsk, Lib.toList_data]
    rw [hsk] at d0
    rw [hsv] at d1
    have q1 : Op.bytesLess sk.toList sf.toList = ltB pk fr := by rw [esk, esf]; rfl
    have q2 : Op.bytesLess sk.toList st.toList = ltB pk to := by rw [esk, est]; rfl
    have q3 : (st.toList == ([] : List UInt8)) = decide (to = []) := by
      rw [est]
      by_cases h : to = []
      · simp [h]
      · simp [h]
    have hca : Chg (fun _ => False) wr (wr.alloc (.cells #[.string sk, .string sv, .bool false] 45)) := (Chg.refl _ _).alloc _
    have hcb := hca.alloc (.cells #[.string sk, .string sv, .bool false] 45)
    have hzz : w1.heap.size ≤ wr.heap.size := HC.out.size
    obtain ⟨v8, w8, hr8, hp8, hg8⟩ := append_putO (p := ofKV (pk, pv)) (nb := wr.heap.size + 1) (HO.out.kept hcb (fun _ _ h => h)) (fun j u hu => by
      have hb : ((wr.alloc (.cells #[.string sk, .string sv, .bool false] 45)).alloc (.cells #[.string sk, .string sv, .bool false] 45)).heap[wr.heap.size + 1]? = some (.cells #[.string sk, .string sv, .bool false] 45 (0, 0)) := by
        have := block_alloc_new (wr.alloc (.cells #[.string sk, .string sv, .bool false] 45)) (.cells #[.string sk, .string sv, .bool false] 45)
        rw [World.size_alloc] at this
        exact this
      refine cell_of_block hb ?_
      have e : (ofKV (pk, pv)).row = [.string sk, .string sv, .bool false] := by unfold ofKV PV.row; rw [hsk, hsv]
      rw [e] at hu
      simpa using hu) (Nat.le_trans hzz hcb.size) (by rw [List.length_map]; have := List.length_filter_le (inScan fr to) (L.take k); have h2 : (L.take k).length ≤ 1000000 := by rw [List.length_take]; omega
                                                      omega) 22
    have HR8 := Lib.hid hr8
    have HP8 := Lib.hid hp8
    have HC8 := Lib.hid (show Chg (fun _ => False) w1 w8 from (HC.out.trans' hcb).new hg8 (fun i e => (HO.out.lt e.symm).1))
    have HCa := Lib.hid hca
    clear hca hcb hzz hr8 hp8 hg8 hsk hsv
    have hLi : (L.length : Int) ≤ 1000000 := by omega
    have htk : L.take (k + 1) = L.take k ++ [(pk, pv)] := by rw [List.take_add_one, HGk.out]; rfl
    have HTk := Lib.hid htk
    clear htk
    cases a1 : ltB pk fr
    · rw [a1] at q1
      by_cases a2 : to = []
      · rw [decide_eq_true a2] at q3
        have hin : inScan fr to (pk, pv) = true := by unfold inScan; simp [a1, a2]
        have HIn := Lib.hid hin
        clear hin esf est esk
        go_wp2_with (first
          | (at_builtin; refine Lib.wpList_append_run _ rfl _ _ _ _ rfl _ _ rfl rfl _ _ HR8.out ?_))
        refine ⟨⟨k + 1, by go_num, hlt, by rw [HTk.out, List.filter_append, List.filter_cons, HIn.out, if_pos rfl, List.filter_nil, List.map_append]; exact HP8.out, HC8.out⟩, puts_meas hlt⟩
      · rw [decide_eq_false a2] at q3
        cases a3 : ltB pk to
        · rw [a3] at q2
          have hin : inScan fr to (pk, pv) = false := by unfold inScan; simp [a1, a2, a3]
          have HIn := Lib.hid hin
          clear hin esf est esk
          go_wp2_with fail
          refine ⟨⟨k + 1, by go_num, hlt, by rw [HTk.out, List.filter_append, List.filter_cons, HIn.out, if_neg (by simp), List.filter_nil, List.append_nil]; exact HO.out.kept HCa.out (fun _ _ h => h), HC.out.trans' HCa.out⟩, puts_meas hlt⟩
        · rw [a3] at q2
          have hin : inScan fr to (pk, pv) = true := by unfold inScan; simp [a1, a3]
          have HIn := Lib.hid hin
          clear hin esf est esk
          go_wp2_with (first
            | (at_builtin; refine Lib.wpList_append_run _ rfl _ _ _ _ rfl _ _ rfl rfl _ _ HR8.out ?_))
          refine ⟨⟨k + 1, by go_num, hlt, by rw [HTk.out, List.filter_append, List.filter_cons, HIn.out, if_pos rfl, List.filter_nil, List.map_append]; exact HP8.out, HC8.out⟩, puts_meas hlt⟩
    · rw [a1] at q1
      have hin : inScan fr to (pk, pv) = false := by unfold inScan; simp [a1]
      have HIn := Lib.hid hin
      clear hin esf est esk
      go_wp2_with fail
      refine ⟨⟨k + 1, by go_num, hlt, by rw [HTk.out, List.filter_append, List.filter_cons, HIn.out, if_neg (by simp), List.filter_nil, List.append_nil]; exact HO.out.kept HCa.out (fun _ _ h => h), HC.out.trans' HCa.out⟩, puts_meas hlt⟩
  · have hki : ¬ (k : Int) < (L.length : Int) := by omega
    obtain rfl : k = L.length := by omega
    have hoo := HO.out
    rw [List.take_length] at hoo
    have HOo := Lib.hid hoo
    clear hoo
    go_wp2_with fail
    go_ret
    exact ⟨_, rfl, HOo.out.lower HZ1.out, HC1.out.trans' HC.out⟩

end Go.Proofs.YtbkefhoapnaciaaGreat.kvs
end

/-
  kv: a database with its log, its map and its disk in the memory.
-/
section
set_option linter.unusedSimpArgs false
set_option linter.unusedVariables false
namespace Go.Proofs.YtbkefhoapnaciaaGreat.kvs
open Go.RowKit Go.Maps Go.My Go.ChangeMaps disks bufs wals
set_option maxRecDepth 100000

variable {w w' : World} {P : Nat → Prop} {b l q d : Nat} {X X' : DV} {V V' : LV} {m m' : List KV}

theorem wat_again (h : WAt P w w l d X V) (hc : Chg (fun _ => False) w w') : WAt P w' w' l d X V := by
  obtain ⟨⟨F, Fd, h1, h2⟩, -⟩ := h
  exact ⟨⟨F, Fd, h1.fresh hc, fun k hk => (h2 k hk).elim Or.inl (fun h => by have := h1.lt k hk; omega)⟩, Chg.refl _ _⟩
theorem wat_aside {S : Nat → Prop} (h : WAt P w w l d X V) (hc : Chg S w w') (hS : ∀ k, P k → ¬ S k) : WAt P w' w' l d X V := by
  obtain ⟨⟨F, Fd, h1, h2⟩, -⟩ := h
  have h3 : ∀ k, F k ∨ Fd k → P k := fun k hk => (h2 k hk).elim id (fun h' => by have := h1.lt k hk; omega)
  exact ⟨⟨F, Fd, h1.kept hc (fun k hk => hS k (h3 k hk)), fun k hk => Or.inl (h3 k hk)⟩, Chg.refl _ _⟩

/-- A database: its log with the log's disk (of the blocks P), its two words, its map. -/
structure KAt (P : Nat → Prop) (w : World) (b l q d : Nat) (X : DV) (V : LV) (m : List KV) : Prop where
  log : WAt P w w l d X V
  db : DbIs w b l q m
  nb : ¬ P b
  nq : ¬ P q
  lt : ∀ k, P k → k < w.heap.size
theorem DbIs.ne (h : DbIs w b l q m) : ¬ b = q := by
  intro e
  obtain ⟨es, clock, hm, -⟩ := h.map
  have := h.head
  rw [e, hm] at this
  cases this
theorem DbIs.ltb (h : DbIs w b l q m) : b < w.heap.size := lt_of_block h.head
theorem DbIs.ltq (h : DbIs w b l q m) : q < w.heap.size := h.map.lt
theorem KAt.fresh (h : KAt P w b l q d X V m) (hc : Chg (fun _ => False) w w') : KAt P w' b l q d X V m := ⟨wat_again h.log hc, h.db.fresh hc, h.nb, h.nq, fun k hk => Nat.lt_of_lt_of_le (h.lt k hk) hc.size⟩
/-- A call of the log's. -/
theorem KAt.step (h : KAt P w b l q d X V m) (k : WAt P w w' l d X' V') : KAt (NowP P w w') w' b l q d X' V' m where
  log := k.now
  db := h.db.kept k.chg h.nb h.nq
  nb := fun hp => hp.1.elim h.nb (fun e => by have := h.db.ltb; omega)
  nq := fun hp => hp.1.elim h.nq (fun e => by have := h.db.ltq; omega)
  lt := fun k hk => hk.2
/-- The map is another one. -/
theorem KAt.put (h : KAt P w b l q d X V m) (hc : Chg (· = q) w w') (hm : MapAt w' q m') : KAt P w' b l q d X V m' where
  log := wat_aside h.log hc (fun k hk e => h.nq (by rw [← e]; exact hk))
  db := ⟨hc.at h.db.head h.db.ne, hm⟩
  nb := h.nb
  nq := h.nq
  lt := fun k hk => Nat.lt_of_lt_of_le (h.lt k hk) hc.size
/-- What is asked of a call's end: the database is there, of P's blocks and new ones; of all else nothing has changed but the map. -/
structure KPost (P : Nat → Prop) (w w' : World) (b l q d : Nat) (X : DV) (V : LV) (m : List KV) : Prop where
  at' : ∃ P', KAt P' w' b l q d X V m ∧ ∀ k, P' k → P k ∨ w.heap.size ≤ k
  chg : Chg (fun k => P k ∨ k = q) w w'
theorem KAt.same (h : KAt P w b l q d X V m) (hc : Chg (fun _ => False) w w') : KPost P w w' b l q d X V m := ⟨⟨P, h.fresh hc, fun _ h => Or.inl h⟩, hc.mono (fun _ _ h => h.elim)⟩
theorem KAt.post (h : KAt P w b l q d X V m) (k : WAt P w w' l d X' V') : KPost P w w' b l q d X' V' m := ⟨⟨_, h.step k, fun _ hk => hk.1⟩, k.chg.mono (fun _ _ h => Or.inl h)⟩
theorem KPost.trans {w1 : World} {X1 : DV} {V1 : LV} {m1 : List KV} (h : KPost P w w1 b l q d X1 V1 m1) (k : ∀ P', KAt P' w1 b l q d X1 V1 m1 → KPost P' w1 w' b l q d X V m) : KPost P w w' b l q d X V m := by
  obtain ⟨⟨P1, h1, h2⟩, h3⟩ := h
  obtain ⟨⟨P2, k1, k2⟩, k3⟩ := k P1 h1
  refine ⟨⟨P2, k1, fun j hj => (k2 j hj).elim (h2 j) (fun e => Or.inr (Nat.le_trans h3.size e))⟩, h3.trans k3 (fun j hj hs => ?_)⟩
  rcases hs with e | e
  · exact (h2 j e).elim Or.inl (fun h => by omega)
  · exact Or.inr e

theorem KPost.since {w1 : World} (h : KPost P w1 w' b l q d X V m) (hc : Chg (fun _ => False) w w1) : KPost P w w' b l q d X V m := by
  obtain ⟨⟨P1, h1, h2⟩, h3⟩ := h
  exact ⟨⟨P1, h1, fun j hj => (h2 j hj).imp id (fun e => Nat.le_trans hc.size e)⟩, (hc.mono (S' := fun k => P k ∨ k = q) (fun _ _ e => e.elim)).trans h3 (fun _ _ e => e)⟩

/-- What the reading calls tell. -/
theorem kat_len (h : KAt P w b l q d X V m) : Calls Tryz.prog 20 #[.pointer (some ⟨b, 0, none⟩)] w fun e w' => e = .returned (.int .i64 (m.length : Int)) ∧ w = w' := len_any w h.db
theorem kat_get (h : KAt P w b l q d X V m) (k : Txt) (hk : k.length ≤ maxLen) : Calls Tryz.prog 22 #[.pointer (some ⟨b, 0, none⟩), strV k] w fun e w' => e = .returned (.tuple #[strV ((mget m k).getD []), .bool (mget m k).isSome]) ∧ w = w' := get_any w h.db k hk
theorem kat_scan (h : KAt P w b l q d X V m) (hn : m.length ≤ 1000000) (fr to : Txt) : Calls Tryz.prog 21 #[.pointer (some ⟨b, 0, none⟩), strV fr, strV to] w fun e w' => ∃ v, e = .returned v ∧ Puts w' w.heap.size v ((scanF m fr to).map ofKV) ∧ Chg (fun _ => False) w w' := scan_any w h.db hn fr to

theorem snapF_len (m : List KV) : (snapF m).length ≤ m.length + 1 := by
  have h1 := snap_out_len ((sortF m).map ofKV) ⟨[], [], 0⟩
  have h2 : ∀ x : Sn, x.close.out.length ≤ x.out.length + 1 := fun x => by
    unfold Sn.close
    split
    · exact Nat.le_succ _
    · simp
  have h3 := h2 (snapL ((sortF m).map ofKV))
  rw [List.length_map, sortF_len] at h1
  show (snapL ((sortF m).map ofKV)).close.out.length ≤ _
  unfold snapL at h3 ⊢
  simp only [List.length_nil] at h1
  omega

set_option maxHeartbeats 2000000 in
theorem compact_any (w : World) (h : KAt P w b l q d X V m) (hV : V.Ok X.B.length) (hf : X.fuse ≤ 9223372036854775807) (hL : ∀ j, (X.L j).length < 500000) (hm : Mays m) (hn : m.length ≤ 100000) :
    Calls Tryz.prog 23 #[.pointer (some ⟨b, 0, none⟩)] w fun e w' => e = .returned (.int .i64 (resetF X V (snapF m)).1) ∧ KPost P w w' b l q d (resetF X V (snapF m)).2.1 (resetF X V (snapF m)).2.2 m := by
  have HNo := Lib.hid (db_no w h.db)
  have c0 : w.cell? ⟨b, 0, none⟩ = some (.pointer (some ⟨l, 0, none⟩)) := cell_of_block h.db.head rfl
  have c1 : w.cell? ⟨b, 1, none⟩ = some (.map (some q)) := cell_of_block h.db.head rfl
  have hd : Chg (fun _ => False) w w.drew := (Chg.refl _ _).drew
  have HSnap := Lib.hid (snapshot_any w.drew (h.db.map.kept hd id) hm hn)
  have H := Lib.hid h
  have HD := Lib.hid hd
  have hrs : ∀ (w1 : World) (v : Value), w1.ownsRow w.drew.heap.size 9 1 v (snapF m).length ((snapF m).map strV) → Chg (fun _ => False) w.drew w1 →
      Calls Tryz.prog 52 #[.pointer (some ⟨l, 0, none⟩), v] w1 fun e w' => e = .returned (.int .i64 (resetF X V (snapF m)).1) ∧ WAt P w1 w' l d (resetF X V (snapF m)).2.1 (resetF X V (snapF m)).2.2 := fun w1 v ho hc =>
    wat_reset (wat_again h.log (hd.trans' hc)) hV hf hL (snapF m) v (SlAt.of_own ho) (fun g hg => ⟨fun hp => by have h1 := h.lt g hp; have h2 := (ho.lt g hg).1; have : w.drew.heap.size = w.heap.size := rfl; omega, (ho.lt g hg).2⟩) (by have := snapF_len m; omega) (fun r hr => by have := snap_short h.db.map.nodup hm r hr; omega)
  have HRs := Lib.hid hrs
  obtain ⟨R, hR⟩ : ∃ R, resetF X V (snapF m) = R := ⟨_, rfl⟩
  rw [hR] at HRs ⊢
  clear h hd hrs hR hV hf hL
  go_enter Tryz.func23, Tryz.ntmps23
  go_wp2_with (first
    | (go_at_call 48; refine HNo.out.mono ?_; rintro e w' ⟨rfl, rfl⟩))
  go_region_held3 (fun w' => w'.cell? ⟨b, 0, none⟩ = some (.pointer (some ⟨l, 0, none⟩)) ∧ w'.cell? ⟨b, 1, none⟩ = some (.map (some q))) (go_keep)
    (first
    | (go_at_call 53; refine HSnap.out.mono ?_; rintro e w1 ⟨v1, rfl, ho1, hc1⟩; have e0 := hc1.cell (show w.drew.cell? ⟨b, 0, none⟩ = _ from c0) id; have e1 := hc1.cell (show w.drew.cell? ⟨b, 1, none⟩ = _ from c1) id; have HO1 := Lib.hid ho1; have HC1 := Lib.hid hc1; clear ho1 hc1)
    | (go_at_call 52; refine (HRs.out _ _ HO1.out HC1.out).mono ?_; rintro e w2 ⟨rfl, hw2⟩; have f0 := hw2.chg.cell e0 H.out.nb; have f1 := hw2.chg.cell e1 H.out.nb; have HW2 := Lib.hid hw2; clear hw2))
  go_wp2_with fail
  go_ret
  refine ⟨rfl, ?_⟩
  exact ((H.out.fresh (HD.out.trans' HC1.out)).post HW2.out).since (HD.out.trans' HC1.out)

end Go.Proofs.YtbkefhoapnaciaaGreat.kvs
end

/-
  kv: Do: a batch that may not be; a log that is lost.
-/
section
set_option linter.unusedSimpArgs false
set_option linter.unusedVariables false
namespace Go.Proofs.YtbkefhoapnaciaaGreat.kvs
open Go.RowKit Go.Maps Go.My Go.ChangeMaps disks bufs wals
set_option maxRecDepth 100000

variable {w w' : World} {P : Nat → Prop} {b l q d : Nat} {X X' : DV} {V V' : LV} {m m' : List KV}

set_option maxHeartbeats 1000000 in
theorem do_refuse (w : World) (h : KAt P w b l q d X V m) {B : Nat} {v : Value} {ps : List PV} (hp : Puts w B v ps) (hl : ps.length ≤ 1000000) (he : (encF ps).2 ≠ 0) :
    Calls Tryz.prog 19 #[.pointer (some ⟨b, 0, none⟩), v] w fun e w' => e = .returned (.int .i64 ((encF ps).2 : Int)) ∧ KPost P w w' b l q d X V m := by
  have HNo := Lib.hid (db_no w h.db)
  have HEnc := Lib.hid (encode_any w hp hl)
  have H := Lib.hid h
  obtain ⟨E, hE⟩ : ∃ E, encF ps = E := ⟨_, rfl⟩
  rw [hE] at HEnc he ⊢
  obtain ⟨t, n⟩ := E
  simp only at HEnc he ⊢
  have hei : ¬ (n : Int) = 0 := by omega
  clear h hp hE
  go_enter Tryz.func19, Tryz.ntmps19
  go_wp2_with (first
    | (go_at_call 48; refine HNo.out.mono ?_; rintro e w' ⟨rfl, rfl⟩)
    | (go_at_call 10; refine HEnc.out.mono ?_; rintro e w1 ⟨rfl, hc1⟩; have HC1 := Lib.hid hc1; clear hc1))
  go_ret
  exact ⟨rfl, H.out.same HC1.out⟩

set_option maxHeartbeats 1000000 in
/-- A log that takes nothing, for another cause than that it is full. -/
theorem do_stuck (w : World) (h : KAt P w b l q d X V m) (hV : V.Ok X.B.length) {B : Nat} {v : Value} {ps : List PV} (hp : Puts w B v ps) (hl : ps.length ≤ 1000000) (he : (encF ps).2 = 0) (h15 : V.lost = true) :
    Calls Tryz.prog 19 #[.pointer (some ⟨b, 0, none⟩), v] w fun e w' => e = .returned (.int .i64 15) ∧ KPost P w w' b l q d X V m := by
  have HNo := Lib.hid (db_no w h.db)
  have HEnc := Lib.hid (encode_any w hp hl)
  have H := Lib.hid h
  obtain ⟨E, hE⟩ : ∃ E, encF ps = E := ⟨_, rfl⟩
  rw [hE] at HEnc he
  obtain ⟨t, n⟩ := E
  simp only at HEnc he
  subst he
  have ht : t.length ≤ 1000000000000 := by have := (encF_ok hE).2.2.2.2; omega
  have hadd : ∀ w1, Chg (fun _ => False) w w1 → Calls Tryz.prog 49 #[.pointer (some ⟨l, 0, none⟩), strV t] w1 fun e w' => e = .returned (.int .i64 15) ∧ WAt P w1 w' l d X V := fun w1 hc => by
    have := wat_add (wat_again h.log hc) hV t ht
    rw [show addF X.B.length V t = (15, V) by unfold addF; rw [if_pos h15]] at this
    exact this
  have HAdd := Lib.hid hadd
  have c0 : ∀ w1, Chg (fun _ => False) w w1 → w1.cell? ⟨b, 0, none⟩ = some (.pointer (some ⟨l, 0, none⟩)) := fun w1 hc => hc.cell (cell_of_block h.db.head rfl) id
  have HC0 := Lib.hid c0
  clear h hp hE hadd hV c0
  go_enter Tryz.func19, Tryz.ntmps19
  go_wp2_with (first
    | (go_at_call 48; refine HNo.out.mono ?_; rintro e w' ⟨rfl, rfl⟩)
    | (go_at_call 10; refine HEnc.out.mono ?_; rintro e w1 ⟨rfl, hc1⟩; have k0 := HC0.out _ hc1; have HC1 := Lib.hid hc1; clear hc1)
    | (go_at_call 49; refine (HAdd.out _ HC1.out).mono ?_; rintro e w2 ⟨rfl, hw2⟩; have HW2 := Lib.hid hw2; clear hw2))
  go_ret
  exact ⟨rfl, ((H.out.fresh HC1.out).post HW2.out).since HC1.out⟩

/-- What a call's argument must be: of no block of the database's. -/
def Far (P : Nat → Prop) (w : World) (q : Nat) (v : Value) : Prop := ∀ g, v.ownBlock = some g → ¬ P g ∧ g ≠ q

set_option maxHeartbeats 2000000 in
/-- A log that takes the batch: it is synced; done to the map, if that goes well. -/
theorem do_add (w : World) (h : KAt P w b l q d X V m) (hV : V.Ok X.B.length) (hf : X.fuse ≤ 9223372036854775807) (hL : ∀ j, (X.L j).length < 500000) {B : Nat} {v : Value} {ps : List PV} (hp : Puts w B v ps) (hl : ps.length ≤ 1000000) (hv : Far P w q v) {t : Txt} (he : encF ps = (t, 0))
    (hadd : addF X.B.length V t = (0, V')) (hV' : V'.Ok X.B.length) :
    Calls Tryz.prog 19 #[.pointer (some ⟨b, 0, none⟩), v] w fun e w' => e = .returned (.int .i64 (syncF X V').1) ∧ KPost P w w' b l q d (syncF X V').2.1 (syncF X V').2.2 (if (syncF X V').1 = 0 then applyF m ps else m) := by
  have HNo := Lib.hid (db_no w h.db)
  have HEnc := Lib.hid (encode_any w hp hl)
  rw [he] at HEnc
  have H := Lib.hid h
  have HP := Lib.hid hp
  have hok := encF_ok he
  have ha : ∀ w1, Chg (fun _ => False) w w1 → Calls Tryz.prog 49 #[.pointer (some ⟨l, 0, none⟩), strV t] w1 fun e w' => e = .returned (.int .i64 0) ∧ WAt P w1 w' l d X V' := fun w1 hc => by
    have := wat_add (wat_again h.log hc) hV t (by have := hok.2.2.2.2; omega)
    rw [hadd] at this
    exact this
  obtain ⟨S, hS⟩ : ∃ S, syncF X V' = S := ⟨_, rfl⟩
  have hsy : ∀ w1 w2, WAt P w1 w2 l d X V' → Calls Tryz.prog 50 #[.pointer (some ⟨l, 0, none⟩)] w2 fun e w' => e = .returned (.int .i64 S.1) ∧ WAt P w1 w' l d S.2.1 S.2.2 := fun w1 w2 hw => by
    have := wat_sync hw hV' hf hL
    rw [hS] at this
    exact this
  rw [hS]
  have HAdd := Lib.hid ha
  have HSy := Lib.hid hsy
  have HFar := Lib.hid hv
  have HKey := Lib.hid (show ∀ p ∈ ps, p.key.length ≤ maxLen from fun p hp => by have := (may_key (hok.2.1 p hp)).2.1; unfold maxLen; omega)
  have c0 : ∀ w1, Chg P w w1 → w1.cell? ⟨b, 0, none⟩ = some (.pointer (some ⟨l, 0, none⟩)) ∧ w1.cell? ⟨b, 1, none⟩ = some (.map (some q)) := fun w1 hc => ⟨hc.cell (cell_of_block h.db.head rfl) h.nb, hc.cell (cell_of_block h.db.head rfl) h.nb⟩
  have HC0 := Lib.hid c0
  clear h hp ha hsy hV hV' hf hL hadd he hok hS hv c0
  obtain ⟨z, X3, V3⟩ := S
  simp only at HSy ⊢
  by_cases hz : z = 0
  · subst hz
    rw [if_pos rfl]
    go_enter Tryz.func19, Tryz.ntmps19
    go_wp2_with (first
      | (go_at_call 48; refine HNo.out.mono ?_; rintro e w' ⟨rfl, rfl⟩)
      | (go_at_call 10; refine HEnc.out.mono ?_; rintro e w1 ⟨rfl, hc1⟩; obtain ⟨k0, -⟩ := HC0.out _ (hc1.mono (fun _ _ e => e.elim)); have HC1 := Lib.hid hc1; clear hc1)
      | (go_at_call 49; refine (HAdd.out _ HC1.out).mono ?_; rintro e w2 ⟨rfl, hw2⟩; obtain ⟨k1, -⟩ := HC0.out _ ((HC1.out.mono (fun _ _ e => e.elim)).trans hw2.chg (fun _ _ e => e)); have HW2 := Lib.hid hw2; clear hw2)
      | (go_at_call 50; refine (HSy.out _ _ HW2.out).mono ?_; rintro e w3 ⟨rfl, hw3⟩; obtain ⟨-, k2⟩ := HC0.out _ ((HC1.out.mono (fun _ _ e => e.elim)).trans hw3.chg (fun _ _ e => e)); have HW3 := Lib.hid hw3; clear hw3)
      | (go_at_call 47; refine (apply_any _ ((H.out.fresh HC1.out).step HW3.out).db.map ((HP.out.kept HC1.out (fun _ _ e => e)).kept HW3.out.chg (fun g hg => (HFar.out g hg).1)) HKey.out (by omega)).mono ?_; rintro e w4 ⟨rfl, hm4, hc4⟩; have HM4 := Lib.hid hm4; have HC4 := Lib.hid hc4; clear hm4 hc4))
    go_ret
    refine ⟨rfl, KPost.since ?_ HC1.out⟩
    have hk := ((H.out.fresh HC1.out).step HW3.out).put HC4.out HM4.out
    exact ⟨⟨_, hk, fun _ hj => hj.1⟩, (HW3.out.chg.mono (S' := fun k => P k ∨ k = q) (fun _ _ e => Or.inl e)).trans HC4.out (fun _ _ e => Or.inr e)⟩
  · rw [if_neg hz]
    go_enter Tryz.func19, Tryz.ntmps19
    go_wp2_with (first
      | (go_at_call 48; refine HNo.out.mono ?_; rintro e w' ⟨rfl, rfl⟩)
      | (go_at_call 10; refine HEnc.out.mono ?_; rintro e w1 ⟨rfl, hc1⟩; obtain ⟨k0, -⟩ := HC0.out _ (hc1.mono (fun _ _ e => e.elim)); have HC1 := Lib.hid hc1; clear hc1)
      | (go_at_call 49; refine (HAdd.out _ HC1.out).mono ?_; rintro e w2 ⟨rfl, hw2⟩; obtain ⟨k1, -⟩ := HC0.out _ ((HC1.out.mono (fun _ _ e => e.elim)).trans hw2.chg (fun _ _ e => e)); have HW2 := Lib.hid hw2; clear hw2)
      | (go_at_call 50; refine (HSy.out _ _ HW2.out).mono ?_; rintro e w3 ⟨rfl, hw3⟩; have HW3 := Lib.hid hw3; clear hw3))
    go_ret
    exact ⟨rfl, ((H.out.fresh HC1.out).post HW3.out).since HC1.out⟩

end Go.Proofs.YtbkefhoapnaciaaGreat.kvs
end
