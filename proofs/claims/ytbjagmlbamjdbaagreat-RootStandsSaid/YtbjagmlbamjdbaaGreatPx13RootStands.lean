/-
  kv: snapshot's closure.
-/
import Derived.Test.YtbjagmlbamjdbaaGreatPx0RootStands
import Derived.Test.YtbjagmlbamjdbaaGreatPx1RootStands
import Derived.Test.YtbjagmlbamjdbaaGreatPx6RootStands
import Derived.Test.YtbjagmlbamjdbaaGreatPx7RootStands
import Derived.Test.YtbjagmlbamjdbaaGreatPx12RootStands
import Derived.WalkLawsBesides
import Derived.BigQuiet
import Derived.Lib.LazyBuf
import Derived.Deep.QuietTactic
import Derived.Lib.Hide

section
set_option linter.unusedSimpArgs false
set_option linter.unusedVariables false
namespace Go.Proofs.YtbjagmlbamjdbaaGreat.kvs
open Go.RowKit Go.Maps Go.My Go.ChangeMaps disks bufs wals
set_option maxRecDepth 100000

variable {w w' : World} {N O Z B : Nat} {x : Sn} {nv ov : Value}

/-- What a snapshot in the making holds, in the memory. -/
structure SnAt (w : World) (N O Z B : Nat) (x : Sn) (nv ov : Value) : Prop where
  n : w.heap[N]? = some (.cells #[nv] 66 (0, 0))
  o : w.heap[O]? = some (.cells #[ov] 109 (0, 0))
  z : w.heap[Z]? = some (.cells #[.int .i64 (x.size : Int)] 3 (0, 0))
  now : Puts w B nv x.now
  out : w.ownsRow B 9 1 ov x.out.length (x.out.map strV)
  nB : N < B
  oB : O < B
  zB : Z < B
  no : ¬ N = O
  nz : ¬ N = Z
  oz : ¬ O = Z

theorem row_keptS {base : Nat} {e : TypeId} {size : Nat} {v : Value} {n : Nat} {xs : List Value} (h : w.ownsRow base e size v n xs) {S : Nat → Prop} (hc : Chg S w w') (hn : ∀ k, v.ownBlock = some k → ¬ S k) : w'.ownsRow base e size v n xs := by
  obtain ⟨h1, h2⟩ := h
  refine ⟨h1, ?_⟩
  rcases h2 with h2 | ⟨g, cap, cur, rfl, hb, hg, r⟩
  · exact Or.inl h2
  · exact Or.inr ⟨g, cap, cur, rfl, hb, hc.at hg (hn g rfl), r⟩
theorem SnAt.kept (h : SnAt w N O Z B x nv ov) (hc : Chg (fun _ => False) w w') : SnAt w' N O Z B x nv ov :=
  ⟨hc.at h.n id, hc.at h.o id, hc.at h.z id, h.now.kept hc (fun _ _ h => h), own_kept h.out hc, h.nB, h.oB, h.zB, h.no, h.nz, h.oz⟩
/-- The row of texts and the row of changes are two blocks. -/
theorem SnAt.apart (h : SnAt w N O Z B x nv ov) : ∀ k, nv.ownBlock = some k → ¬ some k = ov.ownBlock := by
  intro k hk e
  obtain ⟨c1, h1⟩ := own_obj h.now hk
  rcases h.out.2 with ⟨rfl, -⟩ | ⟨g, cap, cur, rfl, -, hg, -⟩
  · cases e
  · have : k = g := by simpa [Value.ownBlock] using e
    subst this
    rw [h1] at hg
    simp only [Option.some.injEq, Obj.cells.injEq] at hg
    exact absurd hg.2.1 (by decide)

/-- now is made none, size 0. -/
theorem SnAt.clear (h : SnAt w N O Z B x nv ov) : SnAt ((w.setCell ⟨N, 0, none⟩ (.slice none 0 0)).setCell ⟨Z, 0, none⟩ (.int .i64 0)) N O Z B ⟨x.out, [], 0⟩ (.slice none 0 0) ov := by
  have hc1 : Chg (fun k => k = N ∨ k = Z) w (w.setCell ⟨N, 0, none⟩ (.slice none 0 0)) := Chg.setCell (S := fun k => k = N ∨ k = Z) (Chg.refl _ _) (fun _ => Or.inl rfl) _
  have hc2 : Chg (fun k => k = N ∨ k = Z) w ((w.setCell ⟨N, 0, none⟩ (.slice none 0 0)).setCell ⟨Z, 0, none⟩ (.int .i64 0)) := hc1.setCell (fun _ => Or.inr rfl) _
  refine ⟨?_, hc2.at h.o (by rintro (e | e); exact h.no e.symm; exact h.oz e), ?_, OwnRecs.nil _ _ _ _, row_keptS h.out hc2 (fun k hk hs => by have h1 := (h.out.lt k hk).1; have := h.nB; have := h.zB; omega), h.nB, h.oB, h.zB, h.no, h.nz, h.oz⟩
  · rw [heap_setCell_get _ _ _ _ (show N ≠ Z from h.nz), block_setCell h.n]; rfl
  · rw [block_setCell (by rw [heap_setCell_get _ _ _ _ (show Z ≠ N from fun e => h.nz e.symm)]; exact h.z)]; rfl

theorem SnAt.lows (h : SnAt w N O Z B x nv ov) (hc : Chg (fun k => some k = ov.ownBlock) w w') : w'.heap[N]? = some (.cells #[nv] 66 (0, 0)) ∧ w'.heap[O]? = some (.cells #[ov] 109 (0, 0)) ∧ w'.heap[Z]? = some (.cells #[.int .i64 (x.size : Int)] 3 (0, 0)) := by
  have hl : ∀ k, k < B → ¬ some k = ov.ownBlock := fun k hk e => by have := (h.out.lt k e.symm).1; omega
  exact ⟨hc.at h.n (hl N h.nB), hc.at h.o (hl O h.oB), hc.at h.z (hl Z h.zB)⟩
/-- A text more. -/
theorem SnAt.push (h : SnAt w N O Z B x nv ov) (hc : Chg (fun k => some k = ov.ownBlock) w w') {ov2 : Value} {t : Txt} (ho : w'.ownsRow B 9 1 ov2 (x.out ++ [t]).length ((x.out ++ [t]).map strV)) : SnAt (w'.setCell ⟨O, 0, none⟩ ov2) N O Z B ⟨x.out ++ [t], x.now, x.size⟩ nv ov2 := by
  obtain ⟨h1, h2, h3⟩ := h.lows hc
  have hs : Chg (fun k => k = O) w' (w'.setCell ⟨O, 0, none⟩ ov2) := Chg.setCell (S := fun k => k = O) (Chg.refl _ _) (fun _ => rfl) _
  refine ⟨hs.at h1 h.no, by rw [block_setCell h2]; rfl, hs.at h3 (fun e => h.oz e.symm), (h.now.kept hc h.apart).kept hs (fun k hk e => by have := (h.now.lt hk).1; have := h.oB; omega), row_keptS ho hs (fun k hk e => by have := (ho.lt k hk).1; have := h.oB; omega), h.nB, h.oB, h.zB, h.no, h.nz, h.oz⟩

set_option maxHeartbeats 2000000 in
theorem close_any (w : World) (h : SnAt w N O Z B x nv ov) (hB : B ≤ w.heap.size) (hn : x.now.length ≤ 1000000) (ho : x.out.length ≤ 1000000) :
    Calls Tryz.prog 132 #[.pointer (some ⟨N, 0, none⟩), .pointer (some ⟨O, 0, none⟩), .pointer (some ⟨Z, 0, none⟩)] w fun e w' => e = .returned (.tuple #[]) ∧ (∃ nv' ov', SnAt w' N O Z B x.close nv' ov') ∧ Chg (fun k => k = N ∨ k = O ∨ k = Z ∨ some k = ov.ownBlock) w w' := by
  have H := Lib.hid h
  obtain ⟨oa, cap, rfl, -⟩ := h.now.slice
  rw [List.length_map] at *
  have c0 : w.cell? ⟨N, 0, none⟩ = some (.slice oa x.now.length cap) := cell_of_block h.n rfl
  have c1 : w.cell? ⟨O, 0, none⟩ = some ov := cell_of_block h.o rfl
  have z0 : w.frozen? ⟨N, 0, none⟩ = false := free_of_block h.n
  have z1 : w.frozen? ⟨Z, 0, none⟩ = false := free_of_block h.z
  have c2 : w.cell? ⟨Z, 0, none⟩ = some (.int .i64 (x.size : Int)) := cell_of_block h.z rfl
  have n1 := h.nz
  have n2 : ¬ Z = N := fun e => h.nz e.symm
  have n3 := h.no
  have n4 := h.oz
  by_cases h0 : x.now = []
  · have h0i : ¬ (0 : Int) < (x.now.length : Int) := by rw [h0]; simp
    have HE := Lib.hid h0
    clear h h0
    go_enter Tryz.func132, Tryz.ntmps132
    go_wp2_with fail
    go_end0
    refine ⟨rfl, ⟨_, _, by unfold Sn.close; rw [if_pos HE.out]; exact H.out.clear⟩, ?_⟩
    exact (Chg.setCell (S := fun k => k = N ∨ k = O ∨ k = Z ∨ some k = ov.ownBlock) (Chg.refl _ _) (fun _ => Or.inl rfl) _).setCell (fun _ => Or.inr (Or.inr (Or.inl rfl))) _
  · have h0i : (0 : Int) < (x.now.length : Int) := by have := List.length_pos_iff.2 h0; omega
    have HE := Lib.hid h0
    have HEnc := Lib.hid (encode_any w h.now hn)
    obtain ⟨s, hs⟩ : ∃ s : ByteArray, strV (encF x.now).1 = .string s := ⟨_, rfl⟩
    rw [hs] at HEnc
    have HS := Lib.hid hs
    have HB := Lib.hid hB
    have HOl := Lib.hid ho
    clear h h0 hs hB ho
    go_enter Tryz.func132, Tryz.ntmps132
    go_wp2_with (first
      | (go_at_call 66; refine HEnc.out.mono ?_; rintro e w1 ⟨rfl, hc1⟩
         have HC1 := Lib.hid hc1
         have h1 := H.out.kept hc1
         have hca : Chg (fun _ => False) w1 (w1.alloc (.cells #[.string s] 9)) := (Chg.refl _ _).alloc _
         obtain ⟨ov2, w2, hr2, ho2, hg2, -⟩ := append_strs (ys := [.string s]) (cap := 1) (own_kept h1.out hca) (SlAt.of_own (own_of_block (base := 0) (n := 1) at1 (Nat.zero_le _) rfl (by unfold maxLen; omega))) (by simp [Value.oneCell']) (Nat.le_trans HB.out (Nat.le_trans hc1.size hca.size)) (by rw [List.length_map]; have := HOl.out; simp; omega) 109
         obtain ⟨M2, hM2⟩ : ∃ M, (x.out.map strV ++ [Value.string s]).length = M := ⟨_, rfl⟩
         rw [hM2] at ho2
         obtain ⟨oa2, cap2, rfl⟩ := own_slice ho2
         have hM3 : M2 = (x.out ++ [(encF x.now).1]).length := by rw [← hM2]; simp
         have e2 : x.out.map strV ++ [Value.string s] = (x.out ++ [(encF x.now).1]).map strV := by rw [List.map_append, ← HS.out]; rfl
         rw [e2] at ho2
         have ho3 := ho2
         rw [hM3] at ho3
         have hcg := Chg.of_grown hg2
         obtain ⟨l1, l2, l3⟩ := (h1.kept hca).lows hcg
         have hpu := (h1.kept hca).push hcg ho3
         rw [← hM3] at hpu
         have g1 : w2.cell? ⟨O, 0, none⟩ = some ov := cell_of_block l2 rfl
         have y1 : w2.frozen? ⟨O, 0, none⟩ = false := free_of_block l2
         have g2 : (w2.setCell ⟨O, 0, none⟩ (.slice oa2 M2 cap2)).cell? ⟨N, 0, none⟩ = some (.slice oa x.now.length cap) := cell_of_block hpu.n rfl
         have y2 : (w2.setCell ⟨O, 0, none⟩ (.slice oa2 M2 cap2)).frozen? ⟨N, 0, none⟩ = false := free_of_block hpu.n
         have g3 : (w2.setCell ⟨O, 0, none⟩ (.slice oa2 M2 cap2)).cell? ⟨Z, 0, none⟩ = some (.int .i64 (x.size : Int)) := cell_of_block hpu.z rfl
         have y3 : (w2.setCell ⟨O, 0, none⟩ (.slice oa2 M2 cap2)).frozen? ⟨Z, 0, none⟩ = false := free_of_block hpu.z
         have HPu := Lib.hid hpu
         clear hM2 hM3 e2 ho3 hcg l1 l2 l3 hpu
         have HR2 := Lib.hid hr2
         have HG2 := Lib.hid (Chg.of_grown hg2)
         have H1 := Lib.hid h1
         have HCa := Lib.hid hca
         have d1 : w1.cell? ⟨O, 0, none⟩ = some ov := cell_of_block h1.o rfl
         clear hc1 h1 hca hr2 ho2 hg2)
      | (at_builtin; refine Lib.wpList_append_run _ rfl _ _ _ _ rfl _ _ rfl rfl _ _ HR2.out ?_))
    go_end0
    refine ⟨rfl, ⟨_, _, by unfold Sn.close; rw [if_neg HE.out]; exact HPu.out.clear⟩, ?_⟩
    have hq : Chg (fun k => k = N ∨ k = O ∨ k = Z ∨ some k = ov.ownBlock) w w2 := ((HC1.out.trans' HCa.out).mono (fun _ _ h => h.elim)).trans (HG2.out.mono (S' := fun k => k = N ∨ k = O ∨ k = Z ∨ some k = ov.ownBlock) (fun k _ e => Or.inr (Or.inr (Or.inr e)))) (fun _ _ h => h)
    exact ((hq.setCell (fun _ => Or.inr (Or.inl rfl)) _).setCell (fun _ => Or.inl rfl) _).setCell (fun _ => Or.inr (Or.inr (Or.inl rfl))) _

theorem SnAt.apart' (h : SnAt w N O Z B x nv ov) : ∀ k, ov.ownBlock = some k → ¬ some k = nv.ownBlock := fun k hk e => h.apart k e.symm hk.symm
theorem SnAt.lowsN (h : SnAt w N O Z B x nv ov) (hc : Chg (fun k => some k = nv.ownBlock) w w') : w'.heap[N]? = some (.cells #[nv] 66 (0, 0)) ∧ w'.heap[O]? = some (.cells #[ov] 109 (0, 0)) ∧ w'.heap[Z]? = some (.cells #[.int .i64 (x.size : Int)] 3 (0, 0)) := by
  have hl : ∀ k, k < B → ¬ some k = nv.ownBlock := fun k hk e => by have := (h.now.lt e.symm).1; omega
  exact ⟨hc.at h.n (hl N h.nB), hc.at h.o (hl O h.oB), hc.at h.z (hl Z h.zB)⟩
/-- A change more. -/
theorem SnAt.more (h : SnAt w N O Z B x nv ov) (hc : Chg (fun k => some k = nv.ownBlock) w w') {nv2 : Value} {p : PV} (hp : Puts w' B nv2 (x.now ++ [p])) : SnAt (w'.setCell ⟨N, 0, none⟩ nv2) N O Z B ⟨x.out, x.now ++ [p], x.size⟩ nv2 ov := by
  obtain ⟨h1, h2, h3⟩ := h.lowsN hc
  have hs : Chg (fun k => k = N) w' (w'.setCell ⟨N, 0, none⟩ nv2) := Chg.setCell (S := fun k => k = N) (Chg.refl _ _) (fun _ => rfl) _
  refine ⟨by rw [block_setCell h1]; rfl, hs.at h2 (fun e => h.no e.symm), hs.at h3 (fun e => h.nz e.symm), hp.kept hs (fun k hk e => by have := (hp.lt hk).1; have := h.nB; omega), row_keptS (row_keptS h.out hc h.apart') hs (fun k hk e => by have := (h.out.lt k hk).1; have := h.nB; omega), h.nB, h.oB, h.zB, h.no, h.nz, h.oz⟩
/-- A size. -/
theorem SnAt.sized (h : SnAt w N O Z B x nv ov) (n : Nat) : SnAt (w.setCell ⟨Z, 0, none⟩ (.int .i64 (n : Int))) N O Z B ⟨x.out, x.now, n⟩ nv ov := by
  have hs : Chg (fun k => k = Z) w (w.setCell ⟨Z, 0, none⟩ (.int .i64 (n : Int))) := Chg.setCell (S := fun k => k = Z) (Chg.refl _ _) (fun _ => rfl) _
  exact ⟨hs.at h.n h.nz, hs.at h.o h.oz, by rw [block_setCell h.z]; rfl, h.now.kept hs (fun k hk e => by have := (h.now.lt hk).1; have := h.zB; omega), row_keptS h.out hs (fun k hk e => by have := (h.out.lt k hk).1; have := h.zB; omega), h.nB, h.oB, h.zB, h.no, h.nz, h.oz⟩

theorem snap_out_len : ∀ (l : List PV) (x : Sn), (l.foldl Sn.step x).out.length ≤ x.out.length + l.length
  | [], x => by simp
  | p :: l, x => by
    have h1 := snap_out_len l (x.step p)
    have h2 : (x.step p).out.length ≤ x.out.length + 1 := by
      show (x.room p.bytes.length).out.length ≤ _
      unfold Sn.room Sn.close
      split
      · split
        · exact Nat.le_succ _
        · simp
      · exact Nat.le_succ _
    simp only [List.foldl_cons, List.length_cons]
    omega

end Go.Proofs.YtbjagmlbamjdbaaGreat.kvs
end

/-
  kv: snapshot.
-/
section
set_option linter.unusedSimpArgs false
set_option linter.unusedVariables false
namespace Go.Proofs.YtbjagmlbamjdbaaGreat.kvs
open Go.RowKit Go.Maps Go.My Go.ChangeMaps disks bufs wals
set_option maxRecDepth 100000

variable {w w' : World} {N O Z B : Nat} {x : Sn} {nv ov : Value}

theorem ok_nil : (Sn.mk [] [] 0).Ok [] := ⟨rfl, by simp, by simp, by simp, [], rfl, by simp, rfl⟩
theorem snap_take {L : List PV} {k : Nat} {p : PV} (h : L[k]? = some p) (x : Sn) : (L.take (k + 1)).foldl Sn.step x = ((L.take k).foldl Sn.step x).step p := by
  rw [List.take_add_one, h, Option.toList_some, List.foldl_append]
  rfl

def S4 (N O Z B k : Nat) : Prop := k = N ∨ k = O ∨ k = Z ∨ B ≤ k

set_option maxHeartbeats 2000000 in
theorem snapshot_any (w : World) {b : Nat} {m : List KV} (h : MapAt w b m) (hm : Mays m) (hn : m.length ≤ 100000) :
    Calls Tryz.prog 71 #[.map (some b)] w fun e w' => ∃ v, e = .returned v ∧ w'.ownsRow w.heap.size 9 1 v (snapF m).length ((snapF m).map strV) ∧ Chg (fun _ => False) w w' := by
  have hmf : ∀ (fn : Fn) (first cap : Array Value) (w : World), (Instr.makeFunc fn first cap).run Tryz.prog w = .ok (.func fn first cap) w := fun _ _ _ _ => rfl
  obtain ⟨w0, hw0⟩ : ∃ w0, ((w.alloc (.cells #[.slice none 0 0] 109)).alloc (.cells #[.slice none 0 0] 66)).alloc (.cells #[.int .i64 0] 3) = w0 := ⟨_, rfl⟩
  have hc0 : Chg (fun _ => False) w w0 := by rw [← hw0]; exact (((Chg.refl _ _).alloc _).alloc _).alloc _
  have hz0 : w0.heap.size = w.heap.size + 3 := by rw [← hw0]; simp only [World.size_alloc]
  have hO : w0.heap[w.heap.size]? = some (.cells #[.slice none 0 0] 109 (0, 0)) := by
    rw [← hw0]; simp only [heap_alloc_get, World.size_alloc]; rw [if_neg (by omega), if_neg (by omega), if_pos trivial]
  have hN : w0.heap[w.heap.size + 1]? = some (.cells #[.slice none 0 0] 66 (0, 0)) := by
    rw [← hw0]; simp only [heap_alloc_get, World.size_alloc]; rw [if_neg (by omega), if_pos trivial]
  have hZ : w0.heap[w.heap.size + 1 + 1]? = some (.cells #[.int .i64 0] 3 (0, 0)) := by
    rw [← hw0]; simp only [heap_alloc_get, World.size_alloc]; rw [if_pos trivial]
  have hso := sorted_any w0 (h.kept hc0 id) (by omega)
  have hmayL : ∀ p ∈ (sortF m).map ofKV, p.may = true := fun p hp => by
    obtain ⟨q, hq, rfl⟩ := List.mem_map.1 hp
    exact hm q ((sortF_perm m).mem_iff.1 hq)
  have hsF : snapF m = (((sortF m).map ofKV).foldl Sn.step ⟨[], [], 0⟩).close.out := rfl
  have hLl : ((sortF m).map ofKV).length ≤ 100000 := by rw [List.length_map, sortF_len]; exact hn
  obtain ⟨L, hL⟩ : ∃ L, (sortF m).map ofKV = L := ⟨_, rfl⟩
  rw [hL] at hso hmayL hsF hLl
  have HW0 := Lib.hid hw0
  have HC0 := Lib.hid hc0
  have HZ0 := Lib.hid hz0
  have HBk := Lib.hid (And.intro hO (And.intro hN hZ))
  have HSo := Lib.hid hso
  have HMay := Lib.hid hmayL
  have HSF := Lib.hid hsF
  have HLl := Lib.hid hLl
  clear h hm hn hw0 hc0 hz0 hO hN hZ hso hmayL hsF hLl hL
  go_enter Tryz.func71, Tryz.ntmps71
  go_wp2_with (first
    | (go_at_call 69; rw [HW0.out]; refine HSo.out.mono ?_; rintro e w1 ⟨lv, rfl, hp1, hc1⟩
       obtain ⟨oa, cap, rfl, -⟩ := hp1.slice
       rw [List.length_map] at hp1
       have hsn : SnAt w1 (w.heap.size + 1) w.heap.size (w.heap.size + 1 + 1) w1.heap.size ⟨[], [], 0⟩ (.slice none 0 0) (.slice none 0 0) := ⟨hc1.at HBk.out.2.1 id, hc1.at HBk.out.1 id, hc1.at HBk.out.2.2 id, OwnRecs.nil _ _ _ _, World.ownsRow_nil _ _ _ _, by have := hc1.size; have := HZ0.out; omega, by have := hc1.size; have := HZ0.out; omega, by have := hc1.size; have := HZ0.out; omega, by omega, by omega, by omega⟩
       have HSn := Lib.hid hsn
       have HP1 := Lib.hid hp1
       have HC1 := Lib.hid (HC0.out.trans' hc1)
       have HZ1 := Lib.hid (show w.heap.size + 3 ≤ w1.heap.size by have := hc1.size; have := HZ0.out; omega)
       rw [List.length_map]
       clear hp1 hc1 hsn))
  go_loopw [14] (fun j wr => ∃ (k : Nat) (nv ov : Value), j = .int .i64 k ∧ k ≤ L.length ∧ SnAt wr (w.heap.size + 1) w.heap.size (w.heap.size + 1 + 1) w1.heap.size ((L.take k).foldl Sn.step ⟨[], [], 0⟩) nv ov ∧ Chg (S4 (w.heap.size + 1) w.heap.size (w.heap.size + 1 + 1) w1.heap.size) w1 wr) (fun j _ => L.length - (intOf j).toNat)
  · exact ⟨0, _, _, rfl, Nat.zero_le _, HSn.out, Chg.refl _ _⟩
  obtain ⟨k, nv, ov, rfl, hk, hsn, hc⟩ := hrel
  have HS := Lib.hid hsn
  have HC := Lib.hid hc
  have hok := snapL_ok (L.take k) _ _ ok_nil (fun p hp => HMay.out p (List.mem_of_mem_take hp))
  rw [List.nil_append] at hok
  have hol := snap_out_len (L.take k) ⟨[], [], 0⟩
  have htk : (L.take k).length ≤ 100000 := by rw [List.length_take]; have := HLl.out; omega
  have hol2 : ((L.take k).foldl Sn.step ⟨[], [], 0⟩).out.length ≤ 100000 := Nat.le_trans hol (by simp only [List.length_nil]; omega)
  clear hsn hc hol htk
  by_cases hlt : k < L.length
  · have hki : (k : Int) < (L.length : Int) := by omega
    have hne : ∀ g, Value.ownBlock (.slice oa L.length cap) = some g → ¬ S4 (w.heap.size + 1) w.heap.size (w.heap.size + 1 + 1) w1.heap.size g := fun g hg hs => by
      have h1 := HP1.out.lt (v := .slice oa L.length cap) hg
      have h2 := HZ0.out
      rcases hs with e | e | e | e <;> omega
    obtain ⟨g', cap', p, e1, hr, d0, d1, d2⟩ := put_cells (HP1.out.kept HC.out hne) hlt
    clear hne
    simp only [Value.slice.injEq] at e1
    obtain ⟨rfl, -, -⟩ := e1
    have hpm := HMay.out p (List.mem_of_getElem? hr)
    have hpb := bytes_length p hpm
    obtain ⟨m1, m2, m3, m4⟩ := may_key hpm
    have HCh := Lib.hid (fun w => change_any w p (by omega) (by omega))
    have HPb := Lib.hid hpb
    have Hr := Lib.hid hr
    obtain ⟨sb, hsb⟩ : ∃ s : ByteArray, strV p.bytes = .string s := ⟨_, rfl⟩
    rw [hsb] at HCh
    have HSb := Lib.hid (str_size _ _ hsb)
    unfold PV.row strV at HCh
    unfold strV at d0 d1
    obtain ⟨X, hX⟩ : ∃ X, (L.take k).foldl Sn.step ⟨[], [], 0⟩ = X := ⟨_, rfl⟩
    have hok' : X.Ok (L.take k) := by rw [← hX]; exact hok
    rw [hX] at HS hol2
    have HX := Lib.hid hX
    have HOk := Lib.hid hok'
    have HLx := Lib.hid hok'.few
    have HSx := Lib.hid (show X.size ≤ 4096 by have := hok'.short; omega)
    have HOx := Lib.hid hol2
    have HSz := Lib.hid (show w1.heap.size ≤ (wr.alloc (.cells #[.string ⟨p.key.toArray⟩, .string ⟨p.val.toArray⟩, .bool p.gone] 103)).heap.size from Nat.le_trans HC.out.size (by rw [World.size_alloc]; omega))
    clear hr hpm hpb m1 m2 m3 m4 hsb hX hok hok' hol2
    have hs := HS.out
    obtain ⟨oaN, capN, rfl, -⟩ := hs.now.slice
    rw [List.length_map] at HS
    clear hs
    have HSa := Lib.hid (HS.out.kept ((Chg.refl _ _).alloc (.cells #[.string ⟨p.key.toArray⟩, .string ⟨p.val.toArray⟩, .bool p.gone] 103)))
    have HPa := Lib.hid (block_alloc_new wr (.cells #[.string ⟨p.key.toArray⟩, .string ⟨p.val.toArray⟩, .bool p.gone] 103))
    have i1 : (X.size : Int) ≤ 4096 := by have := HSx.out; omega
    have i2 : (sb.size : Int) ≤ 1111 := by have := HSb.out; have := HPb.out.2; omega
    have hLi : (L.length : Int) ≤ 100000 := by have := HLl.out; omega
    by_cases hA : X.now.length = 64
    · have hAi : (X.now.length : Int) = 64 := by omega
      go_wp2_with (first
        | (go_at_call 123; refine (HCh.out _).mono ?_; rintro e w4 ⟨rfl, hc4⟩
           have h4 := HSa.out.kept hc4
           have d4 := cell_of_block (i := 0) h4.n rfl
           have d5 := cell_of_block (i := 0) h4.z rfl
           have H4 := Lib.hid h4
           have HC4 := Lib.hid hc4
           clear h4 hc4)
        | (go_at_call 132; refine (close_any _ H4.out (Nat.le_trans HSz.out HC4.out.size) (by have := HLx.out; omega) (by have := HOx.out; omega)).mono ?_; rintro e w5 ⟨rfl, ⟨nv5, ov5, h5⟩, hc5⟩
           have hP5 := Lib.hid (hc5.at (HC4.out.at HPa.out id) (show ¬ (wr.heap.size = w.heap.size + 1 ∨ wr.heap.size = w.heap.size ∨ wr.heap.size = w.heap.size + 1 + 1 ∨ some wr.heap.size = ov.ownBlock) by have := HZ1.out; have := HC.out.size; rintro (e | e | e | e); omega; omega; omega; have := (HS.out.out.lt _ e.symm).2; omega))
           have HY5 := Lib.hid h5
           have HCW5 := Lib.hid ((((Chg.refl (S4 (w.heap.size + 1) w.heap.size (w.heap.size + 1 + 1) w1.heap.size) wr).alloc _).trans (HC4.out.mono (fun _ _ h => h.elim)) (fun _ _ h => h)).trans (hc5.mono (S' := S4 (w.heap.size + 1) w.heap.size (w.heap.size + 1 + 1) w1.heap.size) (fun j _ hj => by rcases hj with e | e | e | e; exact Or.inl e; exact Or.inr (Or.inl e); exact Or.inr (Or.inr (Or.inl e)); exact Or.inr (Or.inr (Or.inr (HS.out.out.lt j e.symm).1)))) (fun _ _ h => h))
           have hcl := Sn.Ok.close HOk.out
           have HLc := Lib.hid (show X.close.now.length ≤ 64 by rw [hcl.2]; simp)
           have HSc := Lib.hid (show X.close.size ≤ 4096 by have := hcl.1.short; omega)
           clear h5 hc5 hcl
           have hY := HY5.out
           obtain ⟨oaY, capY, rfl, -⟩ := hY.now.slice
           rw [List.length_map] at hY
           have hBW : w1.heap.size ≤ (w5).heap.size := Nat.le_trans HC.out.size HCW5.out.size
           have hcb : Chg (fun _ => False) w5 ((w5).alloc (.cells #[.string ⟨p.key.toArray⟩, .string ⟨p.val.toArray⟩, .bool p.gone] 103)) := (Chg.refl _ _).alloc _
           obtain ⟨v8, w8, hr8, hp8, hg8⟩ := append_putO (p := p) (nb := (w5).heap.size) (hY.now.kept hcb (fun _ _ h => h)) (fun j u hu => cell_of_block (block_alloc_new _ _) (by simpa [PV.row, strV] using hu)) (Nat.le_trans hBW hcb.size) (by have := HLc.out; omega) 66
           obtain ⟨oa8, cap8, rfl, -⟩ := hp8.slice
           obtain ⟨M8, hM8⟩ : ∃ M, (((X.close).now ++ [p]).map PV.row).length = M := ⟨_, rfl⟩
           rw [hM8] at hp8 hr8
           have hm := (hY.kept hcb).more hg8 hp8
           obtain ⟨l1, l2, l3⟩ := (hY.kept hcb).lowsN hg8
           have hm2 := hm.sized ((X.close).size + p.bytes.length)
           have hcast : (((X.close).size + p.bytes.length : Nat) : Int) = ((X.close).size : Int) + (sb.size : Int) := by have := HSb.out; omega
           rw [hcast] at hm2
           have a0 : (w5).cell? ⟨w.heap.size + 1, 0, none⟩ = some (.slice oaY (X.close).now.length capY) := cell_of_block hY.n rfl
           have a1 : (w5).cell? ⟨wr.heap.size, 0, none⟩ = some (.string ⟨p.key.toArray⟩) := cell_of_block hP5.out rfl
           have a2 : (w5).cell? ⟨wr.heap.size, 1, none⟩ = some (.string ⟨p.val.toArray⟩) := cell_of_block hP5.out rfl
           have a3 : (w5).cell? ⟨wr.heap.size, 2, none⟩ = some (.bool p.gone) := cell_of_block hP5.out rfl
           have b0 : w8.cell? ⟨w.heap.size + 1, 0, none⟩ = some (.slice oaY (X.close).now.length capY) := cell_of_block l1 rfl
           have b1 : w8.frozen? ⟨w.heap.size + 1, 0, none⟩ = false := free_of_block l1
           have b2 : (w8.setCell ⟨w.heap.size + 1, 0, none⟩ (.slice oa8 M8 cap8)).cell? ⟨w.heap.size + 1 + 1, 0, none⟩ = some (.int .i64 ((X.close).size : Int)) := cell_of_block hm.z rfl
           have b3 : (w8.setCell ⟨w.heap.size + 1, 0, none⟩ (.slice oa8 M8 cap8)).frozen? ⟨w.heap.size + 1 + 1, 0, none⟩ = false := free_of_block hm.z
           have hcA : Chg (S4 (w.heap.size + 1) w.heap.size (w.heap.size + 1 + 1) w1.heap.size) wr w8 := (HCW5.out.trans (hcb.mono (fun _ _ h => h.elim)) (fun _ _ h => h)).trans (hg8.mono (S' := S4 (w.heap.size + 1) w.heap.size (w.heap.size + 1 + 1) w1.heap.size) (fun j _ e => Or.inr (Or.inr (Or.inr (hY.now.lt e.symm).1)))) (fun _ _ h => h)
           have hcB := (hcA.setCell (p := ⟨w.heap.size + 1, 0, none⟩) (fun _ => Or.inl rfl) (.slice oa8 M8 cap8)).setCell (p := ⟨w.heap.size + 1 + 1, 0, none⟩) (fun _ => Or.inr (Or.inr (Or.inl rfl))) (.int .i64 (((X.close).size : Int) + (sb.size : Int)))
           have HM2 := Lib.hid hm2
           have HR8 := Lib.hid hr8
           have HCB := Lib.hid hcB
           have j1 : ((X.close).size : Int) ≤ 4096 := by have := HSc.out; omega
           have j2 : (sb.size : Int) ≤ 1111 := by have := HSb.out; have := HPb.out.2; omega
           clear hY hBW hcb hr8 hp8 hg8 hM8 hm l1 l2 l3 hm2 hcast hcA hcB
           skip)
        | (at_builtin; refine Lib.wpList_append_run _ rfl _ _ _ _ rfl _ _ rfl rfl _ _ HR8.out ?_))
      have hst : X.step p = ⟨(X.close).out, (X.close).now ++ [p], (X.close).size + p.bytes.length⟩ := by
        unfold Sn.step
        rw [show X.room p.bytes.length = X.close from (by unfold Sn.room; rw [if_pos (Or.inl hA)])]
      have hfold : (L.take (k + 1)).foldl Sn.step ⟨[], [], 0⟩ = ⟨(X.close).out, (X.close).now ++ [p], (X.close).size + p.bytes.length⟩ := by rw [snap_take Hr.out, HX.out, hst]
      refine ⟨⟨k + 1, _, _, by go_num, hlt, (congrArg (fun z => SnAt _ _ _ _ _ z _ _) hfold).mpr HM2.out, HC.out.trans HCB.out (fun _ _ h => h)⟩, puts_meas hlt⟩
    · have hAi : ¬ (X.now.length : Int) = 64 := by omega
      have hAb : ((X.now.length : Int) == 64) = false := beq_eq_false_iff_ne.2 hAi
      by_cases hBg : 4096 < 1 + X.size + p.bytes.length
      · have hBi : (4096 : Int) < 1 + (X.size : Int) + (sb.size : Int) := by have := HSb.out; omega
        go_wp2_with (first
          | (go_at_call 123; refine (HCh.out _).mono ?_; rintro e w4 ⟨rfl, hc4⟩
             have h4 := HSa.out.kept hc4
             have d4 := cell_of_block (i := 0) h4.n rfl
             have d5 := cell_of_block (i := 0) h4.z rfl
             have H4 := Lib.hid h4
             have HC4 := Lib.hid hc4
             clear h4 hc4)
          | (go_at_call 132; refine (close_any _ H4.out (Nat.le_trans HSz.out HC4.out.size) (by have := HLx.out; omega) (by have := HOx.out; omega)).mono ?_; rintro e w5 ⟨rfl, ⟨nv5, ov5, h5⟩, hc5⟩
             have hP5 := Lib.hid (hc5.at (HC4.out.at HPa.out id) (show ¬ (wr.heap.size = w.heap.size + 1 ∨ wr.heap.size = w.heap.size ∨ wr.heap.size = w.heap.size + 1 + 1 ∨ some wr.heap.size = ov.ownBlock) by have := HZ1.out; have := HC.out.size; rintro (e | e | e | e); omega; omega; omega; have := (HS.out.out.lt _ e.symm).2; omega))
             have HY5 := Lib.hid h5
             have HCW5 := Lib.hid ((((Chg.refl (S4 (w.heap.size + 1) w.heap.size (w.heap.size + 1 + 1) w1.heap.size) wr).alloc _).trans (HC4.out.mono (fun _ _ h => h.elim)) (fun _ _ h => h)).trans (hc5.mono (S' := S4 (w.heap.size + 1) w.heap.size (w.heap.size + 1 + 1) w1.heap.size) (fun j _ hj => by rcases hj with e | e | e | e; exact Or.inl e; exact Or.inr (Or.inl e); exact Or.inr (Or.inr (Or.inl e)); exact Or.inr (Or.inr (Or.inr (HS.out.out.lt j e.symm).1)))) (fun _ _ h => h))
             have hcl := Sn.Ok.close HOk.out
             have HLc := Lib.hid (show X.close.now.length ≤ 64 by rw [hcl.2]; simp)
             have HSc := Lib.hid (show X.close.size ≤ 4096 by have := hcl.1.short; omega)
             clear h5 hc5 hcl
             have hY := HY5.out
             obtain ⟨oaY, capY, rfl, -⟩ := hY.now.slice
             rw [List.length_map] at hY
             have hBW : w1.heap.size ≤ (w5).heap.size := Nat.le_trans HC.out.size HCW5.out.size
             have hcb : Chg (fun _ => False) w5 ((w5).alloc (.cells #[.string ⟨p.key.toArray⟩, .string ⟨p.val.toArray⟩, .bool p.gone] 103)) := (Chg.refl _ _).alloc _
             obtain ⟨v8, w8, hr8, hp8, hg8⟩ := append_putO (p := p) (nb := (w5).heap.size) (hY.now.kept hcb (fun _ _ h => h)) (fun j u hu => cell_of_block (block_alloc_new _ _) (by simpa [PV.row, strV] using hu)) (Nat.le_trans hBW hcb.size) (by have := HLc.out; omega) 66
             obtain ⟨oa8, cap8, rfl, -⟩ := hp8.slice
             obtain ⟨M8, hM8⟩ : ∃ M, (((X.close).now ++ [p]).map PV.row).length = M := ⟨_, rfl⟩
             rw [hM8] at hp8 hr8
             have hm := (hY.kept hcb).more hg8 hp8
             obtain ⟨l1, l2, l3⟩ := (hY.kept hcb).lowsN hg8
             have hm2 := hm.sized ((X.close).size + p.bytes.length)
             have hcast : (((X.close).size + p.bytes.length : Nat) : Int) = ((X.close).size : Int) + (sb.size : Int) := by have := HSb.out; omega
             rw [hcast] at hm2
             have a0 : (w5).cell? ⟨w.heap.size + 1, 0, none⟩ = some (.slice oaY (X.close).now.length capY) := cell_of_block hY.n rfl
             have a1 : (w5).cell? ⟨wr.heap.size, 0, none⟩ = some (.string ⟨p.key.toArray⟩) := cell_of_block hP5.out rfl
             have a2 : (w5).cell? ⟨wr.heap.size, 1, none⟩ = some (.string ⟨p.val.toArray⟩) := cell_of_block hP5.out rfl
             have a3 : (w5).cell? ⟨wr.heap.size, 2, none⟩ = some (.bool p.gone) := cell_of_block hP5.out rfl
             have b0 : w8.cell? ⟨w.heap.size + 1, 0, none⟩ = some (.slice oaY (X.close).now.length capY) := cell_of_block l1 rfl
             have b1 : w8.frozen? ⟨w.heap.size + 1, 0, none⟩ = false := free_of_block l1
             have b2 : (w8.setCell ⟨w.heap.size + 1, 0, none⟩ (.slice oa8 M8 cap8)).cell? ⟨w.heap.size + 1 + 1, 0, none⟩ = some (.int .i64 ((X.close).size : Int)) := cell_of_block hm.z rfl
             have b3 : (w8.setCell ⟨w.heap.size + 1, 0, none⟩ (.slice oa8 M8 cap8)).frozen? ⟨w.heap.size + 1 + 1, 0, none⟩ = false := free_of_block hm.z
             have hcA : Chg (S4 (w.heap.size + 1) w.heap.size (w.heap.size + 1 + 1) w1.heap.size) wr w8 := (HCW5.out.trans (hcb.mono (fun _ _ h => h.elim)) (fun _ _ h => h)).trans (hg8.mono (S' := S4 (w.heap.size + 1) w.heap.size (w.heap.size + 1 + 1) w1.heap.size) (fun j _ e => Or.inr (Or.inr (Or.inr (hY.now.lt e.symm).1)))) (fun _ _ h => h)
             have hcB := (hcA.setCell (p := ⟨w.heap.size + 1, 0, none⟩) (fun _ => Or.inl rfl) (.slice oa8 M8 cap8)).setCell (p := ⟨w.heap.size + 1 + 1, 0, none⟩) (fun _ => Or.inr (Or.inr (Or.inl rfl))) (.int .i64 (((X.close).size : Int) + (sb.size : Int)))
             have HM2 := Lib.hid hm2
             have HR8 := Lib.hid hr8
             have HCB := Lib.hid hcB
             have j1 : ((X.close).size : Int) ≤ 4096 := by have := HSc.out; omega
             have j2 : (sb.size : Int) ≤ 1111 := by have := HSb.out; have := HPb.out.2; omega
             clear hY hBW hcb hr8 hp8 hg8 hM8 hm l1 l2 l3 hm2 hcast hcA hcB
             skip)
          | (at_builtin; refine Lib.wpList_append_run _ rfl _ _ _ _ rfl _ _ rfl rfl _ _ HR8.out ?_))
        have hst : X.step p = ⟨(X.close).out, (X.close).now ++ [p], (X.close).size + p.bytes.length⟩ := by
          unfold Sn.step
          rw [show X.room p.bytes.length = X.close from (by unfold Sn.room; rw [if_pos (Or.inr hBg)])]
        have hfold : (L.take (k + 1)).foldl Sn.step ⟨[], [], 0⟩ = ⟨(X.close).out, (X.close).now ++ [p], (X.close).size + p.bytes.length⟩ := by rw [snap_take Hr.out, HX.out, hst]
        refine ⟨⟨k + 1, _, _, by go_num, hlt, (congrArg (fun z => SnAt _ _ _ _ _ z _ _) hfold).mpr HM2.out, HC.out.trans HCB.out (fun _ _ h => h)⟩, puts_meas hlt⟩
      · have hBi : ¬ (4096 : Int) < 1 + (X.size : Int) + (sb.size : Int) := by have := HSb.out; omega
        go_wp2_with (first
          | (go_at_call 123; refine (HCh.out _).mono ?_; rintro e w4 ⟨rfl, hc4⟩
             have d5 := cell_of_block (i := 0) (HSa.out.kept hc4).z rfl
             have HY4 := Lib.hid (HSa.out.kept hc4)
             have HP4 := Lib.hid (hc4.at HPa.out id)
             have HCW4 := Lib.hid (((Chg.refl (S4 (w.heap.size + 1) w.heap.size (w.heap.size + 1 + 1) w1.heap.size) wr).alloc (.cells #[.string ⟨p.key.toArray⟩, .string ⟨p.val.toArray⟩, .bool p.gone] 103)).trans (hc4.mono (fun _ _ h => h.elim)) (fun _ _ h => h))
             have hY := HY4.out
             skip
             skip
             have hBW : w1.heap.size ≤ (w4).heap.size := Nat.le_trans HC.out.size HCW4.out.size
             have hcb : Chg (fun _ => False) w4 ((w4).alloc (.cells #[.string ⟨p.key.toArray⟩, .string ⟨p.val.toArray⟩, .bool p.gone] 103)) := (Chg.refl _ _).alloc _
             obtain ⟨v8, w8, hr8, hp8, hg8⟩ := append_putO (p := p) (nb := (w4).heap.size) (hY.now.kept hcb (fun _ _ h => h)) (fun j u hu => cell_of_block (block_alloc_new _ _) (by simpa [PV.row, strV] using hu)) (Nat.le_trans hBW hcb.size) (by have := HLx.out; omega) 66
             obtain ⟨oa8, cap8, rfl, -⟩ := hp8.slice
             obtain ⟨M8, hM8⟩ : ∃ M, (((X).now ++ [p]).map PV.row).length = M := ⟨_, rfl⟩
             rw [hM8] at hp8 hr8
             have hm := (hY.kept hcb).more hg8 hp8
             obtain ⟨l1, l2, l3⟩ := (hY.kept hcb).lowsN hg8
             have hm2 := hm.sized ((X).size + p.bytes.length)
             have hcast : (((X).size + p.bytes.length : Nat) : Int) = ((X).size : Int) + (sb.size : Int) := by have := HSb.out; omega
             rw [hcast] at hm2
             have a0 : (w4).cell? ⟨w.heap.size + 1, 0, none⟩ = some (.slice oaN (X).now.length capN) := cell_of_block hY.n rfl
             have a1 : (w4).cell? ⟨wr.heap.size, 0, none⟩ = some (.string ⟨p.key.toArray⟩) := cell_of_block HP4.out rfl
             have a2 : (w4).cell? ⟨wr.heap.size, 1, none⟩ = some (.string ⟨p.val.toArray⟩) := cell_of_block HP4.out rfl
             have a3 : (w4).cell? ⟨wr.heap.size, 2, none⟩ = some (.bool p.gone) := cell_of_block HP4.out rfl
             have b0 : w8.cell? ⟨w.heap.size + 1, 0, none⟩ = some (.slice oaN (X).now.length capN) := cell_of_block l1 rfl
             have b1 : w8.frozen? ⟨w.heap.size + 1, 0, none⟩ = false := free_of_block l1
             have b2 : (w8.setCell ⟨w.heap.size + 1, 0, none⟩ (.slice oa8 M8 cap8)).cell? ⟨w.heap.size + 1 + 1, 0, none⟩ = some (.int .i64 ((X).size : Int)) := cell_of_block hm.z rfl
             have b3 : (w8.setCell ⟨w.heap.size + 1, 0, none⟩ (.slice oa8 M8 cap8)).frozen? ⟨w.heap.size + 1 + 1, 0, none⟩ = false := free_of_block hm.z
             have hcA : Chg (S4 (w.heap.size + 1) w.heap.size (w.heap.size + 1 + 1) w1.heap.size) wr w8 := (HCW4.out.trans (hcb.mono (fun _ _ h => h.elim)) (fun _ _ h => h)).trans (hg8.mono (S' := S4 (w.heap.size + 1) w.heap.size (w.heap.size + 1 + 1) w1.heap.size) (fun j _ e => Or.inr (Or.inr (Or.inr (hY.now.lt e.symm).1)))) (fun _ _ h => h)
             have hcB := (hcA.setCell (p := ⟨w.heap.size + 1, 0, none⟩) (fun _ => Or.inl rfl) (.slice oa8 M8 cap8)).setCell (p := ⟨w.heap.size + 1 + 1, 0, none⟩) (fun _ => Or.inr (Or.inr (Or.inl rfl))) (.int .i64 (((X).size : Int) + (sb.size : Int)))
             have HM2 := Lib.hid hm2
             have HR8 := Lib.hid hr8
             have HCB := Lib.hid hcB
             have j1 : ((X).size : Int) ≤ 4096 := by have := HSx.out; omega
             have j2 : (sb.size : Int) ≤ 1111 := by have := HSb.out; have := HPb.out.2; omega
             clear hY hBW hcb hr8 hp8 hg8 hM8 hm l1 l2 l3 hm2 hcast hcA hcB
             clear hc4)
          | (at_builtin; refine Lib.wpList_append_run _ rfl _ _ _ _ rfl _ _ rfl rfl _ _ HR8.out ?_))
        have hst : X.step p = ⟨(X).out, (X).now ++ [p], (X).size + p.bytes.length⟩ := by
          unfold Sn.step
          rw [show X.room p.bytes.length = X from (by unfold Sn.room; rw [if_neg (fun h => by rcases h with h | h; exact hA h; exact hBg h)])]
        have hfold : (L.take (k + 1)).foldl Sn.step ⟨[], [], 0⟩ = ⟨(X).out, (X).now ++ [p], (X).size + p.bytes.length⟩ := by rw [snap_take Hr.out, HX.out, hst]
        refine ⟨⟨k + 1, _, _, by go_num, hlt, (congrArg (fun z => SnAt _ _ _ _ _ z _ _) hfold).mpr HM2.out, HC.out.trans HCB.out (fun _ _ h => h)⟩, puts_meas hlt⟩
  · have hki : ¬ (k : Int) < (L.length : Int) := by omega
    obtain rfl : k = L.length := by omega
    rw [List.take_length] at HS hok hol2
    have HCl := Lib.hid (close_any wr HS.out HC.out.size (by have := hok.few; omega) (by omega))
    clear hok hol2
    go_wp2_with (first
      | (go_at_call 132; refine HCl.out.mono ?_; rintro e w5 ⟨rfl, ⟨nv5, ov5, h5⟩, hc5⟩
         have c5 : w5.cell? ⟨w.heap.size, 0, none⟩ = some ov5 := cell_of_block h5.o rfl
         have H5 := Lib.hid h5
         have HC5 := Lib.hid hc5
         clear h5 hc5))
    go_ret
    have hcS : Chg (S4 (w.heap.size + 1) w.heap.size (w.heap.size + 1 + 1) w1.heap.size) wr w5 := HC5.out.mono (fun j _ hj => by rcases hj with e | e | e | e; exact Or.inl e; exact Or.inr (Or.inl e); exact Or.inr (Or.inr (Or.inl e)); exact Or.inr (Or.inr (Or.inr (HS.out.out.lt j e.symm).1)))
    refine ⟨_, rfl, ?_, HC1.out.new (HC.out.trans hcS (fun _ _ h => h)) (fun i hi => by have := HZ1.out; rcases hi with e | e | e | e <;> omega)⟩
    rw [HSF.out]
    exact own_lower H5.out.out (by have := HZ1.out; omega)

end Go.Proofs.YtbjagmlbamjdbaaGreat.kvs
end

/-
  disk: what each method does to a disk that no call made (nil, or a plain Disk{}).
-/
section
set_option linter.unusedSimpArgs false
set_option linter.unusedVariables false
namespace Go.Proofs.YtbjagmlbamjdbaaGreat.disks
set_option maxRecDepth 100000
open Go.RowKit Go.My

set_option linter.unusedVariables false
end Go.Proofs.YtbjagmlbamjdbaaGreat.disks
end

/-
  wal: what each method does to a log that no call made (nil, or a plain Log{}); Open of what is no disk.
-/
section
set_option linter.unusedSimpArgs false
set_option linter.unusedVariables false
namespace Go.Proofs.YtbjagmlbamjdbaaGreat.wals
set_option maxRecDepth 100000
open Go.RowKit Go.My disks

def NoLog (w : World) (p : Option Addr) : Prop := p = none ∨ ∃ T, p = some ⟨T, 0, none⟩ ∧ w.cell? ⟨T, 0, none⟩ = some (.pointer none)
theorem NoLog.kept {w w' : World} {p : Option Addr} (h : NoLog w p) (hc : Chg (fun _ => False) w w') : NoLog w' p := by
  rcases h with h | ⟨T, h1, h2⟩
  · exact Or.inl h
  · exact Or.inr ⟨T, h1, hc.cell h2 id⟩

set_option linter.unusedVariables false
end Go.Proofs.YtbjagmlbamjdbaaGreat.wals
end

/-
  kv: what each method does to a database that no call made; none, Len, Get of one that is.
-/
section
set_option linter.unusedSimpArgs false
set_option linter.unusedVariables false
namespace Go.Proofs.YtbjagmlbamjdbaaGreat.kvs
open Go.RowKit Go.Maps Go.My Go.ChangeMaps disks bufs wals
set_option maxRecDepth 100000
set_option linter.unusedVariables false

variable {w w' : World} {b q l : Nat} {m : List KV}

def NoDb (w : World) (p : Option Addr) : Prop := p = none ∨ ∃ T, p = some ⟨T, 0, none⟩ ∧ w.cell? ⟨T, 0, none⟩ = some (.pointer none)
theorem NoDb.kept {p : Option Addr} (h : NoDb w p) (hc : Chg (fun _ => False) w w') : NoDb w' p := by
  rcases h with h | ⟨T, h1, h2⟩
  · exact Or.inl h
  · exact Or.inr ⟨T, h1, hc.cell h2 id⟩

/-- A database's two words. -/
structure DbIs (w : World) (b l q : Nat) (m : List KV) : Prop where
  head : w.heap[b]? = some (.cells #[.pointer (some ⟨l, 0, none⟩), .map (some q)] 118 (0, 0))
  map : MapAt w q m
theorem DbIs.kept {S : Nat → Prop} (h : DbIs w b l q m) (hc : Chg S w w') (h1 : ¬ S b) (h2 : ¬ S q) : DbIs w' b l q m := ⟨hc.at h.head h1, h.map.kept hc h2⟩
theorem DbIs.fresh (h : DbIs w b l q m) (hc : Chg (fun _ => False) w w') : DbIs w' b l q m := h.kept hc id id

theorem db_no (w : World) (h : DbIs w b l q m) : Calls Tryz.prog 65 #[.pointer (some ⟨b, 0, none⟩)] w fun e w' => e = .returned (.bool false) ∧ w = w' := by
  have c0 : w.cell? ⟨b, 0, none⟩ = some (.pointer (some ⟨l, 0, none⟩)) := cell_of_block h.head rfl
  clear h
  go_enter Tryz.func65, Tryz.ntmps65
  go_wp2_with fail
  go_ret
  exact ⟨rfl, rfl⟩

theorem len_any (w : World) (h : DbIs w b l q m) : Calls Tryz.prog 100 #[.pointer (some ⟨b, 0, none⟩)] w fun e w' => e = .returned (.int .i64 (m.length : Int)) ∧ w = w' := by
  have HNo := Lib.hid (db_no w h)
  have c1 : w.cell? ⟨b, 1, none⟩ = some (.map (some q)) := cell_of_block h.head rfl
  have hlen : (Builtin.len_ #[116] 3 #[.map (some q)]).run Tryz.prog w = .ok (.int .i64 m.length) w := h.map.len Tryz.underlying116 _
  clear h
  go_enter Tryz.func100, Tryz.ntmps100
  go_wp2_with (first
    | (go_at_call 65; refine HNo.out.mono ?_; rintro e w' ⟨rfl, rfl⟩))
  go_ret
  exact ⟨rfl, rfl⟩

theorem zero_str (w : World) : (zeroValue 9).run Tryz.prog w = .ok (strV []) w := Tryz.zeroValue9 w

theorem get_any (w : World) (h : DbIs w b l q m) (k : Txt) (hk : k.length ≤ maxLen) : Calls Tryz.prog 99 #[.pointer (some ⟨b, 0, none⟩), strV k] w fun e w' => e = .returned (.tuple #[strV ((mget m k).getD []), .bool (mget m k).isSome]) ∧ w = w' := by
  have HNo := Lib.hid (db_no w h)
  have c1 : w.cell? ⟨b, 1, none⟩ = some (.map (some q)) := cell_of_block h.head rfl
  have HM := Lib.hid h.map
  have hres : lookRes true (strV []) strV (mget m k) = .tuple #[strV ((mget m k).getD []), .bool (mget m k).isSome] := by cases mget m k <;> rfl
  have HRes := Lib.hid hres
  clear h hres
  go_enter Tryz.func99, Tryz.ntmps99
  go_wp2_with (first
    | (go_at_call 65; refine HNo.out.mono ?_; rintro e w' ⟨rfl, rfl⟩)
    | (at_lookup; refine wpList_look HM.out rfl _ _ _ _ rfl _ Tryz.underlying116 (zero_str _) rfl k rfl hk HRes.out ?_))
  go_ret2
  exact ⟨rfl, rfl⟩

end Go.Proofs.YtbjagmlbamjdbaaGreat.kvs
end

/-
  kv: Scan.
-/
section
set_option linter.unusedSimpArgs false
set_option linter.unusedVariables false
namespace Go.Proofs.YtbjagmlbamjdbaaGreat.kvs
open Go.RowKit Go.Maps Go.My Go.ChangeMaps disks bufs wals
set_option maxRecDepth 100000

variable {w w' : World} {b q l : Nat} {m : List KV}

def inScan (fr to : Txt) (p : KV) : Bool := !ltB p.1 fr && (decide (to = []) || ltB p.1 to)
def scanF (m : List KV) (fr to : Txt) : List KV := (sortF m).filter (inScan fr to)

set_option maxHeartbeats 2000000 in
theorem scan_any (w : World) (h : DbIs w b l q m) (hn : m.length ≤ 1000000) (fr to : Txt) :
    Calls Tryz.prog 97 #[.pointer (some ⟨b, 0, none⟩), strV fr, strV to] w fun e w' => ∃ v, e = .returned v ∧ Puts w' w.heap.size v ((scanF m fr to).map ofKV) ∧ Chg (fun _ => False) w w' := by
  have HNo := Lib.hid (db_no w h)
  have c1 : w.cell? ⟨b, 1, none⟩ = some (.map (some q)) := cell_of_block h.head rfl
  have HSo := Lib.hid (sorted_any w h.map hn)
  have hLl : (sortF m).length ≤ 1000000 := by rw [sortF_len]; exact hn
  unfold scanF
  obtain ⟨L, hL⟩ : ∃ L, sortF m = L := ⟨_, rfl⟩
  rw [hL] at HSo hLl ⊢
  obtain ⟨sf, hsf⟩ : ∃ s : ByteArray, strV fr = .string s := ⟨_, rfl⟩
  obtain ⟨st, hst⟩ : ∃ s : ByteArray, strV to = .string s := ⟨_, rfl⟩
  have esf : sf.toList = fr := by rw [strV_string fr sf hsf, Lib.toList_data]
  have est : st.toList = to := by rw [strV_string to st hst, Lib.toList_data]
  rw [hsf, hst]
  clear h hL hsf hst hn
  go_enter Tryz.func97, Tryz.ntmps97
  go_wp2_with (first
    | (go_at_call 65; refine HNo.out.mono ?_; rintro e w' ⟨rfl, rfl⟩)
    | (go_at_call 69; refine HSo.out.mono ?_; rintro e w1 ⟨lv, rfl, hp1, hc1⟩
       obtain ⟨oa, cap, rfl, -⟩ := hp1.slice
       rw [List.length_map, List.length_map]
       have HP1 := Lib.hid hp1
       have HC1 := Lib.hid hc1
       have HZ1 := Lib.hid hc1.size
       clear hp1 hc1))
  go_loopw [7, 18] (fun u j wr => ∃ k : Nat, j = .int .i64 k ∧ k ≤ L.length ∧ Puts wr w1.heap.size u (((L.take k).filter (inScan fr to)).map ofKV) ∧ Chg (fun _ => False) w1 wr) (fun _ j _ => L.length - (intOf j).toNat)
  · exact ⟨0, rfl, Nat.zero_le _, OwnRecs.nil _ _ _ _, Chg.refl _ _⟩
  obtain ⟨k, rfl, hk, ho, hc⟩ := hrel
  have HO := Lib.hid ho
  have HC := Lib.hid hc
  clear ho hc
  by_cases hlt : k < L.length
  · have hki : (k : Int) < (L.length : Int) := by omega
    obtain ⟨g', cap', p, e1, hr, d0, d1, d2⟩ := put_cells (HP1.out.kept HC.out (fun _ _ h => h)) (by rw [List.length_map]; exact hlt)
    simp only [Value.slice.injEq] at e1
    obtain ⟨rfl, -, -⟩ := e1
    rw [List.getElem?_map, List.getElem?_eq_getElem hlt, Option.map_some, Option.some.injEq] at hr
    obtain ⟨⟨pk, pv⟩, hp⟩ : ∃ x, L[k] = x := ⟨_, rfl⟩
    have hgk : L[k]? = some (pk, pv) := by rw [List.getElem?_eq_getElem hlt, hp]
    rw [hp] at hr
    subst hr
    have HGk := Lib.hid hgk
    clear hp hgk
    unfold ofKV at d0 d1 d2
    simp only at d0 d1 d2
    obtain ⟨sk, hsk⟩ : ∃ s : ByteArray, strV pk = .string s := ⟨_, rfl⟩
    obtain ⟨sv, hsv⟩ : ∃ s : ByteArray, strV pv = .string s := ⟨_, rfl⟩
    have esk : sk.toList = pk := by rw [strV_string pk sk hsk, Lib.toList_data]
    rw [hsk] at d0
    rw [hsv] at d1
    have q1 : Op.bytesLess sk.toList sf.toList = ltB pk fr := by rw [esk, esf]; rfl
    have q2 : Op.bytesLess sk.toList st.toList = ltB pk to := by rw [esk, est]; rfl
    have q3 : (st.toList == ([] : List UInt8)) = decide (to = []) := by
      rw [est]
      by_cases h : to = []
      · simp [h]
      · simp [h]
    have hca : Chg (fun _ => False) wr (wr.alloc (.cells #[.string sk, .string sv, .bool false] 103)) := (Chg.refl _ _).alloc _
    have hcb := hca.alloc (.cells #[.string sk, .string sv, .bool false] 103)
    have hzz : w1.heap.size ≤ wr.heap.size := HC.out.size
    obtain ⟨v8, w8, hr8, hp8, hg8⟩ := append_putO (p := ofKV (pk, pv)) (nb := wr.heap.size + 1) (HO.out.kept hcb (fun _ _ h => h)) (fun j u hu => by
      have hb : ((wr.alloc (.cells #[.string sk, .string sv, .bool false] 103)).alloc (.cells #[.string sk, .string sv, .bool false] 103)).heap[wr.heap.size + 1]? = some (.cells #[.string sk, .string sv, .bool false] 103 (0, 0)) := by
        have := block_alloc_new (wr.alloc (.cells #[.string sk, .string sv, .bool false] 103)) (.cells #[.string sk, .string sv, .bool false] 103)
        rw [World.size_alloc] at this
        exact this
      refine cell_of_block hb ?_
      have e : (ofKV (pk, pv)).row = [.string sk, .string sv, .bool false] := by unfold ofKV PV.row; rw [hsk, hsv]
      rw [e] at hu
      simpa using hu) (Nat.le_trans hzz hcb.size) (by rw [List.length_map]; have := List.length_filter_le (inScan fr to) (L.take k); have h2 : (L.take k).length ≤ 1000000 := by rw [List.length_take]; omega
                                                      omega) 66
    have HR8 := Lib.hid hr8
    have HP8 := Lib.hid hp8
    have HC8 := Lib.hid (show Chg (fun _ => False) w1 w8 from (HC.out.trans' hcb).new hg8 (fun i e => (HO.out.lt e.symm).1))
    have HCa := Lib.hid hca
    clear hca hcb hzz hr8 hp8 hg8 hsk hsv
    have hLi : (L.length : Int) ≤ 1000000 := by omega
    have htk : L.take (k + 1) = L.take k ++ [(pk, pv)] := by rw [List.take_add_one, HGk.out]; rfl
    have HTk := Lib.hid htk
    clear htk
    cases a1 : ltB pk fr
    · rw [a1] at q1
      by_cases a2 : to = []
      · rw [decide_eq_true a2] at q3
        have hin : inScan fr to (pk, pv) = true := by unfold inScan; simp [a1, a2]
        have HIn := Lib.hid hin
        clear hin esf est esk
        go_wp2_with (first
          | (at_builtin; refine Lib.wpList_append_run _ rfl _ _ _ _ rfl _ _ rfl rfl _ _ HR8.out ?_))
        refine ⟨⟨k + 1, by go_num, hlt, by rw [HTk.out, List.filter_append, List.filter_cons, HIn.out, if_pos rfl, List.filter_nil, List.map_append]; exact HP8.out, HC8.out⟩, puts_meas hlt⟩
      · rw [decide_eq_false a2] at q3
        cases a3 : ltB pk to
        · rw [a3] at q2
          have hin : inScan fr to (pk, pv) = false := by unfold inScan; simp [a1, a2, a3]
          have HIn := Lib.hid hin
          clear hin esf est esk
          go_wp2_with fail
          refine ⟨⟨k + 1, by go_num, hlt, by rw [HTk.out, List.filter_append, List.filter_cons, HIn.out, if_neg (by simp), List.filter_nil, List.append_nil]; exact HO.out.kept HCa.out (fun _ _ h => h), HC.out.trans' HCa.out⟩, puts_meas hlt⟩
        · rw [a3] at q2
          have hin : inScan fr to (pk, pv) = true := by unfold inScan; simp [a1, a3]
          have HIn := Lib.hid hin
          clear hin esf est esk
          go_wp2_with (first
            | (at_builtin; refine Lib.wpList_append_run _ rfl _ _ _ _ rfl _ _ rfl rfl _ _ HR8.out ?_))
          refine ⟨⟨k + 1, by go_num, hlt, by rw [HTk.out, List.filter_append, List.filter_cons, HIn.out, if_pos rfl, List.filter_nil, List.map_append]; exact HP8.out, HC8.out⟩, puts_meas hlt⟩
    · rw [a1] at q1
      have hin : inScan fr to (pk, pv) = false := by unfold inScan; simp [a1]
      have HIn := Lib.hid hin
      clear hin esf est esk
      go_wp2_with fail
      refine ⟨⟨k + 1, by go_num, hlt, by rw [HTk.out, List.filter_append, List.filter_cons, HIn.out, if_neg (by simp), List.filter_nil, List.append_nil]; exact HO.out.kept HCa.out (fun _ _ h => h), HC.out.trans' HCa.out⟩, puts_meas hlt⟩
  · have hki : ¬ (k : Int) < (L.length : Int) := by omega
    obtain rfl : k = L.length := by omega
    have hoo := HO.out
    rw [List.take_length] at hoo
    have HOo := Lib.hid hoo
    clear hoo
    go_wp2_with fail
    go_ret
    exact ⟨_, rfl, HOo.out.lower HZ1.out, HC1.out.trans' HC.out⟩

end Go.Proofs.YtbjagmlbamjdbaaGreat.kvs
end

/-
  rootdb: the plain model: a root's keys and values; what batches make of them.
-/
section
set_option linter.unusedSimpArgs false
set_option linter.unusedVariables false
namespace Go.Proofs.YtbjagmlbamjdbaaGreat.roots
open Go.My kvs

structure RS where
  stack : List Pk
  staged : Nat
  wants : List Pk
  done : List Nat

def lst (c : UInt8) : Nat → List Pk → List KV
  | _, [] => []
  | i, p :: l => ([c, UInt8.ofNat i], pencF p) :: lst c (i + 1) l
def dlst : Nat → List Nat → List KV
  | _, [] => []
  | i, n :: l => (99 :: eight i, eight n) :: dlst (i + 1) l
def tval (S : RS) : Txt := eight S.staged ++ [UInt8.ofNat S.wants.length]
def tlst (S : RS) : List KV := if S.staged = 0 then [] else [([116], tval S)]
def rootL (S : RS) : List KV := dlst 0 S.done ++ (lst 112 0 S.stack ++ (lst 113 0 S.wants ++ tlst S))

/-! ### the order of keys -/
theorem ltB_app : ∀ {x y : Txt} (a b : Txt), x.length = y.length → (ltB (x ++ a) (y ++ b) = true ↔ ltB x y = true ∨ (x = y ∧ ltB a b = true))
  | [], [], a, b, _ => by simp [ltB_irrefl]
  | [], _ :: _, _, _, h => by simp at h
  | _ :: _, [], _, _, h => by simp at h
  | c :: x, d :: y, a, b, hl => by
    rw [List.cons_append, List.cons_append, ltB_cons, ltB_cons, ltB_app a b (by simpa using hl)]
    constructor
    · rintro (h | ⟨h0, h | ⟨h1, h⟩⟩)
      · exact Or.inl (Or.inl h)
      · exact Or.inl (Or.inr ⟨h0, h⟩)
      · exact Or.inr ⟨by rw [h0, h1], h⟩
    · rintro ((h | ⟨h0, h⟩) | ⟨h0, h⟩)
      · exact Or.inl h
      · exact Or.inr ⟨h0, Or.inl h⟩
      · rw [List.cons.injEq] at h0
        exact Or.inr ⟨h0.1, Or.inr ⟨h0.2, h⟩⟩
theorem ltB_one {a b : Nat} (ha : a < 256) (hb : b < 256) : ltB [UInt8.ofNat a] [UInt8.ofNat b] = true ↔ a < b := by
  rw [ltB_cons, UInt8.lt_iff_toNat_lt, toNat_ofNat_lt ha, toNat_ofNat_lt hb]
  constructor
  · rintro (h | ⟨-, h⟩)
    · exact h
    · rw [ltB_irrefl] at h; cases h
  · exact Or.inl
theorem ltB_fix : ∀ (k a b : Nat), a < 256 ^ k → b < 256 ^ k → a < b → ltB (fixB k a) (fixB k b) = true
  | 0, a, b, ha, hb, h => by simp at ha hb; omega
  | k + 1, a, b, ha, hb, h => by
    rw [fixB, fixB, ltB_app _ _ (by rw [fixB_length, fixB_length])]
    rw [Nat.pow_succ] at ha hb
    by_cases hd : a / 256 < b / 256
    · exact Or.inl (ltB_fix k _ _ (by omega) (by omega) hd)
    · have e : a / 256 = b / 256 := by omega
      exact Or.inr ⟨by rw [e], (ltB_one (by omega) (by omega)).2 (by omega)⟩
theorem ltB_eight {a b : Nat} (hb : b < 18446744073709551616) (h : a < b) : ltB (eight a) (eight b) = true := by
  have h8 : (256 : Nat) ^ 8 = 18446744073709551616 := by decide
  exact ltB_fix 8 a b (by omega) (by omega) h

/-! ### the keys -/
theorem lst_keys {c : UInt8} : ∀ {l : List Pk} {i : Nat} {k v : Txt}, (k, v) ∈ lst c i l → ∃ j, i ≤ j ∧ j < i + l.length ∧ k = [c, UInt8.ofNat j]
  | [], _, _, _, h => by cases h
  | p :: l, i, k, v, h => by
    rcases List.mem_cons.1 h with h | h
    · cases h; exact ⟨i, Nat.le_refl _, by simp, rfl⟩
    · obtain ⟨j, h1, h2, h3⟩ := lst_keys h
      exact ⟨j, by omega, by simp only [List.length_cons]; omega, h3⟩
theorem dlst_keys : ∀ {l : List Nat} {i : Nat} {k v : Txt}, (k, v) ∈ dlst i l → ∃ j, i ≤ j ∧ j < i + l.length ∧ k = 99 :: eight j
  | [], _, _, _, h => by cases h
  | n :: l, i, k, v, h => by
    rcases List.mem_cons.1 h with h | h
    · cases h; exact ⟨i, Nat.le_refl _, by simp, rfl⟩
    · obtain ⟨j, h1, h2, h3⟩ := dlst_keys h
      exact ⟨j, by omega, by simp only [List.length_cons]; omega, h3⟩
theorem lst_asc {c : UInt8} : ∀ {l : List Pk} {i : Nat}, i + l.length ≤ 256 → Asc (lst c i l)
  | [], _, _ => List.Pairwise.nil
  | p :: l, i, h => by
    simp only [List.length_cons] at h
    refine List.Pairwise.cons ?_ (lst_asc (by omega))
    rintro ⟨k, v⟩ hk
    obtain ⟨j, h1, h2, rfl⟩ := lst_keys hk
    show ltB ([c] ++ [UInt8.ofNat i]) ([c] ++ [UInt8.ofNat j]) = true
    rw [ltB_app _ _ rfl]
    exact Or.inr ⟨rfl, (ltB_one (by omega) (by omega)).2 (by omega)⟩
theorem dlst_asc : ∀ {l : List Nat} {i : Nat}, i + l.length ≤ 1000000 → Asc (dlst i l)
  | [], _, _ => List.Pairwise.nil
  | n :: l, i, h => by
    simp only [List.length_cons] at h
    refine List.Pairwise.cons ?_ (dlst_asc (by omega))
    rintro ⟨k, v⟩ hk
    obtain ⟨j, h1, h2, rfl⟩ := dlst_keys hk
    show ltB (99 :: eight i) (99 :: eight j) = true
    rw [ltB_cons]
    exact Or.inr ⟨rfl, ltB_eight (by omega) (by omega)⟩
theorem tlst_keys {S : RS} {k v : Txt} (h : (k, v) ∈ tlst S) : k = [116] := by
  unfold tlst at h
  split at h
  · cases h
  · rw [List.mem_singleton] at h; cases h; rfl
theorem tlst_asc (S : RS) : Asc (tlst S) := by
  unfold tlst
  split
  · exact List.Pairwise.nil
  · exact List.pairwise_singleton _ _
theorem ltB_head {a b : UInt8} (h : a < b) (x y : Txt) : ltB (a :: x) (b :: y) = true := (ltB_cons _ _ _ _).2 (Or.inl h)
theorem root_asc {S : RS} (h1 : S.stack.length ≤ 256) (h2 : S.wants.length ≤ 256) (h3 : S.done.length ≤ 1000000) : Asc (rootL S) := by
  unfold rootL Asc
  rw [List.pairwise_append, List.pairwise_append, List.pairwise_append]
  refine ⟨dlst_asc (by omega), ⟨lst_asc (by omega), ⟨lst_asc (by omega), tlst_asc S, ?_⟩, ?_⟩, ?_⟩
  · rintro ⟨k, v⟩ hk ⟨k', v'⟩ hk'
    obtain ⟨j, -, -, rfl⟩ := lst_keys hk
    obtain rfl := tlst_keys hk'
    exact ltB_head (by decide) _ _
  · rintro ⟨k, v⟩ hk ⟨k', v'⟩ hk'
    obtain ⟨j, -, -, rfl⟩ := lst_keys hk
    rcases List.mem_append.1 hk' with hk' | hk'
    · obtain ⟨j', -, -, rfl⟩ := lst_keys hk'
      exact ltB_head (by decide) _ _
    · obtain rfl := tlst_keys hk'
      exact ltB_head (by decide) _ _
  · rintro ⟨k, v⟩ hk ⟨k', v'⟩ hk'
    obtain ⟨j, -, -, rfl⟩ := dlst_keys hk
    rcases List.mem_append.1 hk' with hk' | hk'
    · obtain ⟨j', -, -, rfl⟩ := lst_keys hk'
      exact ltB_head (by decide) _ _
    · rcases List.mem_append.1 hk' with hk' | hk'
      · obtain ⟨j', -, -, rfl⟩ := lst_keys hk'
        exact ltB_head (by decide) _ _
      · obtain rfl := tlst_keys hk'
        exact ltB_head (by decide) _ _

/-! ### scans -/
end Go.Proofs.YtbjagmlbamjdbaaGreat.roots
end
