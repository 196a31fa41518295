/-
  coord, of any plans: Tick, the walk.
-/
import Derived.Test.YtogjjkbgagedpaaCoGJ
namespace Go.Proofs.Ytogjjkbgagedpaa.coordg
open Go.RowKit Go.Maps Go.My Go.ChangeMaps coords
set_option maxRecDepth 100000

variable {w w' : World} {c q : Nat} {Fc : Nat → Prop} {lim : Int} {L : List (Int × Ent)}

theorem asc_mem {zs : List Int} {z : Int} (h : z ∈ asc zs) : z ∈ zs := (List.mergeSort_perm zs _).mem_iff.1 h
theorem asc_nodup {zs : List Int} (h : zs.Nodup) : (asc zs).Nodup := (List.mergeSort_perm zs _).nodup_iff.2 h

/-- The round of Tick behind k of its transactions. -/
structure Ticked (w1 wr : World) (c : Nat) (Fc : Nat → Prop) (lim : Int) (q : Nat) (L : List (Int × Ent)) (K : List Int) (a b : Value) : Prop where
  all : AllIs wr c Fc lim q (tickK lim K L)
  out : Out wr w1.heap.size a (K.flatMap (tickA lim L))
  gone : ∃ gl : List Int, wr.ownsRow w1.heap.size 3 1 b gl.length (gl.map (Value.int .i64)) ∧ gl.length ≤ K.length
  chg : Chg (Foot L Fc) w1 wr

theorem foot_tick {lim : Int} {K : List Int} : ∀ k, Foot (tickK lim K L) Fc k → Foot L Fc k := by
  rintro k (hk | ⟨p, hp, hk⟩)
  · exact Or.inl hk
  · obtain ⟨p0, h0, h1⟩ := List.mem_filterMap.1 hp
    refine Or.inr ⟨p0, h0, ?_⟩
    split at h1
    · obtain ⟨E, -, rfl⟩ := Option.map_eq_some_iff.1 h1
      exact hk
    · cases h1; exact hk

theorem tickM_len {lim tx : Int} {E : EV} (h : E.ps.length ≤ 6) : (tickM lim tx E).length ≤ 6 := by
  have h1 : (lacksOf E E.ps.length).length ≤ 6 := by rw [lacks_filter]; exact Nat.le_trans (List.length_filter_le _ _) h
  unfold tickM
  split
  · split <;> simp [h, h1]
  · split <;> simp [h1]

theorem flat_len {lim : Int} (h : AllIs w c Fc lim q L) : ∀ (K : List Int), (K.flatMap (tickA lim L)).length ≤ 6 * K.length
  | [] => by simp
  | t :: K => by
    rw [List.flatMap_cons, List.length_append, List.length_cons]
    have h1 := flat_len h K
    have h2 : (tickA lim L t).length ≤ 6 := by
      unfold tickA
      cases he : mget L t with
      | none => simp
      | some e => obtain ⟨pv, qa, hE⟩ := h.ents _ (mget_mem he); exact tickM_len hE.len
    omega

theorem aged_ok {E : EV} {lim : Int} (h : EntOk E lim) (h1 : ¬ lim ≤ E.age + 1) : EntOk E.aged lim := ⟨h.state, by have := h.age0; show 0 ≤ E.age + 1; omega, by show E.age + 1 < lim; omega⟩



theorem out_lt {base : Nat} {v : Value} {ms : List (Int × Int × Int)} (h : Out w base v ms) {b : Nat} (hb : v.ownBlock = some b) : base ≤ b := by
  obtain ⟨T, ho, -⟩ := h.is
  exact (ho.lt hb).1

theorem own_apart {base base' : Nat} {a v : Value} {ms : List (Int × Int × Int)} {n : Nat} {xs : List Value} (h : Out w base a ms) (hg : w.ownsRow base' 3 1 v n xs) : ∀ b, a.ownBlock = some b → v.ownBlock = some b → False := by
  intro b h1 h2
  obtain ⟨T, ho, -⟩ := h.is
  obtain ⟨c1, h3⟩ := row_obj ho.row h1
  obtain ⟨c2, h4⟩ := row_obj hg h2
  rw [h3] at h4
  simp only [Option.some.injEq, Obj.cells.injEq] at h4
  exact absurd h4.2.1 (by decide)

set_option maxHeartbeats 2000000 in
theorem tick_all (w : World) (h : AllIs w c Fc lim q L) (hlen : L.length ≤ 1000) :
    Calls Try.prog 22 #[ptrV c] w fun e w' => ∃ v g, e = .returned (.tuple #[v, g]) ∧ Out w' w.heap.size v ((asc (L.map (·.1))).flatMap (tickA lim L)) ∧ AllIs w' c Fc lim q (tickK lim (L.map (·.1)) L) ∧ Chg (Foot L Fc) w w' := by
  have hmf : ∀ (fn : Fn) (first cap : Array Value) (w : World), (Instr.makeFunc fn first cap).run Try.prog w = .ok (.func fn first cap) w := fun _ _ _ _ => rfl
  obtain ⟨i0, hI0⟩ := info_parts info_int
  have HI0 := Lib.hid hI0
  have H := Lib.hid h
  have hop := open_any w h.co (by rw [List.length_map]; exact hlen)
  rw [List.map_map, List.length_map] at hop
  have HOp := Lib.hid hop
  clear h hop hI0
  unfold ptrV at HOp ⊢
  obtain ⟨ks, hks⟩ : ∃ ks, asc (L.map (·.1)) = ks := ⟨_, rfl⟩
  have hksl : ks.length = L.length := by rw [← hks, asc_len, List.length_map]
  have HKs := Lib.hid (show (∀ z ∈ ks, z ∈ L.map (·.1)) ∧ ks.Nodup ∧ (∀ z ∈ L.map (·.1), z ∈ ks) from ⟨fun z hz => asc_mem (by rw [hks]; exact hz), by rw [← hks]; exact asc_nodup H.out.nodup, fun z hz => by rw [← hks]; exact (List.mergeSort_perm _ _).mem_iff.2 hz⟩)
  rw [show (List.map ((fun x => x.fst) ∘ fun p : Int × Ent => (p.1, p.2.x)) L) = L.map (·.1) from rfl, hks, ← hksl] at HOp
  rw [hks]
  have HKl := Lib.hid hksl
  have hkl : ks.length ≤ 1000 := by omega
  clear hks hksl
  go_enter Try.func22, Try.ntmps22
  go_wp2_with (go_at_call 17; refine HOp.out.mono ?_; rintro e w1 ⟨v1, rfl, ho1, hc1⟩; obtain ⟨og, cg, rfl⟩ := own_slice ho1; have HC1 := Lib.hid hc1; have HO1 := Lib.hid ho1; clear hc1 ho1)
  go_loopw [4, 5, 13] (fun a b j wr => ∃ k : Nat, j = .int .i64 k ∧ k ≤ ks.length ∧ Ticked w1 wr c Fc lim q L (ks.take k) a b) (fun _ _ j _ => ks.length - (intOf j).toNat)
  · exact ⟨0, rfl, Nat.zero_le _, by rw [List.take_zero, tickK_nil]; exact H.out.fresh HC1.out, Out.nil _ _, ⟨[], World.ownsRow_nil _ _ _ _, Nat.le_refl _⟩, Chg.refl _ _⟩
  obtain ⟨k, rfl, hk, hT⟩ := hrel
  have HT := Lib.hid hT
  clear hT
  by_cases hlt : k < ks.length
  · have hki : (k : Int) < (ks.length : Int) := by omega
    obtain ⟨tx, htx⟩ : ∃ tx, ks[k]? = some tx := ⟨ks[k], List.getElem?_eq_getElem hlt⟩
    have hmem := List.mem_of_getElem? htx
    have hnin : tx ∉ ks.take k := by
      intro h1
      obtain ⟨i, hi⟩ := List.getElem?_of_mem h1
      rw [List.getElem?_take] at hi
      by_cases hik : i < k
      · rw [if_pos hik] at hi
        have h2 := (List.getElem?_eq_some_iff.1 hi).2
        have h3 := (List.getElem?_eq_some_iff.1 htx).2
        exact (List.pairwise_iff_getElem.1 HKs.out.2.1 i k (by omega) hlt hik) (h2.trans h3.symm)
      · rw [if_neg hik] at hi; cases hi
    obtain ⟨p, hp, hp1⟩ := List.mem_map.1 (HKs.out.1 tx hmem)
    obtain ⟨e, he⟩ : ∃ e, mget L tx = some e := ⟨p.2, mem_mget H.out.nodup (by rw [← hp1]; exact hp)⟩
    have hget : mget (tickK lim (ks.take k) L) tx = some e := by rw [tickK_get hnin L H.out.nodup, he]
    have HStep := Lib.hid (tickK_step (lim := lim) hnin L H.out.nodup he)
    have htk : ks.take (k + 1) = ks.take k ++ [tx] := by rw [List.take_add_one, htx]; rfl
    have HTk := Lib.hid htk
    have HA := Lib.hid (show tickA lim L tx = tickM lim tx e.E from by unfold tickA; rw [he])
    have HAll := Lib.hid HT.out.all
    have HGet := Lib.hid hget
    have HMem := Lib.hid (mget_mem hget)
    obtain ⟨pv, qa, hE⟩ := HT.out.all.ents _ (mget_mem hget)
    have HEn := Lib.hid (show EntIs wr e.x e.F e.E pv qa from hE)
    have HOk := Lib.hid (show EntOk e.E lim from HT.out.all.ok _ (mget_mem hget))
    have HTx := Lib.hid (show 1 ≤ tx ∧ tx ≤ 1099511627776 from HT.out.all.txn _ (mget_mem hget))
    have HFl := Lib.hid (show ((ks.take k).flatMap (tickA lim L)).length ≤ 6000 from Nat.le_trans (flat_len H.out _) (by rw [List.length_take]; omega))
    have HSz := Lib.hid (show w1.heap.size ≤ wr.heap.size from HT.out.chg.size)
    have HOld := Lib.hid (show ∀ b, u4.ownBlock = some b → ¬ e.F b from fun b hb hF => by
      obtain ⟨T, ho, -⟩ := HT.out.out.is
      have h1 := (ho.lt hb).1
      have h2 := H.out.foot b (foot_tick b (Or.inr ⟨_, mget_mem hget, hF⟩))
      have h3 := HC1.out.size
      omega)
    have HGone := Lib.hid (show ∀ b, u5.ownBlock = some b → ¬ e.F b ∧ ¬ b = q ∧ w1.heap.size ≤ b from fun b hb => by
      obtain ⟨gl, hg, -⟩ := HT.out.gone
      have h1 := (hg.lt b hb).1
      have h3 := HC1.out.size
      refine ⟨fun hF => ?_, fun e1 => ?_, h1⟩
      · have h2 := H.out.foot b (foot_tick b (Or.inr ⟨_, mget_mem hget, hF⟩))
        omega
      · have h2 := H.out.foot q (Or.inl H.out.co.fq)
        omega)
    have HFq := Lib.hid (show q < w.heap.size ∧ (∀ b, e.F b → b < w.heap.size) ∧ (∀ b, e.F b → ¬ Fc b) ∧ Fc q ∧ w.heap.size ≤ w1.heap.size from ⟨H.out.foot q (Or.inl H.out.co.fq), fun b hF => H.out.foot b (foot_tick b (Or.inr ⟨_, mget_mem hget, hF⟩)), HT.out.all.apart _ (mget_mem hget), H.out.co.fq, HC1.out.size⟩)
    have HFt := Lib.hid (show ∀ b, e.F b → Foot L Fc b from fun b hF => foot_tick b (Or.inr ⟨_, mget_mem hget, hF⟩))
    obtain ⟨gb, goff, rfl, -, hkc⟩ := SlAt.cell (SlAt.of_own HO1.out) (k := k) (by rw [List.length_map]; exact hlt)
    rw [List.getElem_map, (List.getElem?_eq_some_iff.1 htx).2] at hkc
    have hkc2 : wr.cell? ⟨gb, goff + k, none⟩ = some (.int .i64 tx) := HT.out.chg.cell hkc (fun hF => by
      have h1 := (HO1.out.lt gb rfl).1
      have h2 := H.out.foot gb hF
      omega)
    clear hmem hnin hp hp1 he hget htk hE hkc htx
    by_cases s1 : e.E.state = 1
    · have HS := Lib.hid s1
      clear s1
      have c1 : wr.cell? ⟨c, 1, none⟩ = some (.map (some q)) := cell_of_block HAll.out.co.head rfl
      have hlk := HAll.out.co.mp.look Try.underlying71 (zero_ent _) false tx (WalkArith.wf_i64 (by have := HTx.out; omega))
      rw [mget_map, HGet.out] at hlk
      have hlk : (Instr.lookup 71 (.map (some q)) (.int .i64 tx) false).run Try.prog wr = .ok (.pointer (some ⟨e.x, 0, none⟩)) wr := hlk
      have hca := (Chg.refl (fun _ => False) wr).alloc (.cells #[.pointer (some ⟨e.x, 0, none⟩)] 76)
      have hEa := HEn.out.fresh hca
      have s0 : (wr.alloc (.cells #[.pointer (some ⟨e.x, 0, none⟩)] 76)).cell? ⟨e.x, 0, none⟩ = some (.int .i64 1) := by rw [← HS.out]; exact cell_of_block hEa.head rfl
      have gx : (wr.alloc (.cells #[.pointer (some ⟨e.x, 0, none⟩)] 76)).cell? ⟨wr.heap.size, 0, none⟩ = some (.pointer (some ⟨e.x, 0, none⟩)) := cell_of_block (block_alloc_new _ _) rfl
      have HEa := Lib.hid hEa
      have HCa := Lib.hid hca
      have HGx := Lib.hid gx
      have a0 : (wr.alloc (.cells #[.pointer (some ⟨e.x, 0, none⟩)] 76)).cell? ⟨e.x, 1, none⟩ = some (.int .i64 e.E.age) := cell_of_block hEa.head rfl
      have z0 : (wr.alloc (.cells #[.pointer (some ⟨e.x, 0, none⟩)] 76)).frozen? ⟨e.x, 1, none⟩ = false := free_of_block hEa.head
      obtain ⟨hE1b, hcb⟩ := hEa.putAge
      have hx1 : e.x < wr.heap.size := HEn.out.lt _ HEn.out.fr
      obtain ⟨wB, hwB⟩ : ∃ wB, (wr.alloc (.cells #[.pointer (some ⟨e.x, 0, none⟩)] 76)).setCell ⟨e.x, 1, none⟩ (.int .i64 (e.E.age + 1)) = wB := ⟨_, rfl⟩
      have b1 : ((wr.alloc (.cells #[.pointer (some ⟨e.x, 0, none⟩)] 76)).setCell ⟨e.x, 1, none⟩ (.int .i64 (e.E.age + 1))).cell? ⟨e.x, 1, none⟩ = some (.int .i64 (e.E.age + 1)) := cell_of_block hE1b.head rfl
      have bx : ((wr.alloc (.cells #[.pointer (some ⟨e.x, 0, none⟩)] 76)).setCell ⟨e.x, 1, none⟩ (.int .i64 (e.E.age + 1))).cell? ⟨wr.heap.size, 0, none⟩ = some (.pointer (some ⟨e.x, 0, none⟩)) := hcb.cell gx (by simp; omega)
      have hCB := (HAll.out.co.fresh hca).kept hcb (fun k hk e1 => HFq.out.2.2.1 k (by rw [e1]; exact HEn.out.fr) hk)
      have b0 : ((wr.alloc (.cells #[.pointer (some ⟨e.x, 0, none⟩)] 76)).setCell ⟨e.x, 1, none⟩ (.int .i64 (e.E.age + 1))).cell? ⟨c, 0, none⟩ = some (.int .i64 lim) := cell_of_block hCB.head rfl
      have hwr : wrap64 (e.E.age + 1) = e.E.age + 1 := IntWalk.wrap64_in _ (by have h1 := HOk.out.age0; have h2 := HOk.out.age1; have h3 := H.out.lim2; omega)
      have HCB := Lib.hid hCB
      have HE1B := Lib.hid hE1b
      have HBx := Lib.hid bx
      have HCb := Lib.hid (((hca.mono (fun _ _ h => h.elim) : Chg e.F _ _)).trans' (hcb.mono (fun k _ e1 => (by rw [e1]; exact HEn.out.fr : e.F k))))
      clear hca hEa hcb hE1b hCB
      rw [hwB] at b1 bx b0 HCB HE1B HBx HCb
      have HCd := Lib.hid HCb.out.drew
      go_wp2_with fail
      clear hwB s0 a0 z0 gx hlk
      refine wp_region_noPanic ?_
      refine wp_region_held_drew (S := (fun w' => w'.cell? ⟨wr.heap.size, 0, none⟩ = some (.pointer (some ⟨e.x, 0, none⟩)) ∧ w'.cell? ⟨e.x, 1, none⟩ = some (.int .i64 (e.E.age + 1)) ∧ w'.cell? ⟨c, 0, none⟩ = some (.int .i64 lim))) (by kernel_rfl) (⟨bx, b1, b0⟩) (fun hHeld => ?_)
      refine take_list (i := 0) (v := ?_) rfl (by kernel_rfl) (by kernel_rfl) (by kernel_rfl) (fun _ _ _ h => h) (Or.inl ⟨by rfl, fun w hSw => ?_⟩) hHeld ?_
      rotate_left
      · (obtain ⟨hSw1, hSw2, hSw3⟩ := hSw; go_simp)
        try with_reducible rfl
      simp only [Act.put, List.setIfInBounds_toArray, List.set_cons_zero, List.set_cons_succ]
      refine take_list (i := 1) (v := ?_) rfl (by kernel_rfl) (by kernel_rfl) (by kernel_rfl) (fun _ _ _ h => h) (Or.inl ⟨by rfl, fun w hSw => ?_⟩) hHeld ?_
      rotate_left
      · (obtain ⟨hSw1, hSw2, hSw3⟩ := hSw; go_simp)
        try with_reducible rfl
      simp only [Act.put, List.setIfInBounds_toArray, List.set_cons_zero, List.set_cons_succ]
      refine take_list (i := 2) (v := ?_) rfl (by kernel_rfl) (by kernel_rfl) (by kernel_rfl) (fun _ _ _ h => h) (Or.inl ⟨by rfl, fun w hSw => ?_⟩) hHeld ?_
      rotate_left
      · (obtain ⟨hSw1, hSw2, hSw3⟩ := hSw; go_simp)
        try with_reducible rfl
      simp only [Act.put, List.setIfInBounds_toArray, List.set_cons_zero, List.set_cons_succ]
      refine take_list (i := 3) (v := ?_) rfl (by kernel_rfl) (by kernel_rfl) (by kernel_rfl) (fun _ _ _ h => h) (Or.inl ⟨by rfl, fun w hSw => ?_⟩) hHeld ?_
      rotate_left
      · (obtain ⟨hSw1, hSw2, hSw3⟩ := hSw; go_simp)
        try with_reducible rfl
      simp only [Act.put, List.setIfInBounds_toArray, List.set_cons_zero, List.set_cons_succ]
      refine take_list (i := 4) (v := ?_) rfl (by kernel_rfl) (by kernel_rfl) (by kernel_rfl) (fun _ _ _ h => h) (Or.inl ⟨by rfl, fun w hSw => ?_⟩) hHeld ?_
      rotate_left
      · (obtain ⟨hSw1, hSw2, hSw3⟩ := hSw; go_simp)
        try with_reducible rfl
      simp only [Act.put, List.setIfInBounds_toArray, List.set_cons_zero, List.set_cons_succ]
      refine take_list (i := 5) (v := ?_) rfl (by kernel_rfl) (by kernel_rfl) (by kernel_rfl) (fun _ _ _ h => h) (Or.inl ⟨by rfl, fun w hSw => ?_⟩) hHeld ?_
      rotate_left
      · (obtain ⟨hSw1, hSw2, hSw3⟩ := hSw; go_simp)
        try with_reducible rfl
      simp only [Act.put, List.setIfInBounds_toArray, List.set_cons_zero, List.set_cons_succ]
      refine take_list (i := 6) (v := ?_) rfl (by kernel_rfl) (by kernel_rfl) (by kernel_rfl) (fun _ _ _ h => h) (Or.inl ⟨by rfl, fun w hSw => ?_⟩) hHeld ?_
      rotate_left
      · (obtain ⟨hSw1, hSw2, hSw3⟩ := hSw; go_simp)
        try with_reducible rfl
      simp only [Act.put, List.setIfInBounds_toArray, List.set_cons_zero, List.set_cons_succ]
      refine take_list (i := 7) (v := ?_) rfl (by kernel_rfl) (by kernel_rfl) (by kernel_rfl) (fun _ _ _ h => h) (Or.inl ⟨by rfl, fun w hSw => ?_⟩) hHeld ?_
      rotate_left
      · (obtain ⟨hSw1, hSw2, hSw3⟩ := hSw; go_simp)
        try with_reducible rfl
      simp only [Act.put, List.setIfInBounds_toArray, List.set_cons_zero, List.set_cons_succ]
      refine take_list (i := 8) (v := ?_) rfl (by kernel_rfl) (by kernel_rfl) (by kernel_rfl) (fun _ _ _ h => h) (Or.inl ⟨by rfl, fun w hSw => ?_⟩) hHeld ?_
      rotate_left
      · (obtain ⟨hSw1, hSw2, hSw3⟩ := hSw; go_simp)
        try with_reducible rfl
      simp only [Act.put, List.setIfInBounds_toArray, List.set_cons_zero, List.set_cons_succ]
      refine wpAnyH_done (by kernel_rfl) ?_ _
      refine NoPanic.normal ?_
      clear hHeld b1 b0 hwr
      by_cases hold : lim ≤ e.E.age + 1
      · have hge : e.E.age + 1 ≥ lim := hold
        have HStep2 := Lib.hid (show tickK lim (ks.take k ++ [tx]) L = mdel (tickK lim (ks.take k) L) tx from by have := HStep.out; rw [show tickE lim e.E = none from by unfold tickE; rw [if_pos HS.out, if_pos hold]] at this; exact this)
        have HM := Lib.hid (show tickM lim tx e.E = (e.E.ps.filter (fun _ => true)).map (fun r => (4, r, tx)) from by unfold tickM; rw [if_pos HS.out, if_pos hold, List.filter_eq_self.2 (fun _ _ => rfl)])
        obtain ⟨gl, hgo, hgl⟩ := HT.out.gone
        have HGo := Lib.hid hgo
        have HGl := Lib.hid (show gl.length ≤ 1000 from Nat.le_trans hgl (by rw [List.length_take]; omega))
        have HGl2 := Lib.hid hgl
        clear hold hgo hgl
        go_wp2_with (first
          | (go_at_call 32; refine (all_each _ (HE1B.out.fresh (Chg.refl _ _).drew) 4 tx (fun _ => true) (fun wr _ r _ => each_any wr r)).mono ?_; rintro e0 w5 ⟨v, rfl, hm5, hc5⟩
             obtain ⟨v', w6, hap, ho6, hc6⟩ := append_out (HT.out.out.kept (HCd.out.trans' (hc5.mono (fun _ _ h => h.elim))) HOld.out) hm5 (Nat.le_trans HFl.out (by omega)) (Nat.le_trans (List.length_filter_le _ _) (Nat.le_trans HEn.out.len (by omega))) (Nat.le_trans HSz.out (HCd.out.trans' (hc5.mono (fun _ _ h => h.elim))).size)
             have HC5 := Lib.hid (HCd.out.trans' (hc5.mono (fun _ _ h => h.elim)))
             have HO6 := Lib.hid ho6
             have HC6 := Lib.hid hc6
             have HN5 := Lib.hid hc5
             have HGo6 := Lib.hid (row_kept (row_kept HGo.out HC5.out (fun b hb => (HGone.out b hb).1)) HC6.out (fun b hb e1 => own_apart HT.out.out HGo.out b e1.symm hb))
             clear hm5 hc5 ho6 hc6)
          | (at_builtin; have _h := hap; refine wpList_append_run rfl _ _ 28 rfl rfl rfl hap ?_; clear hap)
          | (at_builtin; refine wpList_append_own_at _ rfl _ _ 41 rfl w1.heap.size 3 i0 (.int .i64 0) 1 8 Try.underlying41 HI0.out.1 HI0.out.2.1 HI0.out.2.2.1 HI0.out.2.2.2 rfl (by decide) _ gl.length (gl.map (Value.int .i64)) rfl (row_kept HGo6.out ((Chg.refl (fun _ => False) w6).alloc _) (fun _ _ h => h)) ⟨w6.heap.size, 0, none⟩ 1 1 [.int .i64 tx] rfl rfl (cells_new w6 [.int .i64 tx] _) (by intro x hx; rw [List.mem_singleton.1 hx]; rfl) (by have := HGl.out; unfold maxLen; omega) (by have := HGl.out; omega) (Nat.le_trans HSz.out (Nat.le_trans HC5.out.size (Nat.le_trans HC6.out.size (by simp)))) ?_; intro v8 w8 ho8 hg8 hx1 hx2
             have hca6 := (Chg.refl (fun _ => False) w6).alloc (.cells #[.int .i64 tx] 3)
             have hc68 : Chg (fun b => some b = u5.ownBlock) w6 w8 := (hca6.mono (fun _ _ h => h.elim)).trans' (Chg.of_grown hg8)
             have hc8 : Chg (fun b => e.F b ∨ w1.heap.size ≤ b) wr w8 := ((HC5.out.mono (fun _ _ h => Or.inl h)).trans' (HC6.out.mono (fun b _ e1 => Or.inr (out_lt HT.out.out e1.symm)))).trans' (hc68.mono (fun b _ e1 => Or.inr (HGone.out b e1.symm).2.2))
             have hC8 := HAll.out.co.kept hc8 (fun b hb hS => by rcases hS with hS | hS; exact HFq.out.2.2.1 b hS hb; exact absurd (H.out.foot b (Or.inl hb)) (by have := HFq.out.2.2.2.2; omega))
             have d1 : w8.cell? ⟨c, 1, none⟩ = some (.map (some q)) := cell_of_block hC8.head rfl
             obtain ⟨ob, hdl, hmd⟩ := hC8.mp.del Try.underlying71 tx (WalkArith.wf_i64 (by have := HTx.out; omega)) 0
             have hdl : (Builtin.delete_ #[71, 3] 0 #[.map (some q), .int .i64 tx]).run Try.prog w8 = .ok (.tuple #[]) (setBlock w8 q ob) := hdl
             have hcd : Chg (· = q) w8 (setBlock w8 q ob) := Chg.setBlock (S := (· = q)) (Chg.refl _ _) (fun _ => rfl) _
             have HMd := Lib.hid hmd
             have HCq := Lib.hid hcd
             have HO8 := Lib.hid ho8
             have HC68 := Lib.hid hc68
             have HC8 := Lib.hid hc8
             have HCo8 := Lib.hid hC8
             have HOut := Lib.hid ((HO6.out.kept hc68 (fun b hb e1 => own_apart HO6.out HGo6.out b hb e1.symm)).kept hcd (fun b hb e1 => by have h1 := out_lt HO6.out hb; have h2 := HFq.out; omega))
             clear hmd hcd ho8 hg8 hx1 hx2 hc8 hC8 hca6 hc68))
        have hfin : Chg (fun b => Fc b ∨ e.F b ∨ w1.heap.size ≤ b) wr (setBlock w8 q ob) := (HC8.out.mono (fun b _ h => Or.inr h)).trans' (HCq.out.mono (fun b _ e1 => Or.inl (by rw [e1]; exact HFq.out.2.2.2.1)))
        have hco : CoIs (setBlock w8 q ob) c Fc lim (mdel ((tickK lim (ks.take k) L).map fun p => (p.1, p.2.x)) tx) q := ⟨HCq.out.at HCo8.out.head HCo8.out.cq, HMd.out, HCo8.out.fc, HCo8.out.fq, fun k hk => Nat.lt_of_lt_of_le (HCo8.out.lt k hk) HCq.out.size⟩
        refine ⟨⟨k + 1, by go_num, hlt, ?_, ?_, ⟨gl ++ [tx], ?_, ?_⟩, ?_⟩, meas_step hlt⟩
        · rw [HTk.out, HStep2.out]
          exact HAll.out.del HGet.out hco hfin (fun b hb => by
            rcases hb with hb | hb | hb
            · exact Or.inl hb
            · exact Or.inr (Or.inl hb)
            · exact Or.inr (Or.inr (fun hF => by have h1 := H.out.foot b (foot_tick b hF); have h2 := HFq.out.2.2.2.2; omega)))
        · rw [HTk.out, List.flatMap_append, List.flatMap_cons, List.flatMap_nil, List.append_nil, HA.out, HM.out]
          exact HOut.out
        · rw [List.length_append, List.map_append]
          exact row_kept HO8.out HCq.out (fun b hb e1 => by have h1 := (HO8.out.lt b hb).1; have h2 := HFq.out; omega)
        · have := HGl2.out; rw [HTk.out, List.length_append, List.length_append]; simpa using this
        · exact HT.out.chg.trans hfin (fun b hb h => by
            rcases h with h | h | h
            · exact Or.inl h
            · exact HFt.out b h
            · omega)
      · have hnge : ¬ e.E.age + 1 ≥ lim := hold
        have HStep2 := Lib.hid (show tickK lim (ks.take k ++ [tx]) L = upd (tickK lim (ks.take k) L) tx e.E.aged from by have := HStep.out; rw [show tickE lim e.E = some e.E.aged from by unfold tickE; rw [if_pos HS.out, if_neg hold]] at this; exact this)
        have HM := Lib.hid (show tickM lim tx e.E = (e.E.ps.filter (fun r => !(mget e.E.ans r).getD false)).map (fun r => (1, r, tx)) from by unfold tickM; rw [if_pos HS.out, if_neg hold, lacks_filter])
        have HAg := Lib.hid (aged_ok HOk.out hold)
        clear hold
        go_wp2_with (first
          | (go_at_call 32; refine (all_tick _ (HE1B.out.fresh (Chg.refl _ _).drew) 1 tx (fun r => !(mget e.E.ans r).getD false) (.pointer (some ⟨wr.heap.size, 0, none⟩)) (fun wy hcy r hr => tick_closure wy ((HE1B.out.fresh (Chg.refl _ _).drew).fresh hcy) wr.heap.size (hcy.cell (show wB.drew.cell? _ = _ from HBx.out) id) r (HEn.out.ok r hr))).mono ?_; rintro e0 w5 ⟨v, rfl, hm5, hc5⟩
             obtain ⟨v', w6, hap, ho6, hc6⟩ := append_out (HT.out.out.kept (HCd.out.trans' (hc5.mono (fun _ _ h => h.elim))) HOld.out) hm5 (Nat.le_trans HFl.out (by omega)) (Nat.le_trans (List.length_filter_le _ _) (Nat.le_trans HEn.out.len (by omega))) (Nat.le_trans HSz.out (HCd.out.trans' (hc5.mono (fun _ _ h => h.elim))).size)
             have HC5 := Lib.hid (HCd.out.trans' (hc5.mono (fun _ _ h => h.elim)))
             have HO6 := Lib.hid ho6
             have HC6 := Lib.hid hc6
             have HN5 := Lib.hid hc5
             skip
             clear hm5 hc5 ho6 hc6)
          | (at_builtin; have _h := hap; refine wpList_append_run rfl _ _ 28 rfl rfl rfl hap ?_; clear hap)
          )
        have hfin : Chg (fun b => e.F b ∨ w1.heap.size ≤ b) wr w6 := (HC5.out.mono (fun _ _ h => Or.inl h)).trans' (HC6.out.mono (fun b _ e1 => Or.inr (out_lt HT.out.out e1.symm)))
        have hun : ∀ b, w1.heap.size ≤ b → ¬ Foot (tickK lim (ks.take k) L) Fc b := fun b hb hF => by have h1 := H.out.foot b (foot_tick b hF); have h2 := HFq.out.2.2.2.2; omega
        have hno : ∀ b, e.F b ∨ Fc b → ¬ some b = u4.ownBlock := fun b hb e1 => by
          have h1 := out_lt HT.out.out e1.symm
          have h2 := HFq.out.2.2.2.2
          have h3 := H.out.foot b (hb.elim (HFt.out b) Or.inl)
          omega
        have hEB : EntIs w6 e.x e.F e.E.aged pv qa := (((HE1B.out.fresh (Chg.refl _ _).drew)).fresh HN5.out).kept HC6.out (fun b hF e1 => hno b (Or.inl hF) e1)
        have hco : CoIs w6 c Fc lim ((tickK lim (ks.take k) L).map fun p => (p.1, p.2.x)) q := (((HCB.out.fresh (Chg.refl _ _).drew)).fresh HN5.out).kept HC6.out (fun b hF e1 => hno b (Or.inr hF) e1)
        refine ⟨⟨k + 1, by go_num, hlt, ?_, ?_, ?_, ?_⟩, meas_step hlt⟩
        · rw [HTk.out, HStep2.out]
          exact HAll.out.upd HGet.out hEB hco hfin (fun b hb => by
            rcases hb with hb | hb
            · exact Or.inr (Or.inl hb)
            · exact Or.inr (Or.inr (hun b hb))) HAg.out
        · rw [HTk.out, List.flatMap_append, List.flatMap_cons, List.flatMap_nil, List.append_nil, HA.out, HM.out]
          exact HO6.out
        · obtain ⟨gl, hgo, hgl⟩ := HT.out.gone
          exact ⟨gl, row_kept (row_kept hgo HC5.out (fun b hb => (HGone.out b hb).1)) HC6.out (fun b hb e1 => own_apart HT.out.out hgo b e1.symm hb), by rw [HTk.out, List.length_append]; omega⟩
        · exact HT.out.chg.trans hfin (fun b hb h => by
            rcases h with h | h
            · exact HFt.out b h
            · omega)
    · by_cases s3 : e.E.state = 3
      · have HS := Lib.hid s3
        have HNe := Lib.hid s1
        clear s1 s3
        have HStep2 := Lib.hid (show tickK lim (ks.take k ++ [tx]) L = upd (tickK lim (ks.take k) L) tx e.E from by have := HStep.out; rw [show tickE lim e.E = some e.E from by unfold tickE; rw [if_neg HNe.out]] at this; exact this)
        have HM := Lib.hid (show tickM lim tx e.E = (e.E.ps.filter (fun r => !(mget e.E.ans r).getD false)).map (fun r => (3, r, tx)) from by unfold tickM; rw [if_neg HNe.out, if_pos HS.out, lacks_filter])
        have c1 : wr.cell? ⟨c, 1, none⟩ = some (.map (some q)) := cell_of_block HAll.out.co.head rfl
        have hlk := HAll.out.co.mp.look Try.underlying71 (zero_ent _) false tx (WalkArith.wf_i64 (by have := HTx.out; omega))
        rw [mget_map, HGet.out] at hlk
        have hlk : (Instr.lookup 71 (.map (some q)) (.int .i64 tx) false).run Try.prog wr = .ok (.pointer (some ⟨e.x, 0, none⟩)) wr := hlk
        have hca := (Chg.refl (fun _ => False) wr).alloc (.cells #[.pointer (some ⟨e.x, 0, none⟩)] 76)
        have hEa := HEn.out.fresh hca
        have s0 : (wr.alloc (.cells #[.pointer (some ⟨e.x, 0, none⟩)] 76)).cell? ⟨e.x, 0, none⟩ = some (.int .i64 3) := by rw [← HS.out]; exact cell_of_block hEa.head rfl
        have gx : (wr.alloc (.cells #[.pointer (some ⟨e.x, 0, none⟩)] 76)).cell? ⟨wr.heap.size, 0, none⟩ = some (.pointer (some ⟨e.x, 0, none⟩)) := cell_of_block (block_alloc_new _ _) rfl
        have HEa := Lib.hid hEa
        have HCa := Lib.hid hca
        have HGx := Lib.hid gx
        have HCb := Lib.hid (hca.mono (fun _ _ h => h.elim) : Chg e.F _ _)
        clear hca hEa
        go_wp2_with (first
          | (go_at_call 32; refine (all_tick _ HEa.out 3 tx (fun r => !(mget e.E.ans r).getD false) (.pointer (some ⟨wr.heap.size, 0, none⟩)) (fun wy hcy r hr => tick_closure wy (HEa.out.fresh hcy) wr.heap.size (hcy.cell HGx.out id) r (HEn.out.ok r hr))).mono ?_; rintro e0 w5 ⟨v, rfl, hm5, hc5⟩
             obtain ⟨v', w6, hap, ho6, hc6⟩ := append_out (HT.out.out.kept (HCb.out.trans' (hc5.mono (fun _ _ h => h.elim))) HOld.out) hm5 (Nat.le_trans HFl.out (by omega)) (Nat.le_trans (List.length_filter_le _ _) (Nat.le_trans HEn.out.len (by omega))) (Nat.le_trans HSz.out (HCb.out.trans' (hc5.mono (fun _ _ h => h.elim))).size)
             have HC5 := Lib.hid (HCb.out.trans' (hc5.mono (fun _ _ h => h.elim)))
             have HO6 := Lib.hid ho6
             have HC6 := Lib.hid hc6
             have HN5 := Lib.hid hc5
             skip
             clear hm5 hc5 ho6 hc6)
          | (at_builtin; have _h := hap; refine wpList_append_run rfl _ _ 28 rfl rfl rfl hap ?_; clear hap)
          )
        have hfin : Chg (fun b => e.F b ∨ w1.heap.size ≤ b) wr w6 := (HC5.out.mono (fun _ _ h => Or.inl h)).trans' (HC6.out.mono (fun b _ e1 => Or.inr (out_lt HT.out.out e1.symm)))
        have hun : ∀ b, w1.heap.size ≤ b → ¬ Foot (tickK lim (ks.take k) L) Fc b := fun b hb hF => by have h1 := H.out.foot b (foot_tick b hF); have h2 := HFq.out.2.2.2.2; omega
        have hno : ∀ b, e.F b ∨ Fc b → ¬ some b = u4.ownBlock := fun b hb e1 => by
          have h1 := out_lt HT.out.out e1.symm
          have h2 := HFq.out.2.2.2.2
          have h3 := H.out.foot b (hb.elim (HFt.out b) Or.inl)
          omega
        have hEB : EntIs w6 e.x e.F e.E pv qa := (HEa.out.fresh HN5.out).kept HC6.out (fun b hF e1 => hno b (Or.inl hF) e1)
        have hco : CoIs w6 c Fc lim ((tickK lim (ks.take k) L).map fun p => (p.1, p.2.x)) q := ((HAll.out.co.fresh HCa.out).fresh HN5.out).kept HC6.out (fun b hF e1 => hno b (Or.inr hF) e1)
        refine ⟨⟨k + 1, by go_num, hlt, ?_, ?_, ?_, ?_⟩, meas_step hlt⟩
        · rw [HTk.out, HStep2.out]
          exact HAll.out.upd HGet.out hEB hco hfin (fun b hb => by
            rcases hb with hb | hb
            · exact Or.inr (Or.inl hb)
            · exact Or.inr (Or.inr (hun b hb))) HOk.out
        · rw [HTk.out, List.flatMap_append, List.flatMap_cons, List.flatMap_nil, List.append_nil, HA.out, HM.out]
          exact HO6.out
        · obtain ⟨gl, hgo, hgl⟩ := HT.out.gone
          exact ⟨gl, row_kept (row_kept hgo HC5.out (fun b hb => (HGone.out b hb).1)) HC6.out (fun b hb e1 => own_apart HT.out.out hgo b e1.symm hb), by rw [HTk.out, List.length_append]; omega⟩
        · exact HT.out.chg.trans hfin (fun b hb h => by
            rcases h with h | h
            · exact HFt.out b h
            · omega)
      · have hs2 : e.E.state = 2 := by have := HOk.out.state; omega
        have HS := Lib.hid hs2
        have HNe := Lib.hid (And.intro s1 s3)
        clear s1 s3 hs2
        have HStep2 := Lib.hid (show tickK lim (ks.take k ++ [tx]) L = upd (tickK lim (ks.take k) L) tx e.E from by have := HStep.out; rw [show tickE lim e.E = some e.E from by unfold tickE; rw [if_neg HNe.out.1]] at this; exact this)
        have HM := Lib.hid (show tickM lim tx e.E = [] from by unfold tickM; rw [if_neg HNe.out.1, if_neg HNe.out.2])
        have c1 : wr.cell? ⟨c, 1, none⟩ = some (.map (some q)) := cell_of_block HAll.out.co.head rfl
        have hlk := HAll.out.co.mp.look Try.underlying71 (zero_ent _) false tx (WalkArith.wf_i64 (by have := HTx.out; omega))
        rw [mget_map, HGet.out] at hlk
        have hlk : (Instr.lookup 71 (.map (some q)) (.int .i64 tx) false).run Try.prog wr = .ok (.pointer (some ⟨e.x, 0, none⟩)) wr := hlk
        have hca := (Chg.refl (fun _ => False) wr).alloc (.cells #[.pointer (some ⟨e.x, 0, none⟩)] 76)
        have hEa := HEn.out.fresh hca
        have s0 : (wr.alloc (.cells #[.pointer (some ⟨e.x, 0, none⟩)] 76)).cell? ⟨e.x, 0, none⟩ = some (.int .i64 2) := by rw [← HS.out]; exact cell_of_block hEa.head rfl
        have gx : (wr.alloc (.cells #[.pointer (some ⟨e.x, 0, none⟩)] 76)).cell? ⟨wr.heap.size, 0, none⟩ = some (.pointer (some ⟨e.x, 0, none⟩)) := cell_of_block (block_alloc_new _ _) rfl
        have HEa := Lib.hid hEa
        have HCa := Lib.hid hca
        have HGx := Lib.hid gx
        clear hca hEa
        go_wp2_with fail
        refine ⟨⟨k + 1, by go_num, hlt, ?_, ?_, ?_, ?_⟩, meas_step hlt⟩
        · rw [HTk.out, HStep2.out]
          exact HAll.out.upd HGet.out HEa.out (HAll.out.co.fresh HCa.out) HCa.out (fun _ h => h.elim) HOk.out
        · rw [HTk.out, List.flatMap_append, List.flatMap_cons, List.flatMap_nil, List.append_nil, HA.out, HM.out, List.append_nil]
          exact HT.out.out.kept HCa.out (fun _ _ h => h)
        · obtain ⟨gl, hgo, hgl⟩ := HT.out.gone
          exact ⟨gl, row_kept hgo HCa.out (fun _ _ h => h), by rw [HTk.out, List.length_append]; omega⟩
        · exact HT.out.chg.trans HCa.out (fun _ _ h => h.elim)
  · have hki : ¬ (k : Int) < (ks.length : Int) := by omega
    have hkl' : k = ks.length := by omega
    have HKl' := Lib.hid hkl'
    clear hkl'
    go_wp2_with fail
    go_ret2
    have hT := HT.out
    rw [HKl'.out, List.take_length] at hT
    have hall := hT.all
    rw [tickK_congr (K' := L.map (·.1)) (fun p hp => ⟨fun _ => List.mem_map_of_mem hp, fun _ => HKs.out.2.2 _ (List.mem_map_of_mem hp)⟩)] at hall
    obtain ⟨T, ho, hT1, hT2⟩ := hT.out.is
    exact ⟨_, ⟨_, rfl⟩, ⟨T, OwnRecs.weaken ho HC1.out.size, hT1, hT2⟩, hall, (HC1.out.mono (fun _ _ h => h.elim)).trans' hT.chg⟩

end Go.Proofs.Ytogjjkbgagedpaa.coordg
