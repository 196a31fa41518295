/-
  disk: Write, the walk.
-/
import Derived.Test.YtomceindibnpnaaDiskPut
namespace Go.Proofs.Ytomceindibnpnaa.disks
open Go.RowKit Go.Maps Go.My Go.ChangeMaps
set_option maxRecDepth 100000

variable {w w' : World} {d q : Nat} {F F' : Nat → Prop} {X X' : DV} {bv : Value} {m : List (Int × (Value × List Blk))}

def writeC (X : DV) (i : Int) (n : Nat) : Int := if askedC X i ≠ 0 then askedC X i else if n ≠ 64 then 2 else if X.fuse = 0 then 15 else 0
def DV.write (X : DV) (i : Int) (b : Blk) : DV := if askedC X i ≠ 0 ∨ b.length ≠ 64 then X else if X.fuse = 0 then X.burn else X.burn.put i.toNat b

theorem DiskIs.grown (h : DiskIs w d F X bv q m) {w0 : World} (hs : w0.heap.size ≤ w.heap.size) : DiskAt w d (grow F w0 w) X :=
  ⟨bv, q, m, h.wide (fun _ h => Or.inl h) (by rintro k (hk | hk); exact h.lt k hk; exact hk.2)⟩

theorem take_list {P : Program} {md : Region.Mode} {l : List Oper} {Q : Exit → Go.Act → World → Prop} {S : World → Prop} {i : Nat} {oi : Oper} {v : Value} {fuel : Nat} {listed : Array Bool} {a : Go.Act} {w : World} (hi : l[i]? = some oi)
    (hs : Region.noSelect l.toArray = true) (hf : Region.free md l.toArray listed i = true) (hr : (Region.ready md l.toArray listed).contains i = true)
    (hQ : ∀ c a w, Q (.panic c) (a.put oi.dst v) w → Q (.panic c) a w) (hy : YieldsIf P l.toArray S oi v a) (hS : S w)
    (h : wpAnyH P md l.toArray Q S fuel (listed.setIfInBounds i true) (a.put oi.dst v) w) : wpAnyH P md l.toArray Q S (fuel + 1) listed a w :=
  wpAnyH_take (by simpa using hi) hs hf hr hQ hy hS h

theorem one_list {P : Program} {md : Region.Mode} {l : List Oper} {Q : Exit → Go.Act → World → Prop} {S : World → Prop} {i : Nat} {o : Oper} {rs : List Nat} {fuel : Nat} {listed : Array Bool} {a : Go.Act} {w : World} (hi : l[i]? = some o)
    (hw : Region.wanted o (yielded l.toArray a.tmps) = true)
    (h : ∀ K : Go.Act → World → Prop, (∀ a w, S w → (S w → wpAnyH P md l.toArray Q S fuel (listed.setIfInBounds i true) a w) → K a w) → Oper.wp P o a w K Q)
    (hs : AllReadyH P md l.toArray Q S fuel listed a w rs) : AllReadyH P md l.toArray Q S fuel listed a w (i :: rs) := by
  refine AllReadyH.cons (o := o) (by simpa using hi) (fun K hK => ?_) hs
  rw [if_pos hw]
  exact h K hK.out

theorem oper_append {P : Program} {o : Oper} {a : Go.Act} {w w' : World} {K : Go.Act → World → Prop} {Q : Exit → Go.Act → World → Prop} (s x : Operand) (t : TypeId)
    (ho : o.op = .call { callee := .builtin .append, args := #[s, x], argTypes := #[t, t] }) {v sv xv : Value} (hs : a.eval s = sv) (hx : a.eval x = xv)
    (hr : (Builtin.append_ #[t, t] o.type #[sv, xv]).run P w = .ok v w') (h : K (a.put o.dst v) w') : Oper.wp P o a w K Q := by
  unfold Oper.wp execOp
  simp only [ho, resolve, invoke, builtin, Sem.run_bind, Sem.run_pure, Result.andThen_ok, List.map_toArray, List.map_cons, List.map_nil, hs, hx, hr]
  exact h

set_option maxHeartbeats 4000000 in
theorem write_any (w : World) (h : DiskIs w d F X bv q m) (i : Int) (hi : inR i) (hf : X.fuse ≤ 9223372036854775807) (oa : Option Addr) (n cap : Nat) (b : Blk) (hb : SlAt w (.slice oa n cap) (cellsB b)) (hbf : ∀ a, oa = some a → ¬ F a.block) (hL : ∀ j, (X.L j).length < 1000000) :
    Calls Try.prog 33 #[.pointer (some ⟨d, 0, none⟩), .int .i64 i, .slice oa n cap] w fun e w' => e = .returned (.int .i64 (writeC X i b.length)) ∧ DiskAt w' d (grow F w w') (X.write i b) ∧ Chg F w w' := by
  obtain ⟨i0, hI0⟩ := info_parts info_block
  have HI0 := Lib.hid hI0
  clear hI0
  obtain rfl : n = b.length := by
    obtain ⟨_, _, h1, _⟩ := hb
    simp only [Value.slice.injEq] at h1
    rw [h1.2.1, cellsB_length]
  have H := Lib.hid h
  have HB := Lib.hid hb
  have HF := Lib.hid hbf
  have HL := Lib.hid hL
  by_cases ha : askedC X i = 0
  · obtain ⟨k, rfl, hk⟩ : ∃ k : Nat, i = (k : Int) ∧ k < X.B.length := by
      unfold askedC at ha
      split at ha
      · omega
      · split at ha
        · exact ⟨i.toNat, by omega, by omega⟩
        · omega
    by_cases hb64 : b.length = 64
    · obtain ⟨g, off, rfl⟩ : ∃ g off, oa = some ⟨g, off, none⟩ := by
        obtain ⟨oa', cap', h1, h2, -⟩ := hb
        simp only [Value.slice.injEq] at h1
        rw [h1.1]
        exact h2 (by intro e; have := congrArg List.length e; rw [cellsB_length, hb64] at this; simp at this)
      have hb65 : ((b.length : Int) != 64) = false := by rw [hb64]; rfl
      clear h hb hbf hL
      by_cases hz : X.fuse = 0
      · go_enter Try.func33, Try.ntmps33
        go_wp2_with (first
          | (go_at_call 61; refine (asked_any _ ⟨_, _, _, H.out⟩ _).mono ?_; rw [ha]; rintro e w' ⟨rfl, rfl⟩)
          | (go_at_call 62; refine (through_any _ H.out hf).mono ?_; simp only [hz, ne_eq, not_true_eq_false, decide_false]; rintro e w1 ⟨rfl, h1, hc1⟩))
        go_ret
        refine ⟨by simp [writeC, ha, hb64, hz], ?_, hc1.mono (fun j _ e => e ▸ H.out.fd)⟩
        rw [DV.write, if_neg (by simp [ha, hb64]), if_pos hz]
        exact h1.grown hc1.size
      · go_enter Try.func33, Try.ntmps33
        go_wp2_with (first
          | (go_at_call 61; refine (asked_any _ ⟨_, _, _, H.out⟩ _).mono ?_; rw [ha]; rintro e w' ⟨rfl, rfl⟩)
          | (go_at_call 62; refine (through_any _ H.out hf).mono ?_; simp only [hz, ne_eq, not_false_eq_true, decide_true]; rintro e w1 ⟨rfl, h1, hc1⟩))
        have hd1 : g ≠ d := fun e => HF.out _ rfl (by rw [show (⟨g, off, none⟩ : Addr).block = g from rfl, e]; exact H.out.fd)
        have hr : w1.rangeAt g off (cellsB b) := by
          obtain ⟨oa', cap', e1, -, e3⟩ := HB.out
          simp only [Value.slice.injEq] at e1
          intro j x hx
          exact hc1.cell (e3 g off e1.1.symm j x hx) (fun e => hd1 e)
        have hYL : X.burn.L = X.L := by rw [DV.burn, if_neg hz]
        have hYB : X.burn.B = X.B := by rw [DV.burn, if_neg hz]
        obtain ⟨u, hu, hou, hum⟩ := h1.looked' k
        rw [hYL] at hou hum
        have H1 := Lib.hid h1
        have HC1 := Lib.hid hc1
        obtain ⟨wb, hwb⟩ : ∃ wb, (w1.alloc (.cells (cellsB b).toArray 112)).drew = wb := ⟨_, rfl⟩
        have hcb : Chg (fun _ => False) w1 wb := by subst hwb; exact ((Chg.refl _ _).alloc _).drew
        have hsb : wb.heap.size = w1.heap.size + 1 := by subst hwb; exact World.size_alloc _ _
        have hlb : (cellsB b).length = 64 := by rw [cellsB_length, hb64]
        obtain ⟨v', w2, hap, ho, hg, -, hv⟩ := run_append_own_at (P := Try.prog) wb 0 91 91 112 i0 (.agg (Array.replicate 64 (.int .u8 0))) 64 64 Try.underlying91 HI0.out.1 HI0.out.2.1 HI0.out.2.2.1 HI0.out.2.2.2 (by simp [Value.cells]) (by omega)
          u _ _ (hou.kept hcb (fun _ _ h => h)).row ⟨w1.heap.size, 0, none⟩ 1 1 (cellsB b) (by rw [hlb]) (by subst hwb; exact cells_new w1 (cellsB b) _) (one_cellsB b) (by have := HL.out k; simp only [List.length_map]; unfold maxLen; omega) (by have := HL.out k; simp only [List.length_map]; omega) (by omega)
        have hO : OwnRecs w2 0 112 64 v' ((X.L k ++ [b]).map cellsB) := ⟨by simpa using ho, fun r hr => by
          rw [List.map_append, List.mem_append] at hr
          rcases hr with hr | hr
          · exact hou.each r hr
          · simp only [List.map_cons, List.map_nil, List.mem_singleton] at hr
            rw [hr]; exact hlb⟩
        have hC2 : Chg (fun j => some j = u.ownBlock) w1 w2 := Chg.trans' (hcb.mono (fun _ _ h => h.elim)) (Chg.of_grown hg)
        have huF : ∀ j, some j = u.ownBlock → F j := fun j e => by
          rcases hum with hum | hum
          · rw [hum] at e; cases e
          · exact H1.out.fm _ (by rw [← hYL] at hum; exact hum) j e.symm
        have huq : ¬ some q = u.ownBlock := fun e => row_ne_q H1.out hou e.symm
        have hud : ¬ some d = u.ownBlock := fun e => row_ne_d H1.out hou e.symm
        have hgF : ¬ F g := HF.out _ rfl
        have hgq : g ≠ q := fun e => hgF (e ▸ H.out.fq)
        have hgu : ¬ some g = u.ownBlock := fun e => hgF (huF g e)
        obtain ⟨ob, hput, hmap⟩ := (H1.out.wmap.kept hC2 huq).put Try.underlying92 (k : Int) (inR_wf hi) (v', X.L k ++ [b])
        have hput' : (Instr.mapUpdate 92 (.map (some q)) (.int .i64 k) v').run Try.prog w2 = .ok () (setBlock w2 q ob) := hput
        have hC3 : Chg (· = q) w2 (setBlock w2 q ob) := Chg.setBlock (S := (· = q)) (Chg.refl _ _) (fun _ => rfl) _
        have c1 : w1.cell? ⟨d, 1, none⟩ = some (.map (some q)) := cell_of_block H1.out.head rfl
        have k0 : w1.drew.cell? ⟨d, 1, none⟩ = some (.map (some q)) := c1
        have k1 := hcb.cell c1 id
        have k2 := hC2.cell c1 hud
        have k3 := hC3.cell k2 (fun e => H1.out.d_ne_q e)
        have r0 : w1.drew.rangeAt g off (cellsB b) := hr
        have r1 : wb.rangeAt g off (cellsB b) := fun j x hx => hcb.cell (hr j x hx) id
        have r2 : w2.rangeAt g off (cellsB b) := fun j x hx => hC2.cell (hr j x hx) hgu
        have r3 : (setBlock w2 q ob).rangeAt g off (cellsB b) := fun j x hx => hC3.cell (r2 j x hx) (fun e => hgq e)
        have hlk0 : (Instr.lookup 92 (.map (some q)) (.int .i64 k) false).run Try.prog w1.drew = .ok u w1.drew := by
          have := (H1.out.wmap.kept ((Chg.refl (fun _ => False) w1).drew) (fun h => h)).look Try.underlying92 (zero_blocks _) false (k : Int) (inR_wf hi)
          rw [hu] at this; exact this
        have hlk1 : (Instr.lookup 92 (.map (some q)) (.int .i64 k) false).run Try.prog wb = .ok u wb := by
          have := (H1.out.wmap.kept hcb (fun h => h)).look Try.underlying92 (zero_blocks _) false (k : Int) (inR_wf hi)
          rw [hu] at this; exact this
        have hsa : ∀ w', (Instr.arrayAt 112 (.slice (some ⟨g, off, none⟩) 64 cap)).run Try.prog w' = .ok (.pointer (some ⟨g, off, none⟩)) w' := fun w' => run_arrayAt _ _ _ 64 _ _ _ Try.underlying112 (by omega)
        have hfd : ∀ z : Array Value, z.size = 64 → List.foldl (fun (cs : Array Value) (x : Value × Nat) => cs.setIfInBounds x.snd x.fst) z (cellsB b).zipIdx = (cellsB b).toArray := fun z hz => by
          have := foldl_set (cellsB b) 0 [] z.toList rfl (by simp [hlb, hz])
          rw [show ([] ++ z.toList : List Value).toArray = z from by simp, List.drop_eq_nil_of_le (by simp [hlb, hz])] at this
          simpa using this
        have hty := Try.underlying112
        have hsz : (Try.prog.info? 112).map (·.size) = some (cellsB b).length := by rw [hlb]; exact size_block
        have hoc := one_cellsB b
        have hfin := H1.out.putL (by rw [hYB]; exact hk) (by rw [hYL]; exact hum) hC2 (by rw [hYL]; exact hO) (by rcases hv with hv | hv; exact Or.inl hv; exact Or.inr ⟨_, by omega, hv⟩) (by rw [hYL]; exact hmap) hC3
        have hAt : DiskAt (setBlock w2 q ob) d (grow F w (setBlock w2 q ob)) (X.write k b) := ⟨_, _, _, by
          rw [DV.write, if_neg (by simp [ha, hb64]), if_neg hz, Int.toNat_natCast]
          exact hfin.wide (by rintro j (hj | hj); exact Or.inl hj; exact Or.inr ⟨Nat.le_trans hc1.size hj.1, hj.2⟩) (by rintro j (hj | hj); exact hfin.lt j (Or.inl hj); exact hj.2)⟩
        have hChg : Chg F w (setBlock w2 q ob) := Chg.trans' (Chg.trans' (hc1.mono (fun j _ e => e ▸ H.out.fd)) (hC2.mono (fun j _ e => huF j e))) (hC3.mono (fun j _ e => e ▸ H1.out.fq))
        have HFin := Lib.hid (And.intro hAt hChg)
        clear hAt hChg
        clear hfin hC2 hC3 hput hmap h1 hc1 hu hou hum ho hg hv hO hr c1 huF huq hud hgF hgq hgu
        subst hwb
        refine wp_region_noPanic ?_
        refine wp_region_held_drew (S := fun w' => w'.cell? ⟨d, 1, none⟩ = some (.map (some q)) ∧ w'.rangeAt g off (cellsB b)) (by kernel_rfl) ⟨k0, r0⟩ (fun hHeld => ?_)
        refine take_list (i := 0) (v := ?_) rfl (by kernel_rfl) (by kernel_rfl) (by kernel_rfl) (fun _ _ _ h => h) (Or.inl ⟨by rfl, fun w hSw => ?_⟩) hHeld ?_
        rotate_left
        · (obtain ⟨hSw1, hSw2⟩ := hSw; go_simp)
          try with_reducible rfl
        simp only [Act.put, List.setIfInBounds_toArray, List.set_cons_zero, List.set_cons_succ]
        refine take_list (i := 1) (v := ?_) rfl (by kernel_rfl) (by kernel_rfl) (by kernel_rfl) (fun _ _ _ h => h) (Or.inl ⟨by rfl, fun w hSw => ?_⟩) hHeld ?_
        rotate_left
        · (obtain ⟨hSw1, hSw2⟩ := hSw; go_simp)
          try with_reducible rfl
        simp only [Act.put, List.setIfInBounds_toArray, List.set_cons_zero, List.set_cons_succ]
        refine take_list (i := 2) (v := ?_) rfl (by kernel_rfl) (by kernel_rfl) (by kernel_rfl) (fun _ _ _ h => h) (Or.inl ⟨by rfl, fun w hSw => ?_⟩) hHeld ?_
        rotate_left
        · (obtain ⟨hSw1, hSw2⟩ := hSw; go_simp)
          try with_reducible rfl
        simp only [Act.put, List.setIfInBounds_toArray, List.set_cons_zero, List.set_cons_succ]
        refine take_list (i := 3) (v := ?_) rfl (by kernel_rfl) (by kernel_rfl) (by kernel_rfl) (fun _ _ _ h => h) (Or.inl ⟨by rfl, fun w hSw => ?_⟩) hHeld ?_
        rotate_left
        · (obtain ⟨hSw1, hSw2⟩ := hSw; go_simp)
          try with_reducible rfl
        simp only [Act.put, List.setIfInBounds_toArray, List.set_cons_zero, List.set_cons_succ]
        refine take_list (i := 4) (v := ?_) rfl (by kernel_rfl) (by kernel_rfl) (by kernel_rfl) (fun _ _ _ h => h) (Or.inl ⟨by rfl, fun w hSw => ?_⟩) hHeld ?_
        rotate_left
        · (obtain ⟨hSw1, hSw2⟩ := hSw; go_simp)
          try with_reducible rfl
        simp only [Act.put, List.setIfInBounds_toArray, List.set_cons_zero, List.set_cons_succ]
        refine take_list (i := 5) (v := ?_) rfl (by kernel_rfl) (by kernel_rfl) (by kernel_rfl) (fun _ _ _ h => h) (Or.inl ⟨by rfl, fun w hSw => ?_⟩) hHeld ?_
        rotate_left
        · (obtain ⟨hSw1, hSw2⟩ := hSw; go_simp)
          try with_reducible rfl
        simp only [Act.put, List.setIfInBounds_toArray, List.set_cons_zero, List.set_cons_succ]
        refine take_list (i := 6) (v := ?_) rfl (by kernel_rfl) (by kernel_rfl) (by kernel_rfl) (fun _ _ _ h => h) (Or.inl ⟨by rfl, fun w hSw => ?_⟩) hHeld ?_
        rotate_left
        · (obtain ⟨hSw1, hSw2⟩ := hSw; go_simp)
          try with_reducible rfl
        simp only [Act.put, List.setIfInBounds_toArray, List.set_cons_zero, List.set_cons_succ]
        refine take_list (i := 7) (v := ?_) rfl (by kernel_rfl) (by kernel_rfl) (by kernel_rfl) (fun _ _ _ h => h) (Or.inl ⟨by rfl, fun w hSw => ?_⟩) hHeld ?_
        rotate_left
        · (obtain ⟨hSw1, hSw2⟩ := hSw; go_simp)
          try with_reducible rfl
        simp only [Act.put, List.setIfInBounds_toArray, List.set_cons_zero, List.set_cons_succ]
        refine take_list (i := 8) (v := ?_) rfl (by kernel_rfl) (by kernel_rfl) (by kernel_rfl) (fun _ _ _ h => h) (Or.inl ⟨by rfl, fun w hSw => ?_⟩) hHeld ?_
        rotate_left
        · (obtain ⟨hSw1, hSw2⟩ := hSw; go_simp)
          try with_reducible rfl
        simp only [Act.put, List.setIfInBounds_toArray, List.set_cons_zero, List.set_cons_succ]
        refine take_list (i := 9) (v := ?_) rfl (by kernel_rfl) (by kernel_rfl) (by kernel_rfl) (fun _ _ _ h => h) (Or.inl ⟨by rfl, fun w hSw => ?_⟩) hHeld ?_
        rotate_left
        · (obtain ⟨hSw1, hSw2⟩ := hSw; go_simp)
          try with_reducible rfl
        simp only [Act.put, List.setIfInBounds_toArray, List.set_cons_zero, List.set_cons_succ]
        refine take_list (i := 11) (v := ?_) rfl (by kernel_rfl) (by kernel_rfl) (by kernel_rfl) (fun _ _ _ h => h) (Or.inl ⟨by rfl, fun w hSw => ?_⟩) hHeld ?_
        rotate_left
        · (obtain ⟨hSw1, hSw2⟩ := hSw; go_simp)
          try with_reducible rfl
        simp only [Act.put, List.setIfInBounds_toArray, List.set_cons_zero, List.set_cons_succ]
        refine take_list (i := 12) (v := ?_) rfl (by kernel_rfl) (by kernel_rfl) (by kernel_rfl) (fun _ _ _ h => h) (Or.inl ⟨by rfl, fun w hSw => ?_⟩) hHeld ?_
        rotate_left
        · (obtain ⟨hSw1, hSw2⟩ := hSw; go_simp)
          try with_reducible rfl
        simp only [Act.put, List.setIfInBounds_toArray, List.set_cons_zero, List.set_cons_succ]
        refine take_list (i := 13) rfl (by kernel_rfl) (by kernel_rfl) (by kernel_rfl) (fun _ _ _ h => h) (yieldsIf_load_mid (by rfl) _ _ rfl _ _ rfl (cellsB b) _ (fun w h => h.2) hty rfl hsz) hHeld ?_
        simp only [Act.put, List.setIfInBounds_toArray, List.set_cons_zero, List.set_cons_succ]
        refine wpAnyH_ready (rs := [10, 14]) (by kernel_rfl) (by simp) (one_list (i := 10) rfl (by rfl) (fun K hK => ?_) (one_list (i := 14) rfl (by rfl) (fun K hK => ?_) AllReadyH.nil))
        · go_simp
          refine hK _ _ ⟨k0, r0⟩ (fun hHeld1 => ?_)
          try simp only [Act.put, List.setIfInBounds_toArray, List.set_cons_zero, List.set_cons_succ]
          refine wpAnyH_ready (rs := [14]) (by kernel_rfl) (by simp) (one_list (i := 14) rfl (by rfl) (fun K hK => ?_) AllReadyH.nil)
          go_simp
          refine hK _ _ ⟨k1, r1⟩ (fun hHeld1 => ?_)
          try simp only [Act.put, List.setIfInBounds_toArray, List.set_cons_zero, List.set_cons_succ]
          refine wpAnyH_ready (rs := [15]) (by kernel_rfl) (by simp) (one_list (i := 15) rfl (by rfl) (fun K hK => ?_) AllReadyH.nil)
          refine oper_append _ _ _ rfl rfl rfl hap ?_
          refine hK _ _ ⟨k2, r2⟩ (fun hHeld3 => ?_)
          simp only [Act.put, List.setIfInBounds_toArray, List.set_cons_zero, List.set_cons_succ]
          refine wpAnyH_ready (rs := [16]) (by kernel_rfl) (by simp) (one_list (i := 16) rfl (by rfl) (fun K hK => ?_) AllReadyH.nil)
          go_simp
          refine hK _ _ ⟨k3, r3⟩ (fun hHeld4 => ?_)
          try simp only [Act.put, List.setIfInBounds_toArray, List.set_cons_zero, List.set_cons_succ]
          refine wpAnyH_done (by kernel_rfl) ?_ _
          refine NoPanic.normal ?_
          go_wp2
          go_ret
          exact ⟨by simp [writeC, ha, hb64, hz], HFin.out⟩
        · go_simp
          refine hK _ _ ⟨k1, r1⟩ (fun hHeld1 => ?_)
          try simp only [Act.put, List.setIfInBounds_toArray, List.set_cons_zero, List.set_cons_succ]
          refine wpAnyH_ready (rs := [10]) (by kernel_rfl) (by simp) (one_list (i := 10) rfl (by rfl) (fun K hK => ?_) AllReadyH.nil)
          go_simp
          refine hK _ _ ⟨k1, r1⟩ (fun hHeld1 => ?_)
          try simp only [Act.put, List.setIfInBounds_toArray, List.set_cons_zero, List.set_cons_succ]
          refine wpAnyH_ready (rs := [15]) (by kernel_rfl) (by simp) (one_list (i := 15) rfl (by rfl) (fun K hK => ?_) AllReadyH.nil)
          refine oper_append _ _ _ rfl rfl rfl hap ?_
          refine hK _ _ ⟨k2, r2⟩ (fun hHeld3 => ?_)
          simp only [Act.put, List.setIfInBounds_toArray, List.set_cons_zero, List.set_cons_succ]
          refine wpAnyH_ready (rs := [16]) (by kernel_rfl) (by simp) (one_list (i := 16) rfl (by rfl) (fun K hK => ?_) AllReadyH.nil)
          go_simp
          refine hK _ _ ⟨k3, r3⟩ (fun hHeld4 => ?_)
          try simp only [Act.put, List.setIfInBounds_toArray, List.set_cons_zero, List.set_cons_succ]
          refine wpAnyH_done (by kernel_rfl) ?_ _
          refine NoPanic.normal ?_
          go_wp2
          go_ret
          exact ⟨by simp [writeC, ha, hb64, hz], HFin.out⟩
    · have hb65 : ((b.length : Int) != 64) = true := by simp; omega
      clear h hb hbf hL
      go_enter Try.func33, Try.ntmps33
      go_wp2_with (first
        | (go_at_call 61; refine (asked_any _ ⟨_, _, _, H.out⟩ _).mono ?_; rw [ha]; rintro e w' ⟨rfl, rfl⟩))
      go_ret
      refine ⟨by simp [writeC, ha, hb64], ?_, Chg.refl _ _⟩
      rw [DV.write, if_pos (Or.inr hb64)]
      exact H.out.grown (Nat.le_refl _)
  · have hne : (askedC X i != 0) = true := by simpa using ha
    clear h hb hbf hL
    go_enter Try.func33, Try.ntmps33
    go_wp2_with (first
      | (go_at_call 61; refine (asked_any _ ⟨_, _, _, H.out⟩ _).mono ?_; rintro e w' ⟨rfl, rfl⟩))
    go_ret
    refine ⟨by simp [writeC, ha], ?_, Chg.refl _ _⟩
    rw [DV.write, if_pos (Or.inl ha)]
    exact H.out.grown (Nat.le_refl _)

end Go.Proofs.Ytomceindibnpnaa.disks
