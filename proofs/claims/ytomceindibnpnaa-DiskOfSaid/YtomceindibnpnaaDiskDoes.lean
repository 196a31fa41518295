/-
  disk's law: 'does': a call on both.
-/
import Derived.Test.YtomceindibnpnaaDiskDuo
import Derived.Deep.RegionHeld3
namespace Go.Proofs.Ytomceindibnpnaa.disks
open Go.RowKit Go.Maps Go.My Go.ChangeMaps diskTwins
set_option maxRecDepth 100000

variable {W w w' : World} {d r : Nat} {Fd Fr : Nat → Prop} {X X' : DV} {R R' : RV} {n : Nat} {a : DAct}

/-- What a call leaves. -/
def DoesOut (W w' : World) (d r : Nat) (n : Nat) : Prop := ∃ Fd Fr X R, Duo W w' d r Fd Fr X R ∧ Link X R (n + 1)

theorem Duo.keep (h : Duo W w d r Fd Fr X R) {S : Nat → Prop} (hc : Chg S w w') (h1 : ∀ k, S k → ¬ Fd k) (h2 : ∀ k, S k → ¬ Fr k) (h3 : ∀ k, S k → W.heap.size ≤ k) : Duo W w' d r Fd Fr X R :=
  ⟨h.x.kept hc (fun k hk hs => h1 k hs hk), h.y.kept hc (fun k hk hs => h2 k hs hk), h.ap, h.ox, h.oy, h.chg.new hc h3⟩

theorem read_at2 (h : DiskAt w d Fd X) (i : Int) (hi : inR i) :
    Calls Try.prog 35 #[.pointer (some ⟨d, 0, none⟩), .int .i64 i] w fun e w' => ∃ v, e = .returned (.tuple #[v, .int .i64 (askedC X i)]) ∧
      w'.ownsRow w.heap.size 5 1 v (if askedC X i = 0 then 64 else 0) (cellsB (if askedC X i = 0 then X.cur i.toNat else [])) ∧ Chg (fun _ => False) w w' := by
  obtain ⟨bv, q, m, h⟩ := h
  exact read_any w h i hi

theorem bytes_len (a : DAct) : (bytesOf a).length = lenOf a := by simp [bytesOf]

theorem info_int : (Try.prog.info? 3).map (fun i => (i.zero, i.size, i.bytes)) = some (some (.int .i64 0), 1, 8) := by kernel_rfl

/-- What holds at the start: the box of the act. -/
structure DStart (W w w0 : World) (d r : Nat) (Fd Fr : Nat → Prop) (X : DV) (R : RV) (n : Nat) (a : DAct) : Prop where
  chg : Chg (fun _ => False) w w0
  duo : Duo W w0 d r Fd Fr X R
  box : w0.heap[w.heap.size]? = some (.cells #[.int .i64 a.kind, .int .i64 a.place, .int .i64 a.n, .int .i64 a.long, a.kv] 66 (0, 0))
  lt : w.heap.size < w0.heap.size
  fx : ∀ k, Fd k → k < w.heap.size
  fy : ∀ k, Fr k → k < w.heap.size
  link : Link X R n
  rs : R.S.length < 1000000
  b4 : R.B.length ≤ 4096
  rne : R.B ≠ []
  ls : ∀ j, (X.L j).length < 1000000

theorem does_start (h : Duo W w d r Fd Fr X R) (hl : Link X R n) (hn : n < 100000) (a : DAct) : DStart W w (w.alloc (.cells #[.int .i64 a.kind, .int .i64 a.place, .int .i64 a.n, .int .i64 a.long, a.kv] 66)) d r Fd Fr X R n a := by
  have hc : Chg (fun _ => False) w (w.alloc (.cells #[.int .i64 a.kind, .int .i64 a.place, .int .i64 a.n, .int .i64 a.long, a.kv] 66)) := (Chg.refl _ _).alloc _
  have hb := block_alloc_new w (.cells #[.int .i64 a.kind, .int .i64 a.place, .int .i64 a.n, .int .i64 a.long, a.kv] 66)
  refine ⟨hc, h.fresh hc, hb, lt_of_block hb, h.ltx, h.lty, hl, by have := hl.S; omega, ?_, ?_, fun j => by have := hl.Ls j; omega⟩
  · rw [hl.m.B]; obtain ⟨_, _, _, h⟩ := h.x; exact h.size
  · rw [hl.m.B]; obtain ⟨_, _, _, h⟩ := h.x; exact h.any



set_option maxHeartbeats 4000000 in
theorem does_0 (w : World) (h : Duo W w d r Fd Fr X R) (hl : Link X R n) (hn : n < 100000) (ok : a.ok W) (k0 : a.kind = 0) :
    Calls Try.prog 45 #[.pointer (some ⟨d, 0, none⟩), .pointer (some ⟨r, 0, none⟩), .agg #[.int .i64 a.kind, .int .i64 a.place, .int .i64 a.n, .int .i64 a.long, a.kv]] w fun e w' => e = .returned (.bool true) ∧ DoesOut W w' d r n := by
  have hst := does_start h hl hn a
  have hk0 : (a.kind == 0) = true := by simp [k0]
  obtain ⟨z, hz⟩ : ∃ z, writeC X a.place (lenOf a) = z := ⟨_, rfl⟩
  have hzz : (z == z) = true := by simp
  have hlen := lenOf_lt a
  have HZ := Lib.hid hz
  clear h hl hz k0
  go_enter Try.func45, Try.ntmps45
  go_wp2_with fail
  obtain ⟨w0, hw0⟩ : ∃ w0, w.alloc (.cells #[.int .i64 a.kind, .int .i64 a.place, .int .i64 a.n, .int .i64 a.long, a.kv] 66) = w0 := ⟨_, rfl⟩
  rw [hw0]
  rw [hw0] at hst
  have S0 := Lib.hid hst
  have q0 := cell_of_block hst.box (i := 0) rfl
  have q1 := cell_of_block hst.box (i := 1) rfl
  have q2 := cell_of_block hst.box (i := 2) rfl
  have q3 := cell_of_block hst.box (i := 3) rfl
  have q4 := cell_of_block hst.box (i := 4) rfl
  clear hst hw0
  go_wp2_with (first
    | (go_at_call 34; refine (bytesOf_any _ a ok.n ok.long).mono ?_; rintro e w1 ⟨v, rfl, hv, hc1⟩
       obtain ⟨oav, cv, rfl⟩ := own_slice hv
       have HV := Lib.hid (show w1.ownsRow w0.heap.size 5 1 (.slice oav (lenOf a) cv) (lenOf a) (cellsB (bytesOf a)) from hv)
       have HC1 := Lib.hid hc1
       have p1 := hc1.cell q1 id
       clear hv hc1)
    | (go_at_call 33; refine (write_at _ (S0.out.duo.fresh HC1.out).x _ ok.place S0.out.link.fu (b := bytesOf a) HV.out (fun g hg hF => by have := (HV.out.lt g hg).1; have := S0.out.fx g hF; have := S0.out.lt; omega) S0.out.ls).mono ?_; rw [bytes_len, HZ.out]; rintro e w2 ⟨rfl, hx, hc2⟩
       have hD2 := (S0.out.duo.fresh HC1.out).growX hx hc2
       have hV2 := row_kept HV.out hc2 (fun g hg hF => by have := (HV.out.lt g hg).1; have := S0.out.fx g hF; have := S0.out.lt; omega)
       have hcv := conv_own hV2
       obtain ⟨bs, hbs⟩ : ∃ bs : ByteArray, (⟨(bytesOf a).toArray⟩ : ByteArray) = bs := ⟨_, rfl⟩
       rw [hbs] at hcv
       have r1 := hc2.cell p1 (fun hF => Nat.lt_irrefl _ (S0.out.fx _ hF))
       have D2 := Lib.hid hD2
       have V2 := Lib.hid hV2
       have HBs := Lib.hid hbs
       have HC2 := Lib.hid hc2
       clear hx hc2 hD2 hV2 hbs)
    | (go_at_call 67; obtain ⟨bv, lv, hI⟩ := D2.out.y; refine (refwrite_any _ hI a.place S0.out.link.fr (bytesOf a) S0.out.rs bs HBs.out.symm).mono ?_; rw [S0.out.link.m.writeC, bytes_len, HZ.out]; rintro e w3 ⟨rfl, hy, hc3⟩
       have hD3 := D2.out.growY hy hc3
       have hV3 := row_kept V2.out hc3 (fun g hg hF => by have := (HV.out.lt g hg).1; have := S0.out.fy g hF; have := S0.out.lt; omega)
       have DF := Lib.hid hD3
       have HVz := Lib.hid hV3
       clear hI hy hc3 hD3 hV3))
  have hown : ∀ x, (Value.slice oav (lenOf a) cv).ownBlock = some x → ¬ grow Fd w1 w2 x ∧ ¬ grow Fr w2 w3 x ∧ W.heap.size ≤ x := fun x e => by
    have h1 := HV.out.lt x e
    have h2 := S0.out.lt
    have h3 := HC2.out.size
    have h4 := S0.out.duo.chg.size
    refine ⟨fun hF => ?_, fun hF => ?_, by omega⟩
    · rcases hF with hF | hF
      · have := S0.out.fx x hF; omega
      · have := hF.1; omega
    · rcases hF with hF | hF
      · have := S0.out.fy x hF; omega
      · have := hF.1; omega
  have LF := Lib.hid (S0.out.link.write a.place (bytesOf a))
  have HOwn := Lib.hid hown
  clear hown q0 q1 q2 q3 q4 p1 r1 hcv
  go_loopw [36] (fun j wr => ∃ k : Nat, j = .int .i64 k ∧ k ≤ (lenOf a) ∧ (∃ b' : Blk, wr.ownsRow w0.heap.size 5 1 (.slice oav (lenOf a) cv) (lenOf a) (cellsB b')) ∧ Chg (fun x => (Value.slice oav (lenOf a) cv).ownBlock = some x) w3 wr) (fun j _ => (lenOf a) - (intOf j).toNat)
  · exact ⟨0, rfl, Nat.zero_le _, ⟨_, HVz.out⟩, Chg.refl _ _⟩
  obtain ⟨k, rfl, hk, ⟨b', hb'⟩, hc'⟩ := hrel
  have HC' := Lib.hid hc'
  by_cases hltk : k < (lenOf a)
  · have hkk : (k : Int) < ((lenOf a) : Int) := by omega
    obtain ⟨gg, c, rfl, hcc, hzz, hbg, hbg2, hnext⟩ := inc_at hb' hltk
    have HNext := Lib.hid hnext
    clear hb' hc' hnext
    go_wp2_with fail
    refine ⟨⟨k + 1, by go_num, hltk, ⟨_, HNext.out _ (by first | exact inc_wrap _ | exact inc_mod _)⟩, HC'.out.setCell (p := ⟨gg, k, none⟩) (fun _ => rfl) _⟩, meas_step hltk⟩
  · have hkk : ¬ (k : Int) < ((lenOf a) : Int) := by omega
    clear hb' hc'
    go_wp2_with fail
    go_ret
    refine ⟨(by first | rfl | simp), _, _, _, _, DF.out.keep HC'.out (fun x e => ?_) (fun x e => ?_) (fun x e => ?_), LF.out⟩
    · exact (HOwn.out x e).1
    · exact (HOwn.out x e).2.1
    · exact (HOwn.out x e).2.2

set_option maxHeartbeats 4000000 in
theorem does_1 (w : World) (h : Duo W w d r Fd Fr X R) (hl : Link X R n) (hn : n < 100000) (k0 : a.kind = 1) :
    Calls Try.prog 45 #[.pointer (some ⟨d, 0, none⟩), .pointer (some ⟨r, 0, none⟩), .agg #[.int .i64 a.kind, .int .i64 a.place, .int .i64 a.n, .int .i64 a.long, a.kv]] w fun e w' => e = .returned (.bool true) ∧ DoesOut W w' d r n := by
  have hst := does_start h hl hn a
  have hk0 : (a.kind == 0) = false := by simp [k0]
  have hk1 : (a.kind == 1) = true := by simp [k0]
  obtain ⟨z, hz⟩ : ∃ z, flushC X = z := ⟨_, rfl⟩
  have hzz : (z == z) = true := by simp
  have HZ := Lib.hid hz
  clear h hl hz k0
  go_enter Try.func45, Try.ntmps45
  go_wp2_with fail
  obtain ⟨w0, hw0⟩ : ∃ w0, w.alloc (.cells #[.int .i64 a.kind, .int .i64 a.place, .int .i64 a.n, .int .i64 a.long, a.kv] 66) = w0 := ⟨_, rfl⟩
  rw [hw0]
  rw [hw0] at hst
  have S0 := Lib.hid hst
  have q0 := cell_of_block hst.box (i := 0) rfl
  have q1 := cell_of_block hst.box (i := 1) rfl
  have q2 := cell_of_block hst.box (i := 2) rfl
  have q3 := cell_of_block hst.box (i := 3) rfl
  have q4 := cell_of_block hst.box (i := 4) rfl
  clear hst hw0
  go_wp2_with (first
    | (go_at_call 30; refine (flush_at _ S0.out.duo.x S0.out.link.fu).mono ?_; rw [HZ.out]; rintro e w2 ⟨rfl, hx, hc2⟩
       have D2 := Lib.hid (S0.out.duo.setX hx hc2)
       clear hx hc2)
    | (go_at_call 68; obtain ⟨bv, lv, hI⟩ := D2.out.y; refine (refflush_any _ hI S0.out.link.fr S0.out.rs S0.out.b4).mono ?_; rw [S0.out.link.m.flushC, HZ.out]; rintro e w3 ⟨rfl, hy, hc3⟩
       have DF := Lib.hid (D2.out.growY hy hc3)
       clear hI hy hc3))
  go_ret
  refine ⟨rfl, ?_⟩
  exact ⟨_, _, _, _, DF.out, S0.out.link.flush.more (Nat.le_succ _)⟩

set_option maxHeartbeats 4000000 in
theorem does_2 (w : World) (h : Duo W w d r Fd Fr X R) (hl : Link X R n) (hn : n < 100000) (ok : a.ok W) (k0 : a.kind = 2) :
    Calls Try.prog 45 #[.pointer (some ⟨d, 0, none⟩), .pointer (some ⟨r, 0, none⟩), .agg #[.int .i64 a.kind, .int .i64 a.place, .int .i64 a.n, .int .i64 a.long, a.kv]] w fun e w' => e = .returned (.bool true) ∧ DoesOut W w' d r n := by
  have hst := does_start h hl hn a
  have hk0 : (a.kind == 0) = false := by simp [k0]
  have hk1 : (a.kind == 1) = false := by simp [k0]
  have hk2 : (a.kind == 2) = true := by simp [k0]
  obtain ⟨z, hz⟩ : ∃ z, askedC X a.place = z := ⟨_, rfl⟩
  have hzz : (z == z) = true := by simp
  obtain ⟨bR, hbR⟩ : ∃ bR : Blk, (if z = 0 then X.cur a.place.toNat else []) = bR := ⟨_, rfl⟩
  obtain ⟨m, hm⟩ : ∃ m : Nat, (if z = 0 then 64 else 0) = m := ⟨_, rfl⟩
  obtain ⟨str, hstr⟩ : ∃ str : ByteArray, (⟨bR.toArray⟩ : ByteArray) = str := ⟨_, rfl⟩
  have hm64 : m ≤ 64 := by rw [← hm]; split <;> omega
  have hval : (if refReadC R a.place = 0 then strV (R.at a.place.toNat (-1)) else .string ⟨#[]⟩) = Value.string str := by
    rw [hl.m.read, hz, ← hstr, ← hbR]
    split
    · rw [hl.m.cur]; rfl
    · rfl
  have HVal := Lib.hid hval
  have HZ := Lib.hid hz
  have HBR := Lib.hid hbR
  have HM := Lib.hid hm
  have HStr := Lib.hid hstr
  clear h hl hz k0 hbR hm hstr hval
  go_enter Try.func45, Try.ntmps45
  go_wp2_with fail
  obtain ⟨w0, hw0⟩ : ∃ w0, w.alloc (.cells #[.int .i64 a.kind, .int .i64 a.place, .int .i64 a.n, .int .i64 a.long, a.kv] 66) = w0 := ⟨_, rfl⟩
  rw [hw0]
  rw [hw0] at hst
  have S0 := Lib.hid hst
  have q0 := cell_of_block hst.box (i := 0) rfl
  have q1 := cell_of_block hst.box (i := 1) rfl
  have q2 := cell_of_block hst.box (i := 2) rfl
  have q3 := cell_of_block hst.box (i := 3) rfl
  have q4 := cell_of_block hst.box (i := 4) rfl
  clear hst hw0
  go_wp2_with (first
    | (go_at_call 35; refine (read_at2 S0.out.duo.x _ ok.place).mono ?_; rw [HZ.out, HBR.out, HM.out]; rintro e w1 ⟨v, rfl, hv, hc1⟩
       obtain ⟨oav, cv, rfl⟩ := own_slice hv
       have hcv := conv_own hv
       rw [HStr.out] at hcv
       have p1 := hc1.cell q1 id
       have HVz := Lib.hid hv
       have DF := Lib.hid (S0.out.duo.fresh hc1)
       clear hv hc1)
    | (go_at_call 69; obtain ⟨bv, lv, hI⟩ := DF.out.y; refine (refread_any _ hI a.place S0.out.rs).mono ?_; rw [HVal.out, S0.out.link.m.read, HZ.out]; rintro e w3 ⟨rfl, rfl⟩
       clear hI))
  have hown : ∀ x, (Value.slice oav m cv).ownBlock = some x → ¬ Fd x ∧ ¬ Fr x ∧ W.heap.size ≤ x := fun x e => by
    have h1 := HVz.out.lt x e
    have h2 := S0.out.lt
    have h4 := S0.out.duo.chg.size
    refine ⟨fun hF => ?_, fun hF => ?_, by omega⟩
    · have := S0.out.fx x hF; omega
    · have := S0.out.fy x hF; omega
  have LF := Lib.hid (S0.out.link.more (Nat.le_succ n))
  have HOwn := Lib.hid hown
  clear hown q0 q1 q2 q3 q4 p1 hcv
  go_loopw [83] (fun j wr => ∃ k : Nat, j = .int .i64 k ∧ k ≤ m ∧ (∃ b' : Blk, wr.ownsRow w0.heap.size 5 1 (.slice oav m cv) m (cellsB b')) ∧ Chg (fun x => (Value.slice oav m cv).ownBlock = some x) w1 wr) (fun j _ => m - (intOf j).toNat)
  · exact ⟨0, rfl, Nat.zero_le _, ⟨_, HVz.out⟩, Chg.refl _ _⟩
  obtain ⟨k, rfl, hk, ⟨b', hb'⟩, hc'⟩ := hrel
  have HC' := Lib.hid hc'
  by_cases hltk : k < m
  · have hkk : (k : Int) < (m : Int) := by omega
    obtain ⟨gg, c, rfl, hcc, hzz, hbg, hbg2, hnext⟩ := inc_at hb' hltk
    have HNext := Lib.hid hnext
    clear hb' hc' hnext
    go_wp2_with fail
    refine ⟨⟨k + 1, by go_num, hltk, ⟨_, HNext.out _ (by first | exact inc_wrap _ | exact inc_mod _)⟩, HC'.out.setCell (p := ⟨gg, k, none⟩) (fun _ => rfl) _⟩, meas_step hltk⟩
  · have hkk : ¬ (k : Int) < (m : Int) := by omega
    clear hb' hc'
    go_wp2_with fail
    go_ret
    refine ⟨(by first | rfl | simp), _, _, _, _, DF.out.keep HC'.out (fun x e => ?_) (fun x e => ?_) (fun x e => ?_), LF.out⟩
    · exact (HOwn.out x e).1
    · exact (HOwn.out x e).2.1
    · exact (HOwn.out x e).2.2

set_option maxHeartbeats 4000000 in
theorem does_3 (w : World) (h : Duo W w d r Fd Fr X R) (hl : Link X R n) (hn : n < 100000) (ok : a.ok W) (k0 : a.kind = 3) :
    Calls Try.prog 45 #[.pointer (some ⟨d, 0, none⟩), .pointer (some ⟨r, 0, none⟩), .agg #[.int .i64 a.kind, .int .i64 a.place, .int .i64 a.n, .int .i64 a.long, a.kv]] w fun e w' => e = .returned (.bool true) ∧ DoesOut W w' d r n := by
  have hst := does_start h hl hn a
  have hk0 : (a.kind == 0) = false := by simp [k0]
  have hk1 : (a.kind == 1) = false := by simp [k0]
  have hk2 : (a.kind == 2) = false := by simp [k0]
  have hk3 : (a.kind == 3) = true := by simp [k0]
  obtain ⟨z, hz⟩ : ∃ z, fuseC X a.n = z := ⟨_, rfl⟩
  have hzz : (z == z) = true := by simp
  have HZ := Lib.hid hz
  clear h hl hz k0
  go_enter Try.func45, Try.ntmps45
  go_wp2_with fail
  obtain ⟨w0, hw0⟩ : ∃ w0, w.alloc (.cells #[.int .i64 a.kind, .int .i64 a.place, .int .i64 a.n, .int .i64 a.long, a.kv] 66) = w0 := ⟨_, rfl⟩
  rw [hw0]
  rw [hw0] at hst
  have S0 := Lib.hid hst
  have q0 := cell_of_block hst.box (i := 0) rfl
  have q1 := cell_of_block hst.box (i := 1) rfl
  have q2 := cell_of_block hst.box (i := 2) rfl
  have q3 := cell_of_block hst.box (i := 3) rfl
  have q4 := cell_of_block hst.box (i := 4) rfl
  clear hst hw0
  have D0 := Lib.hid (S0.out.duo.fresh ((Chg.refl _ _).drew))
  have hbx := S0.out.fx
  have hby := S0.out.fy
  go_region_held3 (fun w' => w'.cell? ⟨w.heap.size, 2, none⟩ = some (.int .i64 a.n)) (go_keep)
    (first
    | (go_at_call 39; refine (fuse_at _ DY.out.x _).mono ?_; rw [HZ.out]; rintro e w2 ⟨rfl, hx, hc2⟩; have b2 := hc2.cell (by assumption) (fun hF => Nat.lt_irrefl _ (S0.out.fx _ hF)); have DF := Lib.hid (DY.out.setX hx hc2); clear hx hc2)
    | (go_at_call 39; refine (fuse_at _ D0.out.x _).mono ?_; rw [HZ.out]; rintro e w2 ⟨rfl, hx, hc2⟩; have b2 := hc2.cell (by assumption) (fun hF => Nat.lt_irrefl _ (S0.out.fx _ hF)); have DX := Lib.hid (D0.out.setX hx hc2); clear hx hc2)
    | (go_at_call 70; obtain ⟨bv, lv, hI⟩ := DX.out.y; refine (setR_any _ hI _).mono ?_; rw [S0.out.link.m.setC, HZ.out]; rintro e w3 ⟨rfl, hy, hc3⟩; have b3 := hc3.cell (by assumption) (fun e => Nat.lt_irrefl _ (S0.out.fy _ (by rw [show w.heap.size = r from e]; exact hI.fr))); have DF := Lib.hid (DX.out.setY ⟨_, _, hy⟩ (hc3.mono (fun k _ e => by rw [e]; exact hI.fr))); clear hI hy hc3)
    | (go_at_call 70; obtain ⟨bv, lv, hI⟩ := D0.out.y; refine (setR_any _ hI _).mono ?_; rw [S0.out.link.m.setC, HZ.out]; rintro e w3 ⟨rfl, hy, hc3⟩; have b3 := hc3.cell (by assumption) (fun e => Nat.lt_irrefl _ (S0.out.fy _ (by rw [show w.heap.size = r from e]; exact hI.fr))); have DY := Lib.hid (D0.out.setY ⟨_, _, hy⟩ (hc3.mono (fun k _ e => by rw [e]; exact hI.fr))); clear hI hy hc3))
  all_goals go_wp2_with fail
  all_goals go_ret
  all_goals refine ⟨rfl, ?_⟩
  all_goals exact ⟨_, _, _, _, DF.out, (S0.out.link.set ok.n).more (Nat.le_succ _)⟩

set_option maxHeartbeats 4000000 in
theorem does_4 (w : World) (h : Duo W w d r Fd Fr X R) (hl : Link X R n) (hn : n < 100000) (ok : a.ok W) (fit : a.fit) (k0 : a.kind = 4) :
    Calls Try.prog 45 #[.pointer (some ⟨d, 0, none⟩), .pointer (some ⟨r, 0, none⟩), .agg #[.int .i64 a.kind, .int .i64 a.place, .int .i64 a.n, .int .i64 a.long, a.kv]] w fun e w' => e = .returned (.bool true) ∧ DoesOut W w' d r n := by
  have hst := does_start h hl hn a
  have hk0 : (a.kind == 0) = false := by simp [k0]
  have hk1 : (a.kind == 1) = false := by simp [k0]
  have hk2 : (a.kind == 2) = false := by simp [k0]
  have hk3 : (a.kind == 3) = false := by simp [k0]
  have hk4 : (a.kind == 4) = true := by simp [k0]
  obtain ⟨oak, lk, ck, hkv⟩ : ∃ oak lk ck, a.kv = .slice oak lk ck := by obtain ⟨oak, ck, e, _⟩ := ok.keep; exact ⟨_, _, _, e⟩
  have HKv := Lib.hid hkv
  obtain ⟨i0, hI0⟩ := info_parts info_int
  have HI0 := Lib.hid hI0
  clear h hl k0 hkv hI0
  go_enter Try.func45, Try.ntmps45
  go_wp2_with fail
  obtain ⟨w0, hw0⟩ : ∃ w0, w.alloc (.cells #[.int .i64 a.kind, .int .i64 a.place, .int .i64 a.n, .int .i64 a.long, a.kv] 66) = w0 := ⟨_, rfl⟩
  rw [hw0]
  rw [hw0] at hst
  have S0 := Lib.hid hst
  have q0 := cell_of_block hst.box (i := 0) rfl
  have q1 := cell_of_block hst.box (i := 1) rfl
  have q2 := cell_of_block hst.box (i := 2) rfl
  have q3 := cell_of_block hst.box (i := 3) rfl
  have q4 := cell_of_block hst.box (i := 4) rfl
  clear hst hw0
  go_wp2_with (first
    | (go_at_call 71; obtain ⟨bv, lv, hI⟩ := S0.out.duo.y; have hcr := refcrash_any _ hI S0.out.rs S0.out.b4 S0.out.rne oak lk ck a.keep (by have := ok.keep.kept S0.out.duo.chg; rw [HKv.out] at this; exact this) ok.each; rw [← HKv.out] at hcr; refine hcr.mono ?_; clear hcr; rintro e w1 ⟨rfl, hy, hc1⟩
       have hD1 := S0.out.duo.growY hy hc1
       have p4 := hc1.cell q4 (fun hF => Nat.lt_irrefl _ (S0.out.fy _ hF))
       have hca := (Chg.refl (fun _ => False) w1).alloc (.cells #[] 3)
       have p5 := hca.cell p4 id
       have hl0 := World.ownsRow_lit (e := 3) (size := 1) w1 #[] 0 (Nat.le_refl _) (by unfold maxLen; omega) rfl
       have hka : SlAt (w1.alloc (.cells #[] 3)) a.kv (a.keep.map (Value.int .i64)) := ok.keep.kept (hD1.chg.trans' hca)
       have hfit : a.keep.length * 8 ≤ 140737488351232 := fit
       obtain ⟨v', w2, hap, hrow, hc2⟩ := run_append_args (w := w1.alloc (.cells #[] 3)) w1.heap.size 41 41 3 i0 (.int .i64 0) 8 Try.underlying41 HI0.out.1 HI0.out.2.1 HI0.out.2.2.1 HI0.out.2.2.2 rfl _ hl0 _ _ hka (by intro x hx; obtain ⟨b, -, rfl⟩ := List.mem_map.1 hx; rfl) (by rw [List.length_map]; exact ok.len) (by rw [List.length_map]; omega) hca.size
       have hD2 := (hD1.fresh hca).keep hc2 (fun k e hF => by have := (hl0.lt k e.symm).1; have := hD1.ltx k hF; omega) (fun k e hF => by have := (hl0.lt k e.symm).1; have := hD1.lty k hF; omega) (fun k e => by have := (hl0.lt k e.symm).1; have := hD1.chg.size; omega)
       have hb1 : ∀ g, v'.ownBlock = some g → w1.heap.size ≤ g := fun g hg => (hrow.lt g hg).1
       have hsl := SlAt.of_own hrow
       have D2 := Lib.hid hD2
       have HSl := Lib.hid hsl
       have HB1 := Lib.hid hb1
       have HC1 := Lib.hid hc1
       clear hI hy hc1 hD1 hca hl0 hka hfit hrow hc2 hD2 hb1 hsl)
    | (at_builtin; refine wpList_append_run rfl _ _ 41 rfl rfl rfl hap ?_)
    | (go_at_call 32; refine (crash_at _ D2.out.x HSl.out (fun _ g hg hF => by have := HB1.out g hg; have := S0.out.fx g hF; have := S0.out.lt; have := HC1.out.size; omega) ok.each S0.out.ls).mono ?_; rintro e w3 ⟨rfl, hx, hc3⟩
       have DF := Lib.hid (D2.out.setX hx hc3)
       clear hx hc3))
  go_ret
  refine ⟨rfl, ?_⟩
  exact ⟨_, _, _, _, DF.out, (S0.out.link.crash a.keep).more (Nat.le_succ _)⟩

set_option maxHeartbeats 4000000 in
theorem does_5 (w : World) (h : Duo W w d r Fd Fr X R) (hl : Link X R n) (hn : n < 100000) (k0 : a.kind ≠ 0) (k1 : a.kind ≠ 1) (k2 : a.kind ≠ 2) (k3 : a.kind ≠ 3) (k4 : a.kind ≠ 4) :
    Calls Try.prog 45 #[.pointer (some ⟨d, 0, none⟩), .pointer (some ⟨r, 0, none⟩), .agg #[.int .i64 a.kind, .int .i64 a.place, .int .i64 a.n, .int .i64 a.long, a.kv]] w fun e w' => e = .returned (.bool true) ∧ DoesOut W w' d r n := by
  have hst := does_start h hl hn a
  have hk0 : (a.kind == 0) = false := by simp [k0]
  have hk1 : (a.kind == 1) = false := by simp [k1]
  have hk2 : (a.kind == 2) = false := by simp [k2]
  have hk3 : (a.kind == 3) = false := by simp [k3]
  have hk4 : (a.kind == 4) = false := by simp [k4]
  clear h hl k0 k1 k2 k3 k4
  go_enter Try.func45, Try.ntmps45
  go_wp2_with fail
  obtain ⟨w0, hw0⟩ : ∃ w0, w.alloc (.cells #[.int .i64 a.kind, .int .i64 a.place, .int .i64 a.n, .int .i64 a.long, a.kv] 66) = w0 := ⟨_, rfl⟩
  rw [hw0]
  rw [hw0] at hst
  have S0 := Lib.hid hst
  have q0 := cell_of_block hst.box (i := 0) rfl
  have q1 := cell_of_block hst.box (i := 1) rfl
  have q2 := cell_of_block hst.box (i := 2) rfl
  have q3 := cell_of_block hst.box (i := 3) rfl
  have q4 := cell_of_block hst.box (i := 4) rfl
  clear hst hw0
  go_wp2_with fail
  go_ret
  exact ⟨rfl, _, _, _, _, S0.out.duo, S0.out.link.more (Nat.le_succ _)⟩

theorem does_any (w : World) (h : Duo W w d r Fd Fr X R) (hl : Link X R n) (hn : n < 100000) (a : DAct) (ok : a.ok W) (fit : a.fit) :
    Calls Try.prog 45 #[.pointer (some ⟨d, 0, none⟩), .pointer (some ⟨r, 0, none⟩), .agg #[.int .i64 a.kind, .int .i64 a.place, .int .i64 a.n, .int .i64 a.long, a.kv]] w fun e w' => e = .returned (.bool true) ∧ DoesOut W w' d r n := by
  by_cases k0 : a.kind = 0
  · exact does_0 w h hl hn ok k0
  by_cases k1 : a.kind = 1
  · exact does_1 w h hl hn k1
  by_cases k2 : a.kind = 2
  · exact does_2 w h hl hn ok k2
  by_cases k3 : a.kind = 3
  · exact does_3 w h hl hn ok k3
  by_cases k4 : a.kind = 4
  · exact does_4 w h hl hn ok fit k4
  exact does_5 w h hl hn k0 k1 k2 k3 k4

end Go.Proofs.Ytomceindibnpnaa.disks
